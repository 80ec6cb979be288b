/- Texts joined: P11, Nw, Nv, Wn12, Wn13, E5, R0, E7. -/
import Derived.Test.YtlejelbefmkakaaGreatJn2
import Derived.WalkMore
import Derived.RangeFuncNested
import Derived.RangeFuncLeaves
import Derived.RangeFuncOwn
import Derived.CallsIn
import Derived.LoopN
import Derived.Deep.Cut
import Derived.Deep.RegionHeld3
import Derived.Deep.RegionLawGrows
import Derived.Deep.AppendLies
/- Chapter 2: Of, the program's and the document's. -/
namespace Go.Proofs.YtlejelbefmkakaaGreat
open Go.RowKit

theorem all1_any (t : T) (w : World) (lo hi : Nat) (ht : t.In w lo hi) (hh : hi ≤ w.heap.size) : Calls Tryz.prog 275 #[t.val] w fun e w' => e = .returned (.bool (!t.v.may)) ∧ Fr No w w' := by
  have IH := fun w' h h' => may_any t w' lo hi h h'
  cases t with
  | mk k n s A cap l r =>
    rw [T.val_mk] at *
    generalize (T.mk k n s A cap l r).v.may = z at *
    cases z
    all_goals
      go_enter Tryz.func275, Tryz.ntmps275
      go_wp2_with fail
      refine (IH _ (ht.no ((Fr.refl No w).alloc _) hh) (by simp; omega)).mono ?_
      rintro e w2 ⟨rfl, fr2⟩
      go_wp2
      go_ret
      exact ⟨rfl, ((Fr.refl No w).alloc _).trans fr2⟩

set_option maxRecDepth 100000 in
set_option maxHeartbeats 4000000 in
theorem indexV_any (A : Option Addr) (cap : Nat) (l : List T) (w : World) (lo hi : Nat) (ht : (T.row A cap l).In w lo hi) (hh : hi ≤ w.heap.size) :
    Calls Tryz.prog 283 #[.slice A l.length cap, .func (.func 275) #[] #[]] w fun e w' => (∃ z : Int, e = .returned (.int .i64 z) ∧ ((0 ≤ z ∧ (l.map T.v).all V.may = false) ∨ (z = -1 ∧ (l.map T.v).all V.may = true))) ∧ Fr No w w' := by
  have hlen := (T.in_mk.1 ht).1.len1
  have hB := all1_any
  go_enter Tryz.func283, Tryz.ntmps283
  go_wp2_with fail
  go_loopw [8] (fun i wr => ∃ j : Nat, j ≤ l.length ∧ i = .int .i64 j ∧ Fr No w wr ∧ ∀ v ∈ (l.map T.v).take j, v.may = true) (fun i _ => l.length - (intOf i).toNat)
  case atStart => exact ⟨0, Nat.zero_le _, rfl, Fr.refl _ _, by simp⟩
  case round =>
    obtain ⟨j, hj, rfl, fr, hall⟩ := hrel
    have HA := hide hall
    have hsz := fr.size
    clear hall
    by_cases hlt : j < l.length
    · obtain ⟨b, o, k1, n1, s1, A1, cap1, l1, r1, rfl, hb0, hb1, hx, hin, e0, e1, e2, e3, e4⟩ := T.elem (ht.no fr hh) hlt
      have hc := hB l[j] wr lo hi (by rw [hx]; exact hin) (by omega)
      have hj' : j < (l.map T.v).length := by simpa using hlt
      have hxv : (l.map T.v)[j] = (T.mk k1 n1 s1 A1 cap1 l1 r1).v := by rw [List.getElem_map, hx]
      rw [hx, T.val_mk] at hc
      generalize (T.mk k1 n1 s1 A1 cap1 l1 r1).v = u at *
      have g0 : b < wr.heap.size := by omega
      have htk : (l.map T.v).take (j + 1) = (l.map T.v).take j ++ [u] := by rw [List.take_succ_eq_append_getElem hj', hxv]
      have hmem : u ∈ l.map T.v := by rw [← hxv]; exact List.getElem_mem hj'
      have HT := hide htk
      have HM := hide hmem
      have HF := hide fr
      clear hx hxv htk hmem fr hin hB ht
      cases hm : u.may with
      | false =>
        rw [hm] at hc
        have HC := hide hc
        have hno : (l.map T.v).all V.may = false := by
          rw [Bool.eq_false_iff]
          intro h
          rw [List.all_eq_true.1 h u HM.out] at hm
          cases hm
        have HN := hide hno
        clear hc hno hm
        go_wp2_with fail
        refine HC.out.mono ?_
        rintro e w2 ⟨rfl, f2⟩
        have HF2 := hide (HF.out.trans f2)
        clear f2
        go_wp2
        go_ret
        exact ⟨⟨_, rfl, .inl ⟨by omega, HN.out⟩⟩, HF2.out⟩
      | true =>
        rw [hm] at hc
        have HC := hide hc
        have HMM := hide hm
        clear hc hm
        go_wp2_with fail
        refine HC.out.mono ?_
        rintro e w2 ⟨rfl, f2⟩
        have HF2 := hide (HF.out.trans f2)
        clear f2
        go_wp2
        go_roundw
        case rel =>
          refine ⟨j + 1, hlt, by go_num, HF2.out, fun v hv => ?_⟩
          rw [HT.out] at hv
          rcases List.mem_append.1 hv with hv | hv
          · exact HA.out v hv
          · simp at hv; subst hv; exact HMM.out
        case measure => simp [intOf]; omega
    · obtain rfl : l.length = j := by omega
      have hyes : (l.map T.v).all V.may = true := List.all_eq_true.2 fun v hv => HA.out v (by rw [List.take_of_length_le (by simp)]; exact hv)
      have HY := hide hyes
      have HF := hide fr
      clear fr hyes ht hB
      go_wp2
      go_ret
      exact ⟨⟨-1, rfl, .inr ⟨rfl, HY.out⟩⟩, HF.out⟩

theorem containsV_any (A : Option Addr) (cap : Nat) (l : List T) (w : World) (lo hi : Nat) (ht : (T.row A cap l).In w lo hi) (hh : hi ≤ w.heap.size) :
    Calls Tryz.prog 274 #[.slice A l.length cap, .func (.func 275) #[] #[]] w fun e w' => e = .returned (.bool (!(l.map T.v).all V.may)) ∧ Fr No w w' := by
  have hI := indexV_any A cap l w lo hi ht hh
  generalize (l.map T.v).all V.may = q at *
  clear ht
  go_enter Tryz.func274, Tryz.ntmps274
  go_wp2_with fail
  refine hI.mono ?_
  rintro e w2 ⟨⟨z, rfl, hz⟩, fr2⟩
  rcases hz with ⟨h0, rfl⟩ | ⟨rfl, rfl⟩
  · have h1 : decide ((0 : Int) ≤ z) = true := by simpa using h0
    go_wp2
    go_ret
    exact ⟨rfl, fr2⟩
  · go_wp2
    go_ret
    exact ⟨rfl, fr2⟩

/-- May all be? -/
theorem allV_any (A : Option Addr) (cap : Nat) (l : List T) (w : World) (lo hi : Nat) (ht : (T.row A cap l).In w lo hi) (hh : hi ≤ w.heap.size) :
    Calls Tryz.prog 255 #[.slice A l.length cap] w fun e w' => e = .returned (.bool ((l.map T.v).all V.may)) ∧ Fr No w w' := by
  have hI := containsV_any A cap l w lo hi ht hh
  generalize (l.map T.v).all V.may = q at *
  clear ht
  cases q
  all_goals
    go_enter Tryz.func255, Tryz.ntmps255
    go_wp2_with fail
    refine hI.mono ?_
    rintro e w2 ⟨rfl, fr2⟩
    go_wp2
    go_ret
    exact ⟨rfl, fr2⟩

/-- What Of answers. -/
def ofV (l : List V) : V × Int := if l.all V.may = true then (if (V.mk 3 0 ⟨#[]⟩ l 0).may = true then (V.mk 3 0 ⟨#[]⟩ l 0, 0) else (V.zero, 4)) else (V.zero, 2)

theorem T.row_v (A : Option Addr) (cap : Nat) (l : List T) : (T.row A cap l).v = V.mk 3 0 ⟨#[]⟩ (l.map T.v) 0 := by rw [T.row, T.v_mk]

/-- A value that is known, and an error's number. -/
def InE (v : V) (n : Int) (w : World) (e : Ending) (w' : World) : Prop :=
  ∃ t' : T, e = .returned (.tuple #[t'.val, .int .i64 n]) ∧ t'.v = v ∧ t'.In w' w.heap.size w'.heap.size ∧ Fr No w w'

set_option maxRecDepth 100000 in
set_option maxHeartbeats 4000000 in
theorem vOf_any (A : Option Addr) (cap : Nat) (l : List T) (w : World) (lo hi : Nat) (ht : (T.row A cap l).In w lo hi) (hh : hi ≤ w.heap.size) :
    Calls Tryz.prog 209 #[.slice A l.length cap] w (OwnE2 (ofV (l.map T.v)).1 (ofV (l.map T.v)).2 w) := by
  have hA := fun w' h h' => allV_any A cap l w' lo hi h h'
  have hM := fun w' h h' => may_any (T.row A cap l) w' lo hi h h'
  have hO := fun w' h h' => own2_any (T.row A cap l) w' lo hi h h'
  rw [T.row_v] at hM hO
  have hval : (T.row A cap l).val = .agg #[.int .u8 3, .int .i64 0, .string ⟨#[]⟩, .slice A l.length cap, .int .i64 0] := rfl
  rw [hval] at hM hO
  clear hval
  have fr0 := (Fr.refl No w).alloc (.cells #[.int .u8 0, .int .i64 0, .string ⟨#[]⟩, .slice none 0 0, .int .i64 0] 28)
  have bz0 := Blk.new w 28 #[.int .u8 0, .int .i64 0, .string ⟨#[]⟩, .slice none 0 0, .int .i64 0]
  have ht0 := ht.no fr0 hh
  have hs0 : w.heap.size < (w.alloc (.cells #[.int .u8 0, .int .i64 0, .string ⟨#[]⟩, .slice none 0 0, .int .i64 0] 28)).heap.size := by simp
  clear ht
  cases ha : (l.map T.v).all V.may with
  | false =>
    have e1 : ofV (l.map T.v) = (V.zero, 2) := by simp only [ofV]; rw [ha]; rfl
    rw [e1]
    rw [ha] at hA
    clear ha e1 hM hO
    go_enter Tryz.func209, Tryz.ntmps209
    go_wp2_with fail
    generalize World.alloc w _ = w0 at *
    refine (hA w0 ht0 (by omega)).mono ?_
    rintro e w2 ⟨rfl, f2⟩
    have bz2 := bz0.fr f2 fun h => h
    obtain ⟨d0, d1, d2, d3, d4, df⟩ := bz2.cells5
    have q0 := bz2.lt
    have HF := hide (fr0.trans f2)
    clear hA ht0 bz0 fr0 f2 bz2
    go_wp2
    refine bodyPost_ret (v := .tuple #[.agg #[.int .u8 0, .int .i64 0, .string ⟨#[]⟩, .slice none 0 0, .int .i64 0], .int .i64 2]) (by simp [results, Tryz.results209, go_sem, *]) rfl ?_
    have hF2 := HF.out
    refine ⟨T.zero, rfl, T.zero_v, T.zero_sh _ _ _, ?_⟩
    repeat (first | with_reducible exact hF2 | with_reducible refine Fr.setNew ?_ (Nat.le_refl _) _)
  | true =>
    rw [ha] at hA
    cases hm : (V.mk 3 0 ⟨#[]⟩ (l.map T.v) 0).may with
    | false =>
      have e1 : ofV (l.map T.v) = (V.zero, 4) := by simp only [ofV]; rw [ha, hm]; rfl
      rw [e1]
      rw [hm] at hM
      clear ha hm e1 hO
      go_enter Tryz.func209, Tryz.ntmps209
      go_wp2_with fail
      generalize World.alloc w _ = w0 at *
      refine (hA w0 ht0 (by omega)).mono ?_
      rintro e w2 ⟨rfl, f2⟩
      have bz2 := bz0.fr f2 fun h => h
      have ht2 := ht0.no f2 (by omega)
      have HF := hide (fr0.trans f2)
      have hs2 := (fr0.trans f2).size
      clear hA ht0 bz0 fr0 f2
      go_wp2_with fail
      have f3 := (Fr.refl No w2).alloc (.cells #[.int .u8 3, .int .i64 0, .string ⟨#[]⟩, .slice A l.length cap, .int .i64 0] 28)
      have HF3 := hide (HF.out.trans f3)
      have bz3 := bz2.fr f3 fun h => h
      have ht3 := ht2.no f3 (by omega)
      have hs3 := f3.size
      clear bz2 ht2 f3
      generalize World.alloc w2 _ = w3 at *
      refine (hM w3 ht3 (by omega)).mono ?_
      rintro e w4 ⟨rfl, f4⟩
      have bz4 := bz3.fr f4 fun h => h
      obtain ⟨d0, d1, d2, d3, d4, df⟩ := bz4.cells5
      have q0 := bz4.lt
      have HF4 := hide (HF3.out.trans f4)
      clear hM ht3 bz3 f4 bz4
      go_wp2
      refine bodyPost_ret (v := .tuple #[.agg #[.int .u8 0, .int .i64 0, .string ⟨#[]⟩, .slice none 0 0, .int .i64 0], .int .i64 4]) (by simp [results, Tryz.results209, go_sem, *]) rfl ?_
      have hF2 := HF4.out
      refine ⟨T.zero, rfl, T.zero_v, T.zero_sh _ _ _, ?_⟩
      repeat (first | with_reducible exact hF2 | with_reducible refine Fr.setNew ?_ (Nat.le_refl _) _)
    | true =>
      have e1 : ofV (l.map T.v) = (V.mk 3 0 ⟨#[]⟩ (l.map T.v) 0, 0) := by simp only [ofV]; rw [ha, hm]; rfl
      rw [e1]
      rw [hm] at hM
      generalize V.mk 3 0 ⟨#[]⟩ (l.map T.v) 0 = u at *
      clear ha hm e1
      go_enter Tryz.func209, Tryz.ntmps209
      go_wp2_with fail
      generalize World.alloc w _ = w0 at *
      refine (hA w0 ht0 (by omega)).mono ?_
      rintro e w2 ⟨rfl, f2⟩
      have bz2 := bz0.fr f2 fun h => h
      have ht2 := ht0.no f2 (by omega)
      have HF := hide (fr0.trans f2)
      have hs2 := (fr0.trans f2).size
      clear hA ht0 bz0 fr0 f2
      have hsz2 : w.heap.size < w2.heap.size := bz2.lt
      go_wp2_with fail
      have f3 := (Fr.refl No w2).alloc (.cells #[.int .u8 3, .int .i64 0, .string ⟨#[]⟩, .slice A l.length cap, .int .i64 0] 28)
      have HF3 := hide (HF.out.trans f3)
      have bz3 := bz2.fr f3 fun h => h
      have bv3 := Blk.new w2 28 #[.int .u8 3, .int .i64 0, .string ⟨#[]⟩, .slice A l.length cap, .int .i64 0]
      have ht3 := ht2.no f3 (by omega)
      have hs3 := f3.size
      clear bz2 ht2 f3
      generalize World.alloc w2 _ = w3 at *
      refine (hM w3 ht3 (by omega)).mono ?_
      rintro e w4 ⟨rfl, f4⟩
      have bz4 := bz3.fr f4 fun h => h
      have bv4 := bv3.fr f4 fun h => h
      have ht4 := ht3.no f4 (by omega)
      obtain ⟨c0, c1, c2, c3, c4, -⟩ := bv4.cells5
      have qv := bv4.lt
      have HF4 := hide (HF3.out.trans f4)
      have hs4 := f4.size
      clear hM ht3 bz3 bv3 f4 bv4
      go_wp2_with fail
      refine (hO w4 ht4 (by omega)).mono ?_
      rintro e w5 ⟨⟨k5, n5, s5, A5, cap5, l5, r5⟩, rfl, hv5, hsh5, f5⟩
      rw [T.val_mk]
      have bz5 := bz4.fr f5 fun h => h
      obtain ⟨d0, d1, d2, d3, d4, df⟩ := bz5.cells5
      have q0 := bz5.lt
      have HF5 := hide (HF4.out.trans f5)
      have HV := hide hv5
      have HSH := hide hsh5
      have hs5 := f5.size
      clear hO ht4 bz4 f5 bz5 hv5 hsh5 c0 c1 c2 c3 c4 qv
      go_wp2
      refine bodyPost_ret (v := .tuple #[.agg #[.int .u8 k5, .int .i64 n5, .string s5, .slice A5 l5.length cap5, .int .i64 r5], .int .i64 0]) (by simp [results, Tryz.results209, go_sem, *]) rfl ?_
      have hF2 := HF5.out
      refine ⟨T.mk k5 n5 s5 A5 cap5 l5 r5, rfl, HV.out, ?_, ?_⟩
      · refine (T.Sh.fr' (S := (· = w.heap.size)) HSH.out ?_ (fun i h0 h1 h2 => by have h' : i = w.heap.size := h2; omega)).more (by omega) (by simp)
        repeat (first | with_reducible exact Fr.refl _ w5 | with_reducible refine Fr.set ?_ (by simp) _)
      · repeat (first | with_reducible exact hF2 | with_reducible refine Fr.setNew ?_ (Nat.le_refl _) _)

end Go.Proofs.YtlejelbefmkakaaGreat

/- Worlds that are not there: what layer 9 answers of them. -/
namespace Go.Proofs.YtlejelbefmkakaaGreat
open Go.RowKit

/-- No world: none, or one that no call made. -/
def NoW (w : World) (p : Option Addr) : Prop := p = none ∨ ∃ b, p = some ⟨b, 0, none⟩ ∧ Blk w b 38 #[.slice none 0 0, .slice none 0 0, .map none, .map none, .int .i64 0, .slice none 0 0]

theorem NoW.no {w w' : World} {p : Option Addr} (h : NoW w p) (f : Fr No w w') : NoW w' p :=
  h.imp id fun ⟨b, e, hb⟩ => ⟨b, e, hb.fr f fun h => h⟩

set_option maxRecDepth 100000 in
theorem none_no {w : World} {p : Option Addr} (h : NoW w p) : Calls Tryz.prog 127 #[.pointer p] w fun e w' => e = .returned (.bool true) ∧ w' = w := by
  rcases h with rfl | ⟨b, rfl, hb⟩
  · go_enter Tryz.func127, Tryz.ntmps127
    go_wp2
    go_ret
    exact ⟨rfl, rfl⟩
  · have c2 : w.cell? ⟨b, 2, none⟩ = some (.map none) := hb.cell 2
    have hq := hb.lt
    have hn : ∀ w : World, (binOp .eql 34 (.map none) (.map none)).run Tryz.prog w = .ok (.bool true) w := fun w => by rfl
    clear hb
    go_enter Tryz.func127, Tryz.ntmps127
    go_wp2
    go_ret
    exact ⟨rfl, rfl⟩

theorem Sides_no {w : World} {p : Option Addr} (h : NoW w p) : Calls Tryz.prog 84 #[.pointer p] w fun e w' => e = .returned (.int .i64 0) ∧ w' = w := by
  have hN := none_no h
  clear h
  go_enter Tryz.func84, Tryz.ntmps84
  go_wp2_with fail
  refine hN.mono ?_
  rintro e w' ⟨rfl, rfl⟩
  go_wp2
  go_ret
  exact ⟨rfl, rfl⟩

theorem there_no {w : World} {p : Option Addr} (h : NoW w p) : Calls Tryz.prog 83 #[.pointer p] w fun e w' => e = .returned (.bool false) ∧ w' = w := by
  have hS := Sides_no h
  rcases h with rfl | ⟨b, rfl, -⟩
  · clear hS
    go_enter Tryz.func83, Tryz.ntmps83
    go_wp2
    go_ret
    exact ⟨rfl, rfl⟩
  · go_enter Tryz.func83, Tryz.ntmps83
    go_wp2_with fail
    refine hS.mono ?_
    rintro e w' ⟨rfl, rfl⟩
    go_wp2
    go_ret
    exact ⟨rfl, rfl⟩

theorem Pair_no {w : World} {p : Option Addr} (h : NoW w p) (home : Int) : Calls Tryz.prog 18 #[.pointer p, .int .i64 home] w fun e w' => e = .returned (.tuple #[.int .i64 0, .int .i64 0, .int .i64 1]) ∧ w' = w := by
  have hT := there_no h
  clear h
  go_enter Tryz.func18, Tryz.ntmps18
  go_wp2_with fail
  refine hT.mono ?_
  rintro e w' ⟨rfl, rfl⟩
  go_wp2
  refine bodyPost_ret (v := .tuple #[.int .i64 0, .int .i64 0, .int .i64 1]) (by simp [results, Tryz.results18, go_sem, *]) rfl ⟨rfl, rfl⟩

theorem spair_no {w : World} {p : Option Addr} (h : NoW w p) (r : Int) : Calls Tryz.prog 91 #[.pointer p, .int .i64 r] w fun e w' => e = .returned (.tuple #[.int .i64 0, .int .i64 1]) ∧ w' = w := by
  have hT := there_no h
  clear h
  go_enter Tryz.func91, Tryz.ntmps91
  go_wp2_with fail
  refine hT.mono ?_
  rintro e w' ⟨rfl, rfl⟩
  go_wp2
  go_ret2
  exact ⟨rfl, rfl⟩

theorem Mark_no {w : World} {p : Option Addr} (h : NoW w p) (r : Int) : Calls Tryz.prog 22 #[.pointer p, .int .i64 r] w fun e w' => e = .returned (.tuple #[.nilIface, .int .i64 1]) ∧ w' = w := by
  have hT := spair_no h r
  clear h
  go_enter Tryz.func22, Tryz.ntmps22
  go_wp2_with fail
  refine hT.mono ?_
  rintro e w' ⟨rfl, rfl⟩
  go_wp2
  go_ret2
  exact ⟨rfl, rfl⟩

theorem Same_no {w : World} {p : Option Addr} (h : NoW w p) (r q : Int) : Calls Tryz.prog 23 #[.pointer p, .int .i64 r, .int .i64 q] w fun e w' => e = .returned (.tuple #[.bool false, .int .i64 1]) ∧ Fr No w w' := by
  have HT := hide (there_no h)
  have HM := hide fun (w' : World) (f : Fr No w w') => Mark_no (h.no f) r
  clear h
  go_enter Tryz.func23, Tryz.ntmps23
  go_wp2_with fail
  refine HT.out.mono ?_
  rintro e w' ⟨rfl, rfl⟩
  go_wp2_with fail
  refine (HM.out w' (Fr.refl No w')).mono ?_
  rintro e w2 ⟨rfl, rfl⟩
  go_wp2
  go_ret2
  exact ⟨rfl, Fr.refl No _⟩

theorem Boxes_no {w : World} {p : Option Addr} (h : NoW w p) (r : Int) : Calls Tryz.prog 24 #[.pointer p, .int .i64 r] w fun e w' => e = .returned (.tuple #[.slice none 0 0, .int .i64 1]) ∧ w' = w := by
  have hT := Mark_no h r
  clear h
  go_enter Tryz.func24, Tryz.ntmps24
  go_wp2_with fail
  refine hT.mono ?_
  rintro e w' ⟨rfl, rfl⟩
  go_wp2
  go_ret2
  exact ⟨rfl, rfl⟩

set_option maxRecDepth 100000 in
set_option maxHeartbeats 1000000 in
theorem Seal_no {w : World} {p : Option Addr} (h : NoW w p) (r : Int) (k n : Int) (s : ByteArray) (A : Option Addr) (len cap : Nat) (r0 : Int) : Calls Tryz.prog 19 #[.pointer p, .int .i64 r, .agg #[.int .u8 k, .int .i64 n, .string s, .slice A len cap, .int .i64 r0]] w fun e w' => e = .returned (.tuple #[.int .i64 0, .int .i64 1]) ∧ Fr No w w' := by
  have HT := hide fun (w' : World) (f : Fr No w w') => there_no (h.no f)
  clear h
  go_enter Tryz.func19, Tryz.ntmps19
  go_wp2_with fail
  refine (HT.out _ ?fr).mono ?_
  case fr => repeat (first | with_reducible exact Fr.refl No w | with_reducible refine Fr.alloc ?_ _ | with_reducible refine Fr.setNew ?_ (by first | (simp; done) | (simp; omega)) _)
  rintro e w' ⟨rfl, rfl⟩
  go_wp2
  refine bodyPost_ret (v := .tuple #[.int .i64 0, .int .i64 1]) (by simp [results, Tryz.results19, go_sem, *]) rfl ⟨rfl, ?_⟩
  repeat (first | with_reducible exact Fr.refl No w | with_reducible refine Fr.alloc ?_ _ | with_reducible refine Fr.setNew ?_ (by first | (simp; done) | (simp; omega)) _)

set_option maxRecDepth 100000 in
set_option maxHeartbeats 1000000 in
theorem Open_no {w : World} {p : Option Addr} (h : NoW w p) (r : Int) (k n : Int) (s : ByteArray) (A : Option Addr) (len cap : Nat) (r0 : Int) : Calls Tryz.prog 20 #[.pointer p, .int .i64 r, .agg #[.int .u8 k, .int .i64 n, .string s, .slice A len cap, .int .i64 r0]] w fun e w' => e = .returned (.tuple #[.agg #[.int .u8 0, .int .i64 0, .string ⟨#[]⟩, .slice none 0 0, .int .i64 0], .int .i64 1]) ∧ Fr No w w' := by
  have HT := hide fun (w' : World) (f : Fr No w w') => there_no (h.no f)
  clear h
  go_enter Tryz.func20, Tryz.ntmps20
  go_wp2_with fail
  refine (HT.out _ ?fr).mono ?_
  case fr => repeat (first | with_reducible exact Fr.refl No w | with_reducible refine Fr.alloc ?_ _ | with_reducible refine Fr.setNew ?_ (by first | (simp; done) | (simp; omega)) _)
  rintro e w' ⟨rfl, rfl⟩
  go_wp2
  refine bodyPost_ret (v := .tuple #[.agg #[.int .u8 0, .int .i64 0, .string ⟨#[]⟩, .slice none 0 0, .int .i64 0], .int .i64 1]) (by simp [results, Tryz.results20, go_sem, *]) rfl ⟨rfl, ?_⟩
  repeat (first | with_reducible exact Fr.refl No w | with_reducible refine Fr.alloc ?_ _ | with_reducible refine Fr.setNew ?_ (by first | (simp; done) | (simp; omega)) _)

set_option maxRecDepth 100000 in
set_option maxHeartbeats 1000000 in
theorem Do_no {w : World} {p : Option Addr} (h : NoW w p) (r : Int) (ab : Int) (k n : Int) (s : ByteArray) (A : Option Addr) (len cap : Nat) (r0 : Int) : Calls Tryz.prog 21 #[.pointer p, .int .i64 r, .int .u8 ab, .agg #[.int .u8 k, .int .i64 n, .string s, .slice A len cap, .int .i64 r0]] w fun e w' => e = .returned (.tuple #[.agg #[.int .u8 0, .int .i64 0, .string ⟨#[]⟩, .slice none 0 0, .int .i64 0], .int .i64 1]) ∧ Fr No w w' := by
  have HT := hide fun (w' : World) (f : Fr No w w') => there_no (h.no f)
  clear h
  go_enter Tryz.func21, Tryz.ntmps21
  go_wp2_with fail
  refine (HT.out _ ?fr).mono ?_
  case fr => repeat (first | with_reducible exact Fr.refl No w | with_reducible refine Fr.alloc ?_ _ | with_reducible refine Fr.setNew ?_ (by first | (simp; done) | (simp; omega)) _)
  rintro e w' ⟨rfl, rfl⟩
  go_wp2
  refine bodyPost_ret (v := .tuple #[.agg #[.int .u8 0, .int .i64 0, .string ⟨#[]⟩, .slice none 0 0, .int .i64 0], .int .i64 1]) (by simp [results, Tryz.results21, go_sem, *]) rfl ⟨rfl, ?_⟩
  repeat (first | with_reducible exact Fr.refl No w | with_reducible refine Fr.alloc ?_ _ | with_reducible refine Fr.setNew ?_ (by first | (simp; done) | (simp; omega)) _)

set_option maxRecDepth 100000 in
set_option maxHeartbeats 1000000 in
theorem Unlocked_no {w : World} {p : Option Addr} (h : NoW w p) (k n : Int) (s : ByteArray) (A : Option Addr) (len cap : Nat) (r0 : Int) : Calls Tryz.prog 25 #[.pointer p, .agg #[.int .u8 k, .int .i64 n, .string s, .slice A len cap, .int .i64 r0]] w fun e w' => e = .returned (.tuple #[.slice none 0 0, .int .i64 1]) ∧ Fr No w w' := by
  have HT := hide fun (w' : World) (f : Fr No w w') => there_no (h.no f)
  have hb := (Blk.new w 31 #[.pointer p]).alloc (.cells #[.int .u8 k, .int .i64 n, .string s, .slice A len cap, .int .i64 r0] 28)
  have HF := hide (((Fr.refl No w).alloc (.cells #[.pointer p] 31)).alloc (.cells #[.int .u8 k, .int .i64 n, .string s, .slice A len cap, .int .i64 r0] 28))
  have c0 := hb.cell 0
  simp only [List.getElem?_toArray, List.getElem?_cons_zero] at c0
  have hq := hb.lt
  clear hb
  clear h
  go_enter Tryz.func25, Tryz.ntmps25
  go_wp2_with fail
  go_step3
  go_wp2_with fail
  generalize World.alloc (World.alloc w _) _ = W0 at *
  refine (HT.out W0 HF.out).mono ?_
  rintro e w' ⟨rfl, rfl⟩
  go_wp2
  rw [Exit.noGoto_ret]
  refine bodyPost_ret (v := .tuple #[.slice none 0 0, .int .i64 1]) (by simp [results, Tryz.results25, go_sem, *]) rfl ⟨rfl, ?_⟩
  repeat (first | with_reducible exact HF.out | with_reducible refine Fr.alloc ?_ _ | with_reducible refine Fr.setNew ?_ (by first | (simp; done) | (simp; omega)) _)

end Go.Proofs.YtlejelbefmkakaaGreat

/- Worlds that are not there: no pairs are gone over. -/
namespace Go.Proofs.YtlejelbefmkakaaGreat
open Go.RowKit

theorem wp_rangeFunc_none {P : Program} {g : Operand} {ps : Array Tmp} {assign body : Code} {Q : Exit → Act → World → Prop} {a : Act} {w : World} {gf : Nat} {lb : Array Value} (hg : a.eval g = .func (.func gf) #[] lb)
    (eg : ∀ args w, (callFunc gf args).run P w = .ok (.enter gf args) w)
    (hcall : ∀ (l : Nat) (W1 : World), Below w.heap.size w W1 → Calls P gf (#[.func (.yield l) #[] #[]] ++ lb) W1 fun e W2 => (∃ v, e = .returned v) ∧ Fr No W1 W2)
    (hQ : ∀ (D : Nat) (W : World), Below w.heap.size w W → W.heap[D]? = some (.deferred (some [])) → w.heap.size ≤ D → Q .normal { a with defers := { target := .collected D, args := #[] } :: a.defers } W) :
    (Code.rangeFunc g ps assign body).wp P Q a w := by
  refine (wpIn_wide (n := 3)).1 ?_
  refine wpIn_rangeFunc ?_
  intro fn hfn
  obtain ⟨rec, hrec⟩ : ∃ rec : LoopState → Option Code → Loop, rec = fun st pe => { state := st, pending := pe, fn, tmps := a.tmps, params := ps, assign, body, defers := w.heap.size } := ⟨_, rfl⟩
  obtain ⟨W1, hW1⟩ : ∃ W1, (w.alloc (.deferred (some []))).alloc (.loop (rec .ready none)) = W1 := ⟨_, rfl⟩
  have hL1 : W1.heap[w.heap.size + 1]? = some (.loop (rec .ready none)) := by
    rw [← hW1]; have := World.alloc_heap_new (w.alloc (.deferred (some []))) (.loop (rec .ready none)); rwa [World.size_alloc] at this
  have hK1 : W1.heap[w.heap.size]? = some (.deferred (some [])) := by
    rw [← hW1]; exact (Below.heap_alloc _ _ _ (by simp)).trans (World.alloc_heap_new w _)
  have hb1 : Below w.heap.size w W1 := by
    rw [← hW1]; exact (((Below.refl _ w).alloc (Nat.le_refl _) _).alloc (by simp) _)
  refine ⟨w.heap.size + 1, [{ target := .collected w.heap.size, args := #[] }], W1, { target := .fn (.func gf) lb, args := #[.func (.yield (w.heap.size + 1)) #[] #[]] }, W1, gf,
    #[.func (.yield (w.heap.size + 1)) #[] #[]] ++ lb, W1, ?_, ?_, ?_, ?_, (fun h => by cases h), ?_⟩
  · rw [← hW1, hrec]; exact run_enterLoop_outer _ _ _ _ _
  · simp only [resolve, hg]
    simp [go_sem]
  · intro f' _; trivial
  · simp [invoke, go_sem, eg]
  · refine (callsIn_wide.2 (hcall _ W1 hb1)).mono ?_
    rintro e W2 ⟨⟨v, rfl⟩, f2⟩
    have hl1 := lt_of_heap hL1
    have hk1 := lt_of_heap hK1
    have hL2 := (f2.block _ hl1 (fun h => h)).trans hL1
    have hK2 := (f2.block _ hk1 (fun h => h)).trans hK1
    have hb2 : Below w.heap.size w W2 := by
      have := (Fr.ofBelow hb1).trans f2
      exact this.noBelow
    refine ⟨none, _, by have := run_endLoop (P := P) hL2 (by rw [hrec]; simp); rw [hrec] at this; exact this, ?_⟩
    refine hQ _ _ ?_ ?_ (Nat.le_refl _)
    · exact hb2.grown (grownBy_putObj' _ _ _) (Nat.le_trans (Nat.le_refl _) hb2.size) (fun k e => by cases e; omega)
    · exact (World.putObj_heap_other (by omega)).trans hK2

theorem enters_fn {P : Program} {f : FuncId} {fn : Func} {c : Code} (hf : P.funcs[f]? = some fn) (hname : (fn.name == "runtime.NumGoroutine") = false) (hb : fn.body = some c) : ∀ args w, (callFunc f args).run P w = .ok (.enter f args) w := by
  intro args w
  have h1 : fn.name ≠ "runtime.NumGoroutine" := by simpa using hname
  simp [callFunc, hf, h1, hb, mark]

theorem Fr.putObj {S : Nat → Prop} {a w : World} (h : Fr S a w) {l : Nat} (hl : l < a.heap.size → S l) (o : Obj) : Fr S a (w.putObj l o) :=
  h.grown (grownBy_putObj' w l o) fun k e hk => by cases e; exact hl hk

theorem def_kept {w W : World} {D : Nat} {o : Obj} (h : w.heap[D]? = some o) (f : Fr No w W) : W.heap[D]? = some o := (f.block D (lt_of_heap h) (fun h => h)).trans h

theorem Pairs_fn (p : Option Addr) (w : World) : Calls Tryz.prog 98 #[.pointer p] w fun e w' => ∃ b, e = .returned (.func (.func 168) #[] #[.pointer (some ⟨b, 0, none⟩)]) ∧ Blk w' b 31 #[.pointer p] ∧ Fr No w w' := by
  go_enter Tryz.func98, Tryz.ntmps98
  go_wp2
  go_ret
  exact ⟨_, rfl, Blk.new w _ _, (Fr.refl No w).alloc _⟩

theorem Pairs1_no {w : World} {p : Option Addr} (h : NoW w p) {b : Nat} (hb : Blk w b 31 #[.pointer p]) (l : Nat) : Calls Tryz.prog 168 #[.func (.yield l) #[] #[], .pointer (some ⟨b, 0, none⟩)] w fun e w' => (∃ v, e = .returned v) ∧ Fr No w w' := by
  have HT := hide fun (w' : World) (f : Fr No w w') => there_no (h.no f)
  have hq := hb.lt
  have c0 : w.cell? ⟨b, 0, none⟩ = some (.pointer p) := hb.cell 0
  have HF := hide ((Fr.refl No w).alloc (.cells #[.func (.yield l) #[] #[]] 240))
  clear h hb
  go_enter Tryz.func168, Tryz.ntmps168
  go_wp2_with fail
  refine (HT.out _ HF.out).mono ?_
  rintro e w' ⟨rfl, rfl⟩
  go_wp2
  refine bodyPost_ret (results_none rfl _ _ _) rfl ?_
  exact ⟨⟨_, rfl⟩, HF.out⟩

end Go.Proofs.YtlejelbefmkakaaGreat

/- Worlds that are not there: what layer 12 answers of them. -/
namespace Go.Proofs.YtlejelbefmkakaaGreat
open Go.RowKit

theorem gath_no {w : World} {p : Option Addr} (h : NoW w p) : Calls Tryz.prog 99 #[.pointer p] w fun e w' => e = .returned (.bool false) ∧ w' = w := by
  have hS := Sides_no h
  rcases h with rfl | ⟨b, rfl, -⟩
  · clear hS
    go_enter Tryz.func99, Tryz.ntmps99
    go_wp2
    go_ret
    exact ⟨rfl, rfl⟩
  · go_enter Tryz.func99, Tryz.ntmps99
    go_wp2_with fail
    refine hS.mono ?_
    rintro e w' ⟨rfl, rfl⟩
    go_wp2
    go_ret
    exact ⟨rfl, rfl⟩

theorem GNew_no {w : World} {p : Option Addr} (h : NoW w p) (home a : Int) : Calls Tryz.prog 29 #[.pointer p, .int .i64 home, .int .i64 a] w fun e w' => e = .returned (.tuple #[.int .i64 0, .int .i64 0, .int .i64 1]) ∧ w' = w := by
  have hT := gath_no h
  clear h
  go_enter Tryz.func29, Tryz.ntmps29
  go_wp2_with fail
  refine hT.mono ?_
  rintro e w' ⟨rfl, rfl⟩
  go_wp2
  refine bodyPost_ret (v := .tuple #[.int .i64 0, .int .i64 0, .int .i64 1]) (by simp [results, Tryz.results29, go_sem, *]) rfl ⟨rfl, rfl⟩

theorem GIsCut_no {w : World} {p : Option Addr} (h : NoW w p) (a : Int) : Calls Tryz.prog 30 #[.pointer p, .int .i64 a] w fun e w' => e = .returned (.tuple #[.bool false, .int .i64 1]) ∧ w' = w := by
  have hT := gath_no h
  clear h
  go_enter Tryz.func30, Tryz.ntmps30
  go_wp2_with fail
  refine hT.mono ?_
  rintro e w' ⟨rfl, rfl⟩
  go_wp2
  go_ret2
  exact ⟨rfl, rfl⟩

theorem GOf_no {w : World} {p : Option Addr} (h : NoW w p) (a : Int) : Calls Tryz.prog 32 #[.pointer p, .int .i64 a] w fun e w' => e = .returned (.tuple #[.int .i64 0, .int .i64 1]) ∧ w' = w := by
  have hT := gath_no h
  clear h
  go_enter Tryz.func32, Tryz.ntmps32
  go_wp2_with fail
  refine hT.mono ?_
  rintro e w' ⟨rfl, rfl⟩
  go_wp2
  go_ret2
  exact ⟨rfl, rfl⟩

theorem GCut_no {w : World} {p : Option Addr} (h : NoW w p) (a : Int) : Calls Tryz.prog 37 #[.pointer p, .int .i64 a] w fun e w' => e = .returned (.int .i64 1) ∧ w' = w := by
  have hT := gath_no h
  clear h
  go_enter Tryz.func37, Tryz.ntmps37
  go_wp2_with fail
  refine hT.mono ?_
  rintro e w' ⟨rfl, rfl⟩
  go_wp2
  go_ret
  exact ⟨rfl, rfl⟩

theorem GGates_no {w : World} {p : Option Addr} (h : NoW w p) (a : Int) : Calls Tryz.prog 33 #[.pointer p, .int .i64 a] w fun e w' => e = .returned (.tuple #[.slice none 0 0, .int .i64 1]) ∧ w' = w := by
  have hT := gath_no h
  clear h
  go_enter Tryz.func33, Tryz.ntmps33
  go_wp2_with fail
  refine hT.mono ?_
  rintro e w' ⟨rfl, rfl⟩
  go_wp2
  go_ret2
  exact ⟨rfl, rfl⟩

set_option maxRecDepth 100000 in
set_option maxHeartbeats 1000000 in
theorem GDo_no {w : World} {p : Option Addr} (h : NoW w p) (r : Int) (ab : Int) (k n : Int) (s : ByteArray) (A : Option Addr) (len cap : Nat) (r0 : Int) : Calls Tryz.prog 31 #[.pointer p, .int .i64 r, .int .u8 ab, .agg #[.int .u8 k, .int .i64 n, .string s, .slice A len cap, .int .i64 r0]] w fun e w' => e = .returned (.tuple #[.agg #[.int .u8 0, .int .i64 0, .string ⟨#[]⟩, .slice none 0 0, .int .i64 0], .int .i64 1]) ∧ Fr No w w' := by
  have HT := hide fun (w' : World) (f : Fr No w w') => gath_no (h.no f)
  clear h
  go_enter Tryz.func31, Tryz.ntmps31
  go_wp2_with fail
  refine (HT.out _ ?fr).mono ?_
  case fr => repeat (first | with_reducible exact Fr.refl No w | with_reducible refine Fr.alloc ?_ _ | with_reducible refine Fr.setNew ?_ (by first | (simp; done) | (simp; omega)) _)
  rintro e w' ⟨rfl, rfl⟩
  go_wp2
  refine bodyPost_ret (v := .tuple #[.agg #[.int .u8 0, .int .i64 0, .string ⟨#[]⟩, .slice none 0 0, .int .i64 0], .int .i64 1]) (by simp [results, Tryz.results31, go_sem, *]) rfl ⟨rfl, ?_⟩
  repeat (first | with_reducible exact Fr.refl No w | with_reducible refine Fr.alloc ?_ _ | with_reducible refine Fr.setNew ?_ (by first | (simp; done) | (simp; omega)) _)

theorem GFirst_no {w : World} {p : Option Addr} (h : NoW w p) (a : Int) : Calls Tryz.prog 34 #[.pointer p, .int .i64 a] w fun e w' => e = .returned (.tuple #[.int .i64 0, .bool false]) ∧ Fr No w w' := by
  have HT := hide fun (w' : World) (f : Fr No w w') => gath_no (h.no f)
  clear h
  go_enter Tryz.func34, Tryz.ntmps34
  go_wp2_with fail
  refine (HT.out _ ?fr).mono ?_
  case fr => repeat (first | with_reducible exact Fr.refl No w | with_reducible refine Fr.alloc ?_ _ | with_reducible refine Fr.setNew ?_ (by first | (simp; done) | (simp; omega)) _)
  rintro e w' ⟨rfl, rfl⟩
  go_wp2
  refine bodyPost_ret (v := .tuple #[.int .i64 0, .bool false]) (by simp [results, Tryz.results34, go_sem, *]) rfl ⟨rfl, ?_⟩
  repeat (first | with_reducible exact Fr.refl No w | with_reducible refine Fr.alloc ?_ _ | with_reducible refine Fr.setNew ?_ (by first | (simp; done) | (simp; omega)) _)

theorem GBehind_no {w : World} {p : Option Addr} (h : NoW w p) (a : Int) : Calls Tryz.prog 35 #[.pointer p, .int .i64 a] w fun e w' => e = .returned (.tuple #[.slice none 0 0, .int .i64 1]) ∧ Fr No w w' := by
  have HT := hide fun (w' : World) (f : Fr No w w') => gath_no (h.no f)
  clear h
  go_enter Tryz.func35, Tryz.ntmps35
  go_wp2_with fail
  refine (HT.out _ ?fr).mono ?_
  case fr => repeat (first | with_reducible exact Fr.refl No w | with_reducible refine Fr.alloc ?_ _ | with_reducible refine Fr.setNew ?_ (by first | (simp; done) | (simp; omega)) _)
  rintro e w' ⟨rfl, rfl⟩
  go_wp2
  refine bodyPost_ret (v := .tuple #[.slice none 0 0, .int .i64 1]) (by simp [results, Tryz.results35, go_sem, *]) rfl ⟨rfl, ?_⟩
  repeat (first | with_reducible exact Fr.refl No w | with_reducible refine Fr.alloc ?_ _ | with_reducible refine Fr.setNew ?_ (by first | (simp; done) | (simp; omega)) _)

theorem GStop_no {w : World} {p : Option Addr} (h : NoW w p) (a b : Value) : Calls Tryz.prog 36 #[.pointer p, a, b] w fun e w' => e = .returned (.tuple #[.slice none 0 0, .int .i64 1]) ∧ Fr No w w' := by
  have HT := hide (gath_no h)
  clear h
  go_enter Tryz.func36, Tryz.ntmps36
  go_wp2_with fail
  try go_step3
  try go_wp2_with fail
  refine HT.out.mono ?_
  rintro e w' ⟨rfl, rfl⟩
  go_wp2
  try rw [Exit.noGoto_ret]
  refine bodyPost_ret (v := .tuple #[.slice none 0 0, .int .i64 1]) (by simp [results, Tryz.results36, go_sem, *]) rfl ⟨rfl, Fr.refl _ _⟩

theorem Shut_fn (p : Option Addr) (w : World) : Calls Tryz.prog 56 #[.pointer p] w fun e w' => ∃ b, e = .returned (.func (.func 132) #[] #[.pointer (some ⟨b, 0, none⟩)]) ∧ Blk w' b 31 #[.pointer p] ∧ Fr No w w' := by
  go_enter Tryz.func56, Tryz.ntmps56
  go_wp2
  go_ret
  exact ⟨_, rfl, Blk.new w _ _, (Fr.refl No w).alloc _⟩

theorem Shut1_no {w : World} {p : Option Addr} (h : NoW w p) {b : Nat} (hb : Blk w b 31 #[.pointer p]) (l : Nat) : Calls Tryz.prog 132 #[.func (.yield l) #[] #[], .pointer (some ⟨b, 0, none⟩)] w fun e w' => (∃ v, e = .returned v) ∧ Fr No w w' := by
  have HT := hide (gath_no h)
  have hq := hb.lt
  have c0 : w.cell? ⟨b, 0, none⟩ = some (.pointer p) := hb.cell 0
  clear h hb
  go_enter Tryz.func132, Tryz.ntmps132
  go_wp2_with fail
  refine HT.out.mono ?_
  rintro e w' ⟨rfl, rfl⟩
  go_wp2
  refine bodyPost_ret (results_none rfl _ _ _) rfl ?_
  exact ⟨⟨_, rfl⟩, Fr.refl _ _⟩

end Go.Proofs.YtlejelbefmkakaaGreat

/- posternlaw12.walk of a world that is not there. -/
namespace Go.Proofs.YtlejelbefmkakaaGreat
open Go.RowKit

/-- What stands ahead of a turn: the boxes of pairs. -/
structure PW (w : World) (p : Option Addr) (gf : Nat) (wr : World) : Prop where
  fr : Fr No w wr
  no : NoW wr p
  b4 : Blk wr w.heap.size 121 #[.slice none 0 0]
  b5 : Blk wr (w.heap.size + 1) 3 #[.int .i64 1]
  b6 : Blk wr (w.heap.size + 1 + 1) 4 #[.bool false]
  bf : Blk wr gf 31 #[.pointer p]

theorem PW.non {w w1 w2 : World} {p : Option Addr} {bf : Nat} (h : PW w p bf w1) (f : Fr No w1 w2) : PW w p bf w2 :=
  ⟨h.fr.trans f, h.no.no f, h.b4.fr f fun h => h, h.b5.fr f fun h => h, h.b6.fr f fun h => h, h.bf.fr f fun h => h⟩

theorem PW.set {w w0 w1 : World} {p : Option Addr} {gf g : Nat} {u : Value} (h0 : PW w p gf w0) (hg : w0.heap.size ≤ g) (h : PW w p gf w1) : PW w p gf (w1.setCell ⟨g, 0, none⟩ u) := by
  have hw := h0.fr.size
  have l4 := h0.b4.lt
  have l5 := h0.b5.lt
  have l6 := h0.b6.lt
  have lf := h0.bf.lt
  refine ⟨h.fr.setNew (by show w.heap.size ≤ g; omega) _, ?_, h.b4.far (by show w.heap.size ≠ g; omega) _, h.b5.far (by show w.heap.size + 1 ≠ g; omega) _, h.b6.far (by show w.heap.size + 1 + 1 ≠ g; omega) _, h.bf.far (by show gf ≠ g; omega) _⟩
  rcases h0.no with rfl | ⟨b, rfl, hb⟩
  · exact .inl rfl
  · have := hb.lt
    rcases h.no with q | ⟨b', q, hb'⟩
    · cases q
    · simp only [Option.some.injEq, Addr.mk.injEq, and_true] at q
      subst q
      exact .inr ⟨b, rfl, hb'.far (by show b ≠ g; omega) _⟩

set_option maxRecDepth 100000 in
set_option maxHeartbeats 8000000 in
theorem walk_no {w : World} {p : Option Addr} (h : NoW w p) : Calls Tryz.prog 38 #[.pointer p, .slice none 0 0, .int .i64 1] w fun e w' => e = .returned (.bool true) ∧ Fr No w w' := by
  have hf0 := (((Fr.refl No w).alloc (.cells #[.slice none 0 0] 121)).alloc (.cells #[.int .i64 1] 3)).alloc (.cells #[.bool false] 4)
  have h4 := ((Blk.new w 121 #[.slice none 0 0]).alloc (.cells #[.int .i64 1] 3)).alloc (.cells #[.bool false] 4)
  have h5 := (Blk.new' (w.alloc (.cells #[.slice none 0 0] 121)) 3 #[.int .i64 1] (g := w.heap.size + 1) (by simp)).alloc (.cells #[.bool false] 4)
  have h6 := Blk.new' ((w.alloc (.cells #[.slice none 0 0] 121)).alloc (.cells #[.int .i64 1] 3)) 4 #[.bool false] (g := w.heap.size + 1 + 1) (by simp)
  have HP := hide (fun W => Shut_fn p W)
  have HNO := hide (h.no hf0)
  have H0 := hide (And.intro hf0 (And.intro h4 (And.intro h5 h6)))
  clear h hf0 h4 h5 h6
  have hfe : ∀ (w : World) (b : Nat), (binOp .eql 109 (.func (.func 132) #[] #[.pointer (some ⟨b, 0, none⟩)]) .nilFunc).run Tryz.prog w = .ok (.bool false) w := fun w b => by rfl
  refine (callsIn_wide (n := 5)).1 ?_
  refine callsIn_of_wp_marks Tryz.func38 rfl trivial ?_
  simp only [Tryz.ntmps38, List.size_toArray, List.length_cons, List.length_nil, Nat.reduceAdd, Nat.reduceSub, Array.replicate_succ, Array.replicate_zero, List.push_toArray, List.append_toArray, List.nil_append, List.cons_append]
  refine wpIn_wide.2 ?_
  go_wp2_with fail
  generalize World.alloc (World.alloc (World.alloc w _) _) _ = W0 at *
  refine (HP.out W0).mono ?_
  rintro e w1 ⟨bf, rfl, hbf, f1⟩
  obtain ⟨hf0, h4, h5, h6⟩ := H0.out
  have HPN : Hid (PW w p bf w1) := hide ⟨hf0.trans f1, HNO.out.no f1, h4.fr f1 fun h => h, h5.fr f1 fun h => h, h6.fr f1 fun h => h, hbf⟩
  clear hf0 h4 h5 h6 f1 hbf HNO H0 HP
  go_wp2_with fail
  have HN2 := hide (HPN.out.non ((Fr.refl No w1).alloc (.cells #[.int .i64 0] 3)))
  have HB8 := hide (Blk.new w1 3 #[.int .i64 0])
  clear HPN
  generalize hg8 : w1.heap.size = g8 at *
  generalize World.alloc w1 _ = w2 at *
  refine wp_loop_rounds 3 ?_
  rw [rounds_succ]
  have c8 : w2.cell? ⟨g8, 0, none⟩ = some (.int .i64 0) := HB8.out.cell 0
  have q8 := HB8.out.lt
  go_wp2_with fail
  have HN3 := hide (HN2.out.non ((Fr.refl No w2).alloc (.cells #[.int .i64 0] 3)))
  have HB83 := hide (HB8.out.alloc (.cells #[.int .i64 0] 3))
  have HB93 := hide (Blk.new w2 3 #[.int .i64 0])
  clear c8 q8 HN2 HB8
  generalize hg9 : w2.heap.size = g9 at *
  generalize World.alloc w2 _ = w3 at *
  refine wp_rangeFunc_none rfl (enters_fn Tryz.func132 (by kernel_rfl) rfl) ?_ ?_
  · intro l W1 hb
    have fb := Fr.ofBelow hb
    exact Shut1_no (HN3.out.no.no fb) (HN3.out.bf.fr fb fun h => h) l
  intro D0 w4 hb hd hge
  have frD := Fr.ofBelow hb
  have HN4 := hide (HN3.out.non frD)
  have HB84 := hide (HB83.out.fr frD fun h => h)
  have HB94 := hide (HB93.out.fr frD fun h => h)
  have HD0 := hide hd
  have HGE0 := hide (Nat.le_trans HN3.out.fr.size hge)
  clear hb hd hge frD HN3 HB83 HB93
  have c9 : w4.cell? ⟨g9, 0, none⟩ = some (.int .i64 0) := HB94.out.cell 0
  have q9 := HB94.out.lt
  have c8 : w4.cell? ⟨g8, 0, none⟩ = some (.int .i64 0) := HB84.out.cell 0
  have q8 := HB84.out.lt
  have c4 : w4.cell? ⟨w.heap.size, 0, none⟩ = some (.slice none 0 0) := HN4.out.b4.cell 0
  have q4 := HN4.out.b4.lt
  go_upto_region 18 with (fail)
  clear c9 q9 c8 q8 c4 q4
  have HN5 := hide (HN4.out.non ((Fr.refl No w4).alloc (.cells #[.int .i64 0] 3)))
  have HB5 := hide (Blk.new w4 3 #[.int .i64 0])
  have HD05 := hide (def_kept HD0.out ((Fr.refl No w4).alloc (.cells #[.int .i64 0] 3)))
  have HG5 := hide HN4.out.fr.size
  generalize hg5 : w4.heap.size = g5 at *
  have c5 : (w4.alloc (.cells #[.int .i64 0] 3)).cell? ⟨g5, 0, none⟩ = some (.int .i64 0) := HB5.out.cell 0
  have f5 := HB5.out.frozen 0
  have q5 := HB5.out.lt
  go_upto_region 6 with (fail)
  generalize World.alloc w4 _ = w5 at *
  go_wp2_with fail
  have HN6 := hide (HN4.out.set (g := g5) (u := .int .i64 1) (by omega) HN5.out)
  have HB6 := hide (HB5.out.set_ 0 (.int .i64 1))
  have HD6 := hide ((Below.heap_setCell w5 ⟨g5, 0, none⟩ (.int .i64 1) D0 (by have := lt_of_heap HD0.out; show D0 ≠ g5; omega)).trans HD05.out)
  clear c5 f5 q5 HN4 HN5 HB5 HD05 HD0 HB84 HB94
  generalize World.setCell w5 _ _ = w6 at *
  rw [rounds_succ]
  have c5 : w6.cell? ⟨g5, 0, none⟩ = some (.int .i64 1) := HB6.out.cell 0
  have q5 := HB6.out.lt
  go_wp2_with fail
  have HN7 := hide (HN6.out.non ((Fr.refl No w6).alloc (.cells #[.int .i64 0] 3)))
  have HB57 := hide (HB6.out.alloc (.cells #[.int .i64 0] 3))
  have HB97 := hide (Blk.new w6 3 #[.int .i64 0])
  have HD7 := hide (def_kept HD6.out ((Fr.refl No w6).alloc (.cells #[.int .i64 0] 3)))
  clear c5 q5 HN6 HB6 HD6
  generalize hg9 : w6.heap.size = g9' at *
  generalize World.alloc w6 _ = w7 at *
  refine wp_rangeFunc_none rfl (enters_fn Tryz.func132 (by kernel_rfl) rfl) ?_ ?_
  · intro l W1 hb
    have fb := Fr.ofBelow hb
    exact Shut1_no (HN7.out.no.no fb) (HN7.out.bf.fr fb fun h => h) l
  intro D1 w8 hb hd hge
  have frD := Fr.ofBelow hb
  have HN8 := hide (HN7.out.non frD)
  have HB58 := hide (HB57.out.fr frD fun h => h)
  have HB98 := hide (HB97.out.fr frD fun h => h)
  have HD08 := hide (def_kept HD7.out frD)
  have HD1 := hide hd
  have HGE1 := hide (Nat.le_trans HN7.out.fr.size hge)
  have HNE := hide (show D0 ≠ D1 by have := lt_of_heap HD7.out; omega)
  clear hb hd hge frD HN7 HB57 HB97 HD7
  have c9 : w8.cell? ⟨g9', 0, none⟩ = some (.int .i64 0) := HB98.out.cell 0
  have q9 := HB98.out.lt
  have c8 : w8.cell? ⟨g5, 0, none⟩ = some (.int .i64 1) := HB58.out.cell 0
  have q8 := HB58.out.lt
  have c4 : w8.cell? ⟨w.heap.size, 0, none⟩ = some (.slice none 0 0) := HN8.out.b4.cell 0
  have q4 := HN8.out.b4.lt
  go_upto_region 18 with (fail)
  clear c9 q9 c8 q8 c4 q4
  have HN9 := hide (HN8.out.non ((Fr.refl No w8).alloc (.cells #[.int .i64 1] 3)))
  have HB9 := hide (Blk.new w8 3 #[.int .i64 1])
  have HD09 := hide (def_kept HD08.out ((Fr.refl No w8).alloc (.cells #[.int .i64 1] 3)))
  have HD19 := hide (def_kept HD1.out ((Fr.refl No w8).alloc (.cells #[.int .i64 1] 3)))
  have HG9 := hide HN8.out.fr.size
  have hd0 := lt_of_heap HD08.out
  have hd1 := lt_of_heap HD1.out
  generalize hga : w8.heap.size = ga at *
  have ca : (w8.alloc (.cells #[.int .i64 1] 3)).cell? ⟨ga, 0, none⟩ = some (.int .i64 1) := HB9.out.cell 0
  have fa := HB9.out.frozen 0
  have qa := HB9.out.lt
  go_upto_region 6 with (fail)
  generalize World.alloc w8 _ = w9 at *
  go_wp2_with fail
  have HNa := hide (HN8.out.set (g := ga) (u := .int .i64 2) (by omega) HN9.out)
  have HBa := hide (HB9.out.set_ 0 (.int .i64 2))
  have HD0a := hide ((Below.heap_setCell w9 ⟨ga, 0, none⟩ (.int .i64 2) D0 (by show D0 ≠ ga; omega)).trans HD09.out)
  have HD1a := hide ((Below.heap_setCell w9 ⟨ga, 0, none⟩ (.int .i64 2) D1 (by show D1 ≠ ga; omega)).trans HD19.out)
  clear ca fa qa HN8 HN9 HB9 HD09 HD19 HD08 HD1 HB58 HB98 hd0 hd1
  generalize World.setCell w9 _ _ = wY at *
  rw [rounds_succ]
  have ca : wY.cell? ⟨ga, 0, none⟩ = some (.int .i64 2) := HBa.out.cell 0
  have qa := HBa.out.lt
  have hbr := HNa.out.b6
  have r0 : wY.cell? ⟨w.heap.size + 1 + 1, 0, none⟩ = some (.bool false) := hbr.cell 0
  have r1 := hbr.frozen 0
  have rq := hbr.lt
  have hRne : ∀ (D : Nat) (o : Obj), wY.heap[D]? = some o → o.isCells = false → D ≠ w.heap.size + 1 + 1 := by
    rintro D o h1 h2 rfl
    unfold Blk at hbr
    rw [hbr] at h1
    injection h1 with h1
    subst h1
    cases h2
  have HR0 := hide (hRne _ _ HD0a.out rfl)
  have HR1 := hide (hRne _ _ HD1a.out rfl)
  have HBR := hide hbr
  clear hbr hRne
  go_wp2_with fail
  have frF := HNa.out.fr
  have hbF := HBR.out.set_ 0 (.bool true)
  have e1 : (wY.setCell ⟨w.heap.size + 1 + 1, 0, none⟩ (.bool true)).heap[D1]? = some (.deferred (some [])) := (Below.heap_setCell _ _ _ _ HR1.out).trans HD1a.out
  have e0 : (wY.setCell ⟨w.heap.size + 1 + 1, 0, none⟩ (.bool true)).heap[D0]? = some (.deferred (some [])) := (Below.heap_setCell _ _ _ _ HR0.out).trans HD0a.out
  have frG : Fr No w (wY.setCell ⟨w.heap.size + 1 + 1, 0, none⟩ (.bool true)) := frF.setNew (by simp; omega) _
  generalize World.setCell wY _ _ = wZ at *
  have e0' : (wZ.putObj D1 (.deferred none)).heap[D0]? = some (.deferred (some [])) := (World.putObj_heap_other HNE.out).trans e0
  have hbG : Blk ((wZ.putObj D1 (.deferred none)).putObj D0 (.deferred none)) (w.heap.size + 1 + 1) 4 #[.bool true] := by
    unfold Blk at hbF ⊢
    rw [World.putObj_heap_other (Ne.symm HR0.out), World.putObj_heap_other (Ne.symm HR1.out)]
    simpa using hbF
  refine ⟨by simp, .inl ⟨_, _, rfl, run_takeDeferred e1, ⟨by simp, .inl ⟨_, _, rfl, run_takeDeferred e0', ?_⟩⟩⟩⟩
  have r2 := hbG.cell 0
  simp only [List.getElem?_toArray, List.getElem?_cons_zero] at r2
  refine ⟨.bool true, by simp [results, Tryz.results38, go_sem, r2], rfl, ?_⟩
  have n1 := HGE1.out
  have n0 := HGE0.out
  exact (frG.putObj (fun h => by omega) _).putObj (fun h => by omega) _

end Go.Proofs.YtlejelbefmkakaaGreat

/- Chapter 2: places; find, At. -/
namespace Go.Proofs.YtlejelbefmkakaaGreat
open Go.RowKit

theorem may_ok {v : V} (h : v.may = true) : v.ok = true := by
  simp [V.may, V.fits] at h; exact h.1.1

theorem sets5v (w : World) (a : Nat) (t : TypeId) (x0 x1 x2 x3 x4 v0 v1 v2 v3 v4 : Value) (h : Blk w a t #[x0, x1, x2, x3, x4]) :
    Blk (((((w.setCell ⟨a, 0, none⟩ v0).setCell ⟨a, 1, none⟩ v1).setCell ⟨a, 2, none⟩ v2).setCell ⟨a, 3, none⟩ v3).setCell ⟨a, 4, none⟩ v4) a t #[v0, v1, v2, v3, v4] ∧
    Fr (fun i => i = a) w (((((w.setCell ⟨a, 0, none⟩ v0).setCell ⟨a, 1, none⟩ v1).setCell ⟨a, 2, none⟩ v2).setCell ⟨a, 3, none⟩ v3).setCell ⟨a, 4, none⟩ v4) :=
  ⟨(by simpa only [List.setIfInBounds_toArray, List.set_cons_zero, List.set_cons_succ] using ((((h.set_ 0 v0).set_ 1 v1).set_ 2 v2).set_ 3 v3).set_ 4 v4),
   (((((Fr.refl (fun i => i = a) w).set (fun _ => rfl) v0).set (fun _ => rfl) v1).set (fun _ => rfl) v2).set (fun _ => rfl) v3).set (fun _ => rfl) v4⟩

/-- Some numbers that lie one behind the other. -/
structure Ints (w : World) (lo hi : Nat) (A : Option Addr) (cap : Nat) (p : List Int) : Prop where
  len : p.length * 8 ≤ 140737488351232
  cap : p.length ≤ cap
  at_ : p ≠ [] → ∃ b o, A = some ⟨b, o, none⟩ ∧ lo ≤ b ∧ b < hi ∧ ∀ i x, p[i]? = some x → w.cell? ⟨b, o + i, none⟩ = some (.int .i64 x)
  rng : ∀ x ∈ p, -9223372036854775808 ≤ x ∧ x ≤ 9223372036854775807

theorem Ints.keep {w w' : World} {lo hi : Nat} {A : Option Addr} {cap : Nat} {p : List Int} (h : Ints w lo hi A cap p) (hk : ∀ b o, lo ≤ b → b < hi → w'.cell? ⟨b, o, none⟩ = w.cell? ⟨b, o, none⟩) : Ints w' lo hi A cap p :=
  ⟨h.len, h.cap, fun hne => by
    obtain ⟨b, o, hA, h0, h1, hc⟩ := h.at_ hne
    exact ⟨b, o, hA, h0, h1, fun i x hx => (hk b _ h0 h1).trans (hc i x hx)⟩, h.rng⟩

theorem Ints.fr {S : Nat → Prop} {w w' : World} {lo hi : Nat} {A : Option Addr} {cap : Nat} {p : List Int} (h : Ints w lo hi A cap p) (hf : Fr S w w') (hh : hi ≤ w.heap.size) (hs : ∀ i, lo ≤ i → i < hi → ¬ S i) : Ints w' lo hi A cap p :=
  h.keep fun b _ h0 h1 => hf.cell (by omega) (hs b h0 h1)

theorem Ints.no {w w' : World} {lo hi : Nat} {A : Option Addr} {cap : Nat} {p : List Int} (h : Ints w lo hi A cap p) (hf : Fr No w w') (hh : hi ≤ w.heap.size) : Ints w' lo hi A cap p := h.fr hf hh fun _ _ _ h => h

theorem Ints.elem {w : World} {lo hi : Nat} {A : Option Addr} {cap : Nat} {p : List Int} (h : Ints w lo hi A cap p) {j : Nat} (hj : j < p.length) : ∃ b o, A = some ⟨b, o, none⟩ ∧ lo ≤ b ∧ b < hi ∧ w.cell? ⟨b, o + j, none⟩ = some (.int .i64 p[j]) := by
  obtain ⟨b, o, hA, h0, h1, hc⟩ := h.at_ (by rintro rfl; simp at hj)
  exact ⟨b, o, hA, h0, h1, hc j _ (List.getElem?_eq_getElem hj)⟩

def V.list : V → List V
  | .mk _ _ _ l _ => l

/-- What stands at a place. -/
def vAt : List Int → V → Option V
  | [], v => some v
  | i :: p, v => if i < 0 then none else (v.list[i.toNat]?).bind (vAt p)

theorem vAt_cons (i : Int) (p : List Int) (v : V) : vAt (i :: p) v = if i < 0 then none else (v.list[i.toNat]?).bind (vAt p) := rfl

/-- What find answers. -/
def FindV (v : V) (p : List Int) (lo hi : Nat) (w : World) (e : Ending) (w' : World) : Prop :=
  Fr No w w' ∧ ((∃ t' : T, e = .returned (.tuple #[t'.val, .bool true]) ∧ vAt p v = some t'.v ∧ t'.In w' lo hi) ∨ (e = .returned (.tuple #[.agg #[.int .u8 0, .int .i64 0, .string ⟨#[]⟩, .slice none 0 0, .int .i64 0], .bool false]) ∧ vAt p v = none))

/-- Where find's loop stands. -/
structure FInv (v : V) (p : List Int) (lo hi : Nat) (w : World) (g : Nat) (j : Nat) (wr : World) : Prop where
  fr : Fr No w wr
  z : Blk wr (g + 1) 28 #[.int .u8 0, .int .i64 0, .string ⟨#[]⟩, .slice none 0 0, .int .i64 0]
  ex : ∃ k n s A cap l r, Blk wr g 28 #[.int .u8 k, .int .i64 n, .string s, .slice A (l : List T).length cap, .int .i64 r] ∧ (T.mk k n s A cap l r).In wr lo hi ∧ vAt p v = vAt (p.drop j) (T.mk k n s A cap l r).v

theorem T.v_list (k n : Int) (s : ByteArray) (A : Option Addr) (cap : Nat) (l : List T) (r : Int) : (T.mk k n s A cap l r).v.list = l.map T.v := by rw [T.v_mk]; rfl

end Go.Proofs.YtlejelbefmkakaaGreat

/- What the document's answer counts of a value: plain laws. No program in sight. -/
namespace Go.Proofs.YtlejelbefmkakaaGreat
open Go.RowKit

/-- The greatest of some numbers, and one more; 0 of none. -/
def top1 : List Nat → Nat
  | [] => 0
  | x :: l => max (x + 1) (top1 l)

/-- How deep its lists of parts go, whatever its kind. -/
def V.ht : V → Nat
  | .mk _ _ _ l _ => top1 (l.map V.ht)
termination_by v => v

theorem V.ht_mk (k n : Int) (s : ByteArray) (l : List V) (r : Int) : (V.mk k n s l r).ht = top1 (l.map V.ht) := by rw [V.ht]

theorem lt_top1 {l : List Nat} {x : Nat} (h : x ∈ l) : x + 1 ≤ top1 l := by
  induction l with
  | nil => simp at h
  | cons y l ih =>
    rcases List.mem_cons.1 h with rfl | h
    · simp [top1]; omega
    · have := ih h; simp [top1]; omega

theorem top1_le {l : List Nat} {n : Nat} (h : ∀ x ∈ l, x + 1 ≤ n) : top1 l ≤ n := by
  induction l with
  | nil => simp [top1]
  | cons y l ih =>
    have h1 := h y (by simp)
    have h2 := ih fun x hx => h x (by simp [hx])
    simp [top1]; omega

theorem ht_child {k n : Int} {s : ByteArray} {l : List V} {r : Int} {x : V} (h : x ∈ l) : x.ht + 1 ≤ (V.mk k n s l r).ht := by
  rw [V.ht_mk]; exact lt_top1 (List.mem_map_of_mem h)

theorem dep_le_ht (v : V) : v.dep ≤ v.ht + 1 := by
  induction v using V.ind with
  | h k n s l r ih =>
    rw [V.dep_mk]
    by_cases h3 : k = 3
    · rw [if_pos h3]
      have : top (l.map V.dep) ≤ (V.mk k n s l r).ht := top_le fun d hd => by
        obtain ⟨x, hx, rfl⟩ := List.mem_map.1 hd
        have h1 := ih x hx
        have h2 := ht_child (k := k) (n := n) (s := s) (r := r) hx
        omega
      omega
    · rw [if_neg h3]; omega

theorem ht_le_dep (v : V) : v.ok = true → v.ht ≤ v.dep := by
  induction v using V.ind with
  | h k n s l r ih =>
    intro h
    rw [V.ok_mk, Bool.and_eq_true] at h
    rw [V.ht_mk, V.dep_mk]
    by_cases h3 : k = 3
    · rw [if_pos h3]
      refine top1_le fun x hx => ?_
      obtain ⟨y, hy, rfl⟩ := List.mem_map.1 hx
      have h1 := ih y hy (List.all_eq_true.1 h.2 y hy)
      have h2 : y.dep ≤ top (l.map V.dep) := le_top (List.mem_map_of_mem hy)
      omega
    · have := List.eq_nil_of_length_eq_zero (fok_len h3 h.1)
      subst this
      simp [top1]

/-- What 'parts' comes to, at the depth d. -/
def PartsIs (v : V) (d z : Nat) : Prop := 1 ≤ z ∧ z ≤ 513 + 512 * (17 - d) ∧ (z ≤ 512 → z = v.size ∧ v.ht + d ≤ 16) ∧ (v.size ≤ 512 → v.ht + d ≤ 16 → z = v.size)

/-- Where the loop of 'parts' stands. -/
structure PInv (l : List V) (d j n : Nat) : Prop where
  pos : 1 ≤ n
  le : n ≤ 513 + 512 * (17 - d)
  few : n ≤ 512 → n = 1 + sizeTo l j ∧ ∀ i (h : i < l.length), i < j → l[i].ht + (d + 1) ≤ 16
  same : 1 + sizeTo l j ≤ 512 → (∀ i (h : i < l.length), i < j → l[i].ht + (d + 1) ≤ 16) → n = 1 + sizeTo l j

theorem PInv.zero (l : List V) (d : Nat) : PInv l d 0 1 :=
  ⟨by omega, by omega, fun _ => ⟨by rw [sizeTo_zero], fun i h hi => absurd hi (by omega)⟩, fun _ _ => by rw [sizeTo_zero]⟩

theorem PInv.succ {l : List V} {d j n z : Nat} (h : PInv l d j n) (hn : n ≤ 512) (hj : j < l.length) (hz : PartsIs l[j] (d + 1) z) (hd : d ≤ 16) : PInv l d (j + 1) (n + z) := by
  obtain ⟨z1, z2, z3, z4⟩ := hz
  have h1 := h.pos
  have h2 := sizeTo_succ l j hj
  refine ⟨by omega, by omega, fun hs => ?_, fun hs ha => ?_⟩
  · obtain ⟨e1, e2⟩ := z3 (by omega)
    obtain ⟨e3, e4⟩ := h.few hn
    refine ⟨by omega, fun i hi hij => ?_⟩
    rcases Nat.lt_or_ge i j with hlt | hge
    · exact e4 i hi hlt
    · obtain rfl : i = j := by omega
      exact e2
  · have e1 := h.same (by omega) fun i hi hij => ha i hi (by omega)
    have e2 := z4 (by omega) (ha j hj (by omega))
    omega

theorem PInv.done {l : List V} {d n : Nat} {k m : Int} {s : ByteArray} {r : Int} (h : PInv l d l.length n) (hd : d ≤ 16) : PartsIs (V.mk k m s l r) d n := by
  have hsz : (V.mk k m s l r).size = 1 + sizeTo l l.length := by rw [V.size_mk, sizeTo_all]
  refine ⟨h.pos, h.le, fun hn => ?_, fun hs ht => ?_⟩
  · obtain ⟨e1, e2⟩ := h.few hn
    refine ⟨by omega, ?_⟩
    have : (V.mk k m s l r).ht ≤ 16 - d := by
      rw [V.ht_mk]
      refine top1_le fun x hx => ?_
      obtain ⟨y, hy, rfl⟩ := List.mem_map.1 hx
      obtain ⟨i, hi, rfl⟩ := List.mem_iff_getElem.1 hy
      have := e2 i hi hi
      omega
    omega
  · rw [hsz]
    refine h.same (by omega) fun i hi _ => ?_
    have := ht_child (k := k) (n := m) (s := s) (r := r) (List.getElem_mem hi)
    omega

theorem PInv.over {l : List V} {d j n : Nat} {k m : Int} {s : ByteArray} {r : Int} (h : PInv l d j n) (hn : 512 < n) : PartsIs (V.mk k m s l r) d n := by
  refine ⟨h.pos, h.le, fun hn' => absurd hn' (by omega), fun hs ht => ?_⟩
  exfalso
  have hsz : (V.mk k m s l r).size = 1 + (l.map V.size).sum := V.size_mk _ _ _ _ _
  have h1 := sizeTo_le l j
  have := h.same (by omega) fun i hi _ => by
    have := ht_child (k := k) (n := m) (s := s) (r := r) (List.getElem_mem hi)
    omega
  omega

theorem PartsIs.deep (v : V) : PartsIs v 17 513 := ⟨by omega, by omega, fun h => absurd h (by omega), fun _ h => absurd h (by omega)⟩

/-- The document's answer to 'may a value be?' is the program's. -/
theorem may_iff {v : V} {z : Nat} (h : PartsIs v 0 z) : v.may = (decide (z ≤ 512) && (decide (v.dep ≤ 16) && v.ok)) := by
  obtain ⟨z1, z2, z3, z4⟩ := h
  rw [Bool.eq_iff_iff]
  simp only [V.may, V.fits, Bool.and_eq_true, decide_eq_true_eq]
  constructor
  · rintro ⟨⟨h1, h2⟩, h3⟩
    have := ht_le_dep v h1
    have := z4 h2 (by omega)
    exact ⟨by omega, h3, h1⟩
  · rintro ⟨h1, h2, h3⟩
    have := z3 h1
    exact ⟨⟨h3, by omega⟩, h2⟩

end Go.Proofs.YtlejelbefmkakaaGreat

/- Chapter 2: the walk of a value's parts, whatever is done with each. -/
namespace Go.Proofs.YtlejelbefmkakaaGreat
open Go.RowKit

def walkL : List (List Int → List (List Int × V)) → Nat → List Int → List (List Int × V)
  | [], _, _ => []
  | f :: fs, i, pl => f (pl ++ [(i : Int)]) ++ walkL fs (i + 1) pl

/-- The parts of a value that stands at a place, in the order of the walk. -/
def V.walk : V → List Int → List (List Int × V)
  | .mk k n s l r => fun pl => (pl, .mk k n s l r) :: walkL (l.map V.walk) 0 pl
termination_by v => v

theorem V.walk_mk (k n : Int) (s : ByteArray) (l : List V) (r : Int) (pl : List Int) : (V.mk k n s l r).walk pl = (pl, .mk k n s l r) :: walkL (l.map V.walk) 0 pl := by rw [V.walk]

theorem walkL_append (fs gs : List (List Int → List (List Int × V))) (i : Nat) (pl : List Int) : walkL (fs ++ gs) i pl = walkL fs i pl ++ walkL gs (i + fs.length) pl := by
  induction fs generalizing i with
  | nil => simp [walkL]
  | cons f fs ih => simp only [List.cons_append, walkL, ih, List.append_assoc, List.length_cons]; rw [show i + 1 + fs.length = i + (fs.length + 1) by omega]

theorem walkL_take (fs : List (List Int → List (List Int × V))) (pl : List Int) {j : Nat} (h : j < fs.length) : walkL (fs.take (j + 1)) 0 pl = walkL (fs.take j) 0 pl ++ fs[j] (pl ++ [(j : Int)]) := by
  rw [List.take_succ_eq_append_getElem h, walkL_append]
  simp [walkL, List.length_take, Nat.min_eq_left (Nat.le_of_lt h)]

theorem walkL_prefix (fs : List (List Int → List (List Int × V))) (pl : List Int) (j : Nat) : walkL (fs.take j) 0 pl <+: walkL fs 0 pl := by
  refine ⟨walkL (fs.drop j) (0 + (fs.take j).length) pl, ?_⟩
  rw [← walkL_append, List.take_append_drop]

theorem walkL_length (L : List V) : ∀ (i : Nat) (pl : List Int), (∀ v ∈ L, ∀ p, (v.walk p).length = v.size) → (walkL (L.map V.walk) i pl).length = (L.map V.size).sum := by
  induction L with
  | nil => intro i pl _; rfl
  | cons v L ih =>
    intro i pl h
    simp only [List.map_cons, walkL, List.length_append, List.sum_cons]
    rw [h v (by simp), ih (i + 1) pl fun u hu => h u (by simp [hu])]

theorem walk_length (v : V) : ∀ p, (v.walk p).length = v.size := by
  induction v using V.ind with
  | h k n s l r ih =>
    intro p
    rw [V.walk_mk, V.size_mk, List.length_cons, walkL_length l 0 p ih]
    omega

/-- What is done with each part: J holds between two parts, Jx where no more is wanted; M: the blocks that are its own. -/
structure Yields (N : Nat) (f : FuncId) (cp : Array Value) (J Jx : List (List Int × V) → (Nat → Prop) → World → Prop) : Prop where
  enters : ∀ (args : Array Value) (w : World), (callFunc f args).run Tryz.prog w = .ok (.enter f args) w
  call : ∀ (pre : List (List Int × V)) (M : Nat → Prop) (W : World) (x : T) (lo hi : Nat) (A : Option Addr) (cap : Nat) (p : List Int) (lo' hi' : Nat), pre.length < N → J pre M W → x.In W lo hi → hi ≤ W.heap.size → (∀ i, lo ≤ i → i < hi → ¬ M i) →
    Ints W lo' hi' A cap p → hi' ≤ W.heap.size → (∀ i, lo' ≤ i → i < hi' → ¬ M i) → Calls Tryz.prog f (#[.slice A p.length cap, x.val] ++ cp) W fun e W' => ∃ M' : Nat → Prop, Fr M W W' ∧ (∀ i, M' i → i < W.heap.size → M i) ∧
      ((e = .returned (.bool true) ∧ J (pre ++ [(p, x.v)]) M' W') ∨ (e = .returned (.bool false) ∧ Jx (pre ++ [(p, x.v)]) M' W'))
  stay : ∀ (pre : List (List Int × V)) (M : Nat → Prop) (W W' : World) (S : Nat → Prop), J pre M W → Fr S W W' → (∀ i, i < W.heap.size → S i → ¬ M i) → J pre M W'
  lt : ∀ (pre : List (List Int × V)) (M : Nat → Prop) (W : World), J pre M W → ∀ i, M i → i < W.heap.size

theorem Yields.no {N : Nat} {f : FuncId} {cp : Array Value} {J Jx : List (List Int × V) → (Nat → Prop) → World → Prop} (y : Yields N f cp J Jx) {pre : List (List Int × V)} {M : Nat → Prop} {W W' : World} (h : J pre M W) (hf : Fr No W W') : J pre M W' :=
  y.stay pre M W W' No h hf fun _ _ h => h.elim

/-- What the walk leaves. -/
def WalkP (J Jx : List (List Int × V) → (Nat → Prop) → World → Prop) (pre : List (List Int × V)) (M : Nat → Prop) (L : List (List Int × V)) (W : World) (e : Ending) (W' : World) : Prop :=
  ∃ M' : Nat → Prop, Fr M W W' ∧ (∀ i, M' i → i < W.heap.size → M i) ∧ ((e = .returned (.bool true) ∧ J (pre ++ L) M' W') ∨ (e = .returned (.bool false) ∧ ∃ q, q <+: L ∧ Jx (pre ++ q) M' W'))

theorem Clip_any (A : Option Addr) (n cap : Nat) (hn : n ≤ cap) (hc : n ≤ 9223372036854775807) (w : World) : Calls Tryz.prog 217 #[.slice A n cap] w fun e w' => e = .returned (.slice A n n) ∧ w' = w := by
  have h1 : (n : Int) ≤ (cap : Int) := by omega
  have h2 : (0 : Int) ≤ (n : Int) := by omega
  go_enter Tryz.func217, Tryz.ntmps217
  go_wp2
  go_ret
  exact ⟨by first | rfl | simp, rfl⟩

/-- The same, the answer as a Bool. -/
def WalkB (J Jx : List (List Int × V) → (Nat → Prop) → World → Prop) (pre : List (List Int × V)) (M : Nat → Prop) (L : List (List Int × V)) (W : World) (q : Bool) (W' : World) : Prop :=
  ∃ M' : Nat → Prop, Fr M W W' ∧ (∀ i, M' i → i < W.heap.size → M i) ∧ (q = true → J (pre ++ L) M' W') ∧ (q = false → ∃ q, q <+: L ∧ Jx (pre ++ q) M' W')

theorem WalkP.bool {J Jx : List (List Int × V) → (Nat → Prop) → World → Prop} {pre : List (List Int × V)} {M : Nat → Prop} {L : List (List Int × V)} {W : World} {e : Ending} {W' : World} (h : WalkP J Jx pre M L W e W') : ∃ q : Bool, e = .returned (.bool q) ∧ WalkB J Jx pre M L W q W' := by
  obtain ⟨M', h1, h2, ⟨rfl, h3⟩ | ⟨rfl, h3⟩⟩ := h
  · exact ⟨true, rfl, M', h1, h2, fun _ => h3, (fun h => by cases h)⟩
  · exact ⟨false, rfl, M', h1, h2, (fun h => by cases h), fun _ => h3⟩

theorem Ints.old {w : World} {lo hi : Nat} {A : Option Addr} {cap : Nat} {p : List Int} (h : Ints w lo hi A cap p) : ∀ b, A = some b → ∀ j u, (p.map fun x => Value.int .i64 x)[j]? = some u → w.cell? (b.add j) = some u := by
  intro b hb j u hu
  rw [List.getElem?_map] at hu
  cases hx : p[j]? with
  | none => rw [hx] at hu; cases hu
  | some x =>
    rw [hx] at hu
    simp at hu
    subst hu
    obtain ⟨b', o', hA, _, _, hc⟩ := h.at_ (by rintro rfl; simp at hx)
    rw [hA] at hb
    injection hb with hb
    subst hb
    have : (⟨b', o', none⟩ : Addr).add j = ⟨b', o' + j, none⟩ := by unfold Addr.add; split <;> simp_all
    rw [this]
    exact hc j x hx

theorem ints_of_owns {w : World} {base g cap : Nat} {p : List Int} (h : w.ownsRow base 3 1 (.slice (some ⟨g, 0, none⟩) p.length cap) p.length (p.map fun x => Value.int .i64 x)) (hl : p.length * 8 ≤ 140737488351232) (hr : ∀ x ∈ p, -9223372036854775808 ≤ x ∧ x ≤ 9223372036854775807) :
    Ints w g (g + 1) (some ⟨g, 0, none⟩) cap p := by
  rcases h.2 with ⟨hs, _⟩ | ⟨g', cap', cur, hs, hb, hg, hc, hm, hsz, hx⟩
  · cases hs
  · simp at hs
    obtain ⟨rfl, rfl⟩ := hs
    refine ⟨hl, hc, fun _ => ⟨g, 0, rfl, Nat.le_refl _, by omega, fun i x hi => ?_⟩, hr⟩
    have hcell : w.cell? ⟨g, 0 + i, none⟩ = cur[0 + i]? := cell_of_row w g _ cur 3 (0, 0) hg
    rw [hcell, Nat.zero_add]
    have h1 : (p.map fun x => Value.int .i64 x)[i]? = some (.int .i64 x) := by rw [List.getElem?_map, hi]; rfl
    rw [← hx, List.getElem?_take] at h1
    split at h1
    · simpa using h1
    · cases h1

theorem blk5 {w : World} {g : Nat} {t : TypeId} {a b c d e : Value} (h : Blk w g t #[a, b, c, d, e]) : w.cell? ⟨g, 0, none⟩ = some a ∧ w.cell? ⟨g, 1, none⟩ = some b ∧ w.cell? ⟨g, 2, none⟩ = some c ∧ w.cell? ⟨g, 3, none⟩ = some d ∧ w.cell? ⟨g, 4, none⟩ = some e :=
  ⟨h.cell 0, h.cell 1, h.cell 2, h.cell 3, h.cell 4⟩

/-- Where the walk's loop stands. -/
structure WInv (J : List (List Int × V) → (Nat → Prop) → World → Prop) (pre : List (List Int × V)) (M : Nat → Prop) (W : World) (X : Array Value) (wr : World) : Prop where
  fr : Fr M W wr
  box : Blk wr W.heap.size 28 X
  ex : ∃ M1 : Nat → Prop, J pre M1 wr ∧ (∀ i, M1 i → i < W.heap.size → M i) ∧ ¬ M1 W.heap.size

end Go.Proofs.YtlejelbefmkakaaGreat

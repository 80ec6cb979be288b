/- Texts joined: P11, Wo3, E5, R0, E7, E8. -/
import Derived.Test.YtnddfiohofnbaaaJn2
import Derived.Test.YtnddfiohofnbaaaJn3
import Derived.Test.YtnddfiohofnbaaaJn5
import Derived.Deep.RegionHeld3
import Derived.Deep.RegionLawGrows
import Derived.Deep.AppendLies
/- Chapter 2: Of, the program's and the document's. -/
namespace Go.Proofs.Ytnddfiohofnbaaa
open Go.RowKit

theorem all1_any (t : T) (w : World) (lo hi : Nat) (ht : t.In w lo hi) (hh : hi ≤ w.heap.size) : Calls Try.prog 125 #[t.val] w fun e w' => e = .returned (.bool (!t.v.may)) ∧ Fr No w w' := by
  have IH := fun w' h h' => may_any t w' lo hi h h'
  cases t with
  | mk k n s A cap l r =>
    rw [T.val_mk] at *
    generalize (T.mk k n s A cap l r).v.may = z at *
    cases z
    all_goals
      go_enter Try.func125, Try.ntmps125
      go_wp2_with fail
      refine (IH _ (ht.no ((Fr.refl No w).alloc _) hh) (by simp; omega)).mono ?_
      rintro e w2 ⟨rfl, fr2⟩
      go_wp2
      go_ret
      exact ⟨rfl, ((Fr.refl No w).alloc _).trans fr2⟩

set_option maxRecDepth 100000 in
set_option maxHeartbeats 4000000 in
theorem indexV_any (A : Option Addr) (cap : Nat) (l : List T) (w : World) (lo hi : Nat) (ht : (T.row A cap l).In w lo hi) (hh : hi ≤ w.heap.size) :
    Calls Try.prog 129 #[.slice A l.length cap, .func (.func 125) #[] #[]] w fun e w' => (∃ z : Int, e = .returned (.int .i64 z) ∧ ((0 ≤ z ∧ (l.map T.v).all V.may = false) ∨ (z = -1 ∧ (l.map T.v).all V.may = true))) ∧ Fr No w w' := by
  have hlen := (T.in_mk.1 ht).1.len1
  have hB := all1_any
  go_enter Try.func129, Try.ntmps129
  go_wp2_with fail
  go_loopw [8] (fun i wr => ∃ j : Nat, j ≤ l.length ∧ i = .int .i64 j ∧ Fr No w wr ∧ ∀ v ∈ (l.map T.v).take j, v.may = true) (fun i _ => l.length - (intOf i).toNat)
  case atStart => exact ⟨0, Nat.zero_le _, rfl, Fr.refl _ _, by simp⟩
  case round =>
    obtain ⟨j, hj, rfl, fr, hall⟩ := hrel
    have HA := hide hall
    have hsz := fr.size
    clear hall
    by_cases hlt : j < l.length
    · obtain ⟨b, o, k1, n1, s1, A1, cap1, l1, r1, rfl, hb0, hb1, hx, hin, e0, e1, e2, e3, e4⟩ := T.elem (ht.no fr hh) hlt
      have hc := hB l[j] wr lo hi (by rw [hx]; exact hin) (by omega)
      have hj' : j < (l.map T.v).length := by simpa using hlt
      have hxv : (l.map T.v)[j] = (T.mk k1 n1 s1 A1 cap1 l1 r1).v := by rw [List.getElem_map, hx]
      rw [hx, T.val_mk] at hc
      generalize (T.mk k1 n1 s1 A1 cap1 l1 r1).v = u at *
      have g0 : b < wr.heap.size := by omega
      have htk : (l.map T.v).take (j + 1) = (l.map T.v).take j ++ [u] := by rw [List.take_succ_eq_append_getElem hj', hxv]
      have hmem : u ∈ l.map T.v := by rw [← hxv]; exact List.getElem_mem hj'
      have HT := hide htk
      have HM := hide hmem
      have HF := hide fr
      clear hx hxv htk hmem fr hin hB ht
      cases hm : u.may with
      | false =>
        rw [hm] at hc
        have HC := hide hc
        have hno : (l.map T.v).all V.may = false := by
          rw [Bool.eq_false_iff]
          intro h
          rw [List.all_eq_true.1 h u HM.out] at hm
          cases hm
        have HN := hide hno
        clear hc hno hm
        go_wp2_with fail
        refine HC.out.mono ?_
        rintro e w2 ⟨rfl, f2⟩
        have HF2 := hide (HF.out.trans f2)
        clear f2
        go_wp2
        go_ret
        exact ⟨⟨_, rfl, .inl ⟨by omega, HN.out⟩⟩, HF2.out⟩
      | true =>
        rw [hm] at hc
        have HC := hide hc
        have HMM := hide hm
        clear hc hm
        go_wp2_with fail
        refine HC.out.mono ?_
        rintro e w2 ⟨rfl, f2⟩
        have HF2 := hide (HF.out.trans f2)
        clear f2
        go_wp2
        go_roundw
        case rel =>
          refine ⟨j + 1, hlt, by go_num, HF2.out, fun v hv => ?_⟩
          rw [HT.out] at hv
          rcases List.mem_append.1 hv with hv | hv
          · exact HA.out v hv
          · simp at hv; subst hv; exact HMM.out
        case measure => simp [intOf]; omega
    · obtain rfl : l.length = j := by omega
      have hyes : (l.map T.v).all V.may = true := List.all_eq_true.2 fun v hv => HA.out v (by rw [List.take_of_length_le (by simp)]; exact hv)
      have HY := hide hyes
      have HF := hide fr
      clear fr hyes ht hB
      go_wp2
      go_ret
      exact ⟨⟨-1, rfl, .inr ⟨rfl, HY.out⟩⟩, HF.out⟩

theorem containsV_any (A : Option Addr) (cap : Nat) (l : List T) (w : World) (lo hi : Nat) (ht : (T.row A cap l).In w lo hi) (hh : hi ≤ w.heap.size) :
    Calls Try.prog 124 #[.slice A l.length cap, .func (.func 125) #[] #[]] w fun e w' => e = .returned (.bool (!(l.map T.v).all V.may)) ∧ Fr No w w' := by
  have hI := indexV_any A cap l w lo hi ht hh
  generalize (l.map T.v).all V.may = q at *
  clear ht
  go_enter Try.func124, Try.ntmps124
  go_wp2_with fail
  refine hI.mono ?_
  rintro e w2 ⟨⟨z, rfl, hz⟩, fr2⟩
  rcases hz with ⟨h0, rfl⟩ | ⟨rfl, rfl⟩
  · have h1 : decide ((0 : Int) ≤ z) = true := by simpa using h0
    go_wp2
    go_ret
    exact ⟨rfl, fr2⟩
  · go_wp2
    go_ret
    exact ⟨rfl, fr2⟩

/-- May all be? -/
theorem allV_any (A : Option Addr) (cap : Nat) (l : List T) (w : World) (lo hi : Nat) (ht : (T.row A cap l).In w lo hi) (hh : hi ≤ w.heap.size) :
    Calls Try.prog 115 #[.slice A l.length cap] w fun e w' => e = .returned (.bool ((l.map T.v).all V.may)) ∧ Fr No w w' := by
  have hI := containsV_any A cap l w lo hi ht hh
  generalize (l.map T.v).all V.may = q at *
  clear ht
  cases q
  all_goals
    go_enter Try.func115, Try.ntmps115
    go_wp2_with fail
    refine hI.mono ?_
    rintro e w2 ⟨rfl, fr2⟩
    go_wp2
    go_ret
    exact ⟨rfl, fr2⟩

/-- What Of answers. -/
def ofV (l : List V) : V × Int := if l.all V.may = true then (if (V.mk 3 0 ⟨#[]⟩ l 0).may = true then (V.mk 3 0 ⟨#[]⟩ l 0, 0) else (V.zero, 4)) else (V.zero, 2)

theorem T.row_v (A : Option Addr) (cap : Nat) (l : List T) : (T.row A cap l).v = V.mk 3 0 ⟨#[]⟩ (l.map T.v) 0 := by rw [T.row, T.v_mk]

/-- A value that is known, and an error's number. -/
def InE (v : V) (n : Int) (w : World) (e : Ending) (w' : World) : Prop :=
  ∃ t' : T, e = .returned (.tuple #[t'.val, .int .i64 n]) ∧ t'.v = v ∧ t'.In w' w.heap.size w'.heap.size ∧ Fr No w w'

set_option maxRecDepth 100000 in
set_option maxHeartbeats 4000000 in
theorem vOf_any (A : Option Addr) (cap : Nat) (l : List T) (w : World) (lo hi : Nat) (ht : (T.row A cap l).In w lo hi) (hh : hi ≤ w.heap.size) :
    Calls Try.prog 93 #[.slice A l.length cap] w (OwnE2 (ofV (l.map T.v)).1 (ofV (l.map T.v)).2 w) := by
  have hA := fun w' h h' => allV_any A cap l w' lo hi h h'
  have hM := fun w' h h' => may_any (T.row A cap l) w' lo hi h h'
  have hO := fun w' h h' => own2_any (T.row A cap l) w' lo hi h h'
  rw [T.row_v] at hM hO
  have hval : (T.row A cap l).val = .agg #[.int .u8 3, .int .i64 0, .string ⟨#[]⟩, .slice A l.length cap, .int .i64 0] := rfl
  rw [hval] at hM hO
  clear hval
  have fr0 := (Fr.refl No w).alloc (.cells #[.int .u8 0, .int .i64 0, .string ⟨#[]⟩, .slice none 0 0, .int .i64 0] 37)
  have bz0 := Blk.new w 37 #[.int .u8 0, .int .i64 0, .string ⟨#[]⟩, .slice none 0 0, .int .i64 0]
  have ht0 := ht.no fr0 hh
  have hs0 : w.heap.size < (w.alloc (.cells #[.int .u8 0, .int .i64 0, .string ⟨#[]⟩, .slice none 0 0, .int .i64 0] 37)).heap.size := by simp
  clear ht
  cases ha : (l.map T.v).all V.may with
  | false =>
    have e1 : ofV (l.map T.v) = (V.zero, 2) := by simp only [ofV]; rw [ha]; rfl
    rw [e1]
    rw [ha] at hA
    clear ha e1 hM hO
    go_enter Try.func93, Try.ntmps93
    go_wp2_with fail
    generalize World.alloc w _ = w0 at *
    refine (hA w0 ht0 (by omega)).mono ?_
    rintro e w2 ⟨rfl, f2⟩
    have bz2 := bz0.fr f2 fun h => h
    obtain ⟨d0, d1, d2, d3, d4, df⟩ := bz2.cells5
    have q0 := bz2.lt
    have HF := hide (fr0.trans f2)
    clear hA ht0 bz0 fr0 f2 bz2
    go_wp2
    refine bodyPost_ret (v := .tuple #[.agg #[.int .u8 0, .int .i64 0, .string ⟨#[]⟩, .slice none 0 0, .int .i64 0], .int .i64 2]) (by simp [results, Try.results93, go_sem, *]) rfl ?_
    have hF2 := HF.out
    refine ⟨T.zero, rfl, T.zero_v, T.zero_sh _ _ _, ?_⟩
    repeat (first | with_reducible exact hF2 | with_reducible refine Fr.setNew ?_ (Nat.le_refl _) _)
  | true =>
    rw [ha] at hA
    cases hm : (V.mk 3 0 ⟨#[]⟩ (l.map T.v) 0).may with
    | false =>
      have e1 : ofV (l.map T.v) = (V.zero, 4) := by simp only [ofV]; rw [ha, hm]; rfl
      rw [e1]
      rw [hm] at hM
      clear ha hm e1 hO
      go_enter Try.func93, Try.ntmps93
      go_wp2_with fail
      generalize World.alloc w _ = w0 at *
      refine (hA w0 ht0 (by omega)).mono ?_
      rintro e w2 ⟨rfl, f2⟩
      have bz2 := bz0.fr f2 fun h => h
      have ht2 := ht0.no f2 (by omega)
      have HF := hide (fr0.trans f2)
      have hs2 := (fr0.trans f2).size
      clear hA ht0 bz0 fr0 f2
      go_wp2_with fail
      have f3 := (Fr.refl No w2).alloc (.cells #[.int .u8 3, .int .i64 0, .string ⟨#[]⟩, .slice A l.length cap, .int .i64 0] 37)
      have HF3 := hide (HF.out.trans f3)
      have bz3 := bz2.fr f3 fun h => h
      have ht3 := ht2.no f3 (by omega)
      have hs3 := f3.size
      clear bz2 ht2 f3
      generalize World.alloc w2 _ = w3 at *
      refine (hM w3 ht3 (by omega)).mono ?_
      rintro e w4 ⟨rfl, f4⟩
      have bz4 := bz3.fr f4 fun h => h
      obtain ⟨d0, d1, d2, d3, d4, df⟩ := bz4.cells5
      have q0 := bz4.lt
      have HF4 := hide (HF3.out.trans f4)
      clear hM ht3 bz3 f4 bz4
      go_wp2
      refine bodyPost_ret (v := .tuple #[.agg #[.int .u8 0, .int .i64 0, .string ⟨#[]⟩, .slice none 0 0, .int .i64 0], .int .i64 4]) (by simp [results, Try.results93, go_sem, *]) rfl ?_
      have hF2 := HF4.out
      refine ⟨T.zero, rfl, T.zero_v, T.zero_sh _ _ _, ?_⟩
      repeat (first | with_reducible exact hF2 | with_reducible refine Fr.setNew ?_ (Nat.le_refl _) _)
    | true =>
      have e1 : ofV (l.map T.v) = (V.mk 3 0 ⟨#[]⟩ (l.map T.v) 0, 0) := by simp only [ofV]; rw [ha, hm]; rfl
      rw [e1]
      rw [hm] at hM
      generalize V.mk 3 0 ⟨#[]⟩ (l.map T.v) 0 = u at *
      clear ha hm e1
      go_enter Try.func93, Try.ntmps93
      go_wp2_with fail
      generalize World.alloc w _ = w0 at *
      refine (hA w0 ht0 (by omega)).mono ?_
      rintro e w2 ⟨rfl, f2⟩
      have bz2 := bz0.fr f2 fun h => h
      have ht2 := ht0.no f2 (by omega)
      have HF := hide (fr0.trans f2)
      have hs2 := (fr0.trans f2).size
      clear hA ht0 bz0 fr0 f2
      have hsz2 : w.heap.size < w2.heap.size := bz2.lt
      go_wp2_with fail
      have f3 := (Fr.refl No w2).alloc (.cells #[.int .u8 3, .int .i64 0, .string ⟨#[]⟩, .slice A l.length cap, .int .i64 0] 37)
      have HF3 := hide (HF.out.trans f3)
      have bz3 := bz2.fr f3 fun h => h
      have bv3 := Blk.new w2 37 #[.int .u8 3, .int .i64 0, .string ⟨#[]⟩, .slice A l.length cap, .int .i64 0]
      have ht3 := ht2.no f3 (by omega)
      have hs3 := f3.size
      clear bz2 ht2 f3
      generalize World.alloc w2 _ = w3 at *
      refine (hM w3 ht3 (by omega)).mono ?_
      rintro e w4 ⟨rfl, f4⟩
      have bz4 := bz3.fr f4 fun h => h
      have bv4 := bv3.fr f4 fun h => h
      have ht4 := ht3.no f4 (by omega)
      obtain ⟨c0, c1, c2, c3, c4, -⟩ := bv4.cells5
      have qv := bv4.lt
      have HF4 := hide (HF3.out.trans f4)
      have hs4 := f4.size
      clear hM ht3 bz3 bv3 f4 bv4
      go_wp2_with fail
      refine (hO w4 ht4 (by omega)).mono ?_
      rintro e w5 ⟨⟨k5, n5, s5, A5, cap5, l5, r5⟩, rfl, hv5, hsh5, f5⟩
      rw [T.val_mk]
      have bz5 := bz4.fr f5 fun h => h
      obtain ⟨d0, d1, d2, d3, d4, df⟩ := bz5.cells5
      have q0 := bz5.lt
      have HF5 := hide (HF4.out.trans f5)
      have HV := hide hv5
      have HSH := hide hsh5
      have hs5 := f5.size
      clear hO ht4 bz4 f5 bz5 hv5 hsh5 c0 c1 c2 c3 c4 qv
      go_wp2
      refine bodyPost_ret (v := .tuple #[.agg #[.int .u8 k5, .int .i64 n5, .string s5, .slice A5 l5.length cap5, .int .i64 r5], .int .i64 0]) (by simp [results, Try.results93, go_sem, *]) rfl ?_
      have hF2 := HF5.out
      refine ⟨T.mk k5 n5 s5 A5 cap5 l5 r5, rfl, HV.out, ?_, ?_⟩
      · refine (T.Sh.fr' (S := (· = w.heap.size)) HSH.out ?_ (fun i h0 h1 h2 => by have h' : i = w.heap.size := h2; omega)).more (by omega) (by simp)
        repeat (first | with_reducible exact Fr.refl _ w5 | with_reducible refine Fr.set ?_ (by simp) _)
      · repeat (first | with_reducible exact hF2 | with_reducible refine Fr.setNew ?_ (Nat.le_refl _) _)

end Go.Proofs.Ytnddfiohofnbaaa

/- Worlds: blank; Of of nothing; what form needs. -/
namespace Go.Proofs.Ytnddfiohofnbaaa
open Go.RowKit

theorem Blk.cells16 {w : World} {g : Nat} {t : TypeId} {x0 x1 x2 x3 x4 x5 x6 x7 x8 x9 x10 x11 x12 x13 x14 x15 : Value} (h : Blk w g t #[x0, x1, x2, x3, x4, x5, x6, x7, x8, x9, x10, x11, x12, x13, x14, x15]) :
    w.cell? ⟨g, 0, none⟩ = some x0 ∧ w.cell? ⟨g, 1, none⟩ = some x1 ∧ w.cell? ⟨g, 2, none⟩ = some x2 ∧ w.cell? ⟨g, 3, none⟩ = some x3 ∧ w.cell? ⟨g, 4, none⟩ = some x4 ∧ w.cell? ⟨g, 5, none⟩ = some x5 ∧ w.cell? ⟨g, 6, none⟩ = some x6 ∧ w.cell? ⟨g, 7, none⟩ = some x7 ∧
    w.cell? ⟨g, 8, none⟩ = some x8 ∧ w.cell? ⟨g, 9, none⟩ = some x9 ∧ w.cell? ⟨g, 10, none⟩ = some x10 ∧ w.cell? ⟨g, 11, none⟩ = some x11 ∧ w.cell? ⟨g, 12, none⟩ = some x12 ∧ w.cell? ⟨g, 13, none⟩ = some x13 ∧ w.cell? ⟨g, 14, none⟩ = some x14 ∧ w.cell? ⟨g, 15, none⟩ = some x15 :=
  ⟨h.cell 0, h.cell 1, h.cell 2, h.cell 3, h.cell 4, h.cell 5, h.cell 6, h.cell 7, h.cell 8, h.cell 9, h.cell 10, h.cell 11, h.cell 12, h.cell 13, h.cell 14, h.cell 15⟩

/-- Is a value a zero one? -/
def blankB : V → Bool
  | .mk k n s l r => decide (k = 0) && decide (n = 0) && decide (s = ⟨#[]⟩) && decide (l.length = 0) && decide (r = 0)

theorem toList0 : (⟨#[]⟩ : ByteArray).toList = [] := by rw [ByteArray.toList_eq]

theorem bytes_ext {a b : ByteArray} (h : a.toList = b.toList) : a = b := by
  obtain ⟨⟨x⟩⟩ := a
  obtain ⟨⟨y⟩⟩ := b
  rw [ByteArray.toList_eq, ByteArray.toList_eq] at h
  simp at h
  rw [h]

set_option maxHeartbeats 2000000 in
theorem blank_w (t : T) (W : World) : Calls Try.prog 92 #[t.val] W fun e w' => e = .returned (.bool (blankB t.v)) ∧ Fr No W w' := by
  obtain ⟨k, n, s, A, cap, l, r⟩ := t
  rw [T.val_mk, T.v_mk]
  have hb : blankB (.mk k n s (l.map T.v) r) = (decide (k = 0) && decide (n = 0) && decide (s = ⟨#[]⟩) && decide (l.length = 0) && decide (r = 0)) := by simp [blankB]
  rw [hb]
  clear hb
  have h0 := toList0
  by_cases hk : k = 0
  · by_cases hn : n = 0
    · by_cases hs : s = ⟨#[]⟩
      · by_cases hl : l.length = 0
        · by_cases hr : r = 0
          · subst hk hn hs hr
            rw [hl]
            go_enter Try.func92, Try.ntmps92
            go_wp2
            go_ret
            exact ⟨rfl, (Fr.refl No W).alloc _⟩
          · have e1 : (r == 0) = false := by simpa using hr
            subst hk hn hs
            rw [hl]
            go_enter Try.func92, Try.ntmps92
            go_wp2
            go_ret
            exact ⟨by simp [hr], (Fr.refl No W).alloc _⟩
        · have e1 : (l.length == 0) = false := by simpa using hl
          have e2 : ((l.length : Int) == 0) = false := by simpa using hl
          subst hk hn hs
          go_enter Try.func92, Try.ntmps92
          go_wp2
          go_ret
          exact ⟨by simp [hl], (Fr.refl No W).alloc _⟩
      · have e1 : (s.toList == []) = false := by
          simp only [beq_eq_false_iff_ne, ne_eq]
          exact fun h => hs (bytes_ext (by rw [h, h0]))
        subst hk hn
        go_enter Try.func92, Try.ntmps92
        go_wp2
        go_ret
        exact ⟨by simp [hs], (Fr.refl No W).alloc _⟩
    · have e1 : (n == 0) = false := by simpa using hn
      subst hk
      go_enter Try.func92, Try.ntmps92
      go_wp2
      go_ret
      exact ⟨by simp [hn], (Fr.refl No W).alloc _⟩
  · have e1 : (k == 0) = false := by simpa using hk
    go_enter Try.func92, Try.ntmps92
    go_wp2
    go_ret
    exact ⟨by simp [hk], (Fr.refl No W).alloc _⟩

/-- Of of nothing. -/
theorem of_none (W : World) : Calls Try.prog 93 #[.slice none 0 0] W fun e w' => (∃ t : T, e = .returned (.tuple #[t.val, .int .i64 0])) ∧ Fr No W w' := by
  have hin : (T.row none 0 []).In W 0 0 := T.in_mk.2 ⟨⟨by decide, by decide, by decide, by decide, by decide, by decide, Nat.le_refl _, by decide, by decide⟩, fun h => absurd rfl h, by simp⟩
  have h := vOf_any none 0 [] W 0 0 hin (Nat.zero_le _)
  have he : (ofV (([] : List T).map T.v)).2 = 0 := by simp [ofV, V.may, V.fits, V.ok_mk, V.size_mk, V.dep_mk, fok, top]
  rw [he] at h
  refine h.mono ?_
  rintro e w' ⟨t', rfl, -, -, f⟩
  exact ⟨⟨t', rfl⟩, f⟩

theorem zero_may : V.zero.may = true := by simp [V.zero, V.may, V.fits, V.ok_mk, V.size_mk, V.dep_mk, fok, ByteArray.toList_eq]

theorem may_zero (W : World) : Calls Try.prog 41 #[T.zero.val] W fun e w' => e = .returned (.bool true) ∧ Fr No W w' := by
  have h := may_any T.zero W 0 0 (T.zero_ow _ _ _).inn (Nat.zero_le _)
  rw [T.zero_v, zero_may] at h
  exact h

end Go.Proofs.Ytnddfiohofnbaaa

/- Chapter 2: places; find, At. -/
namespace Go.Proofs.Ytnddfiohofnbaaa
open Go.RowKit

theorem may_ok {v : V} (h : v.may = true) : v.ok = true := by
  simp [V.may, V.fits] at h; exact h.1.1

theorem sets5v (w : World) (a : Nat) (t : TypeId) (x0 x1 x2 x3 x4 v0 v1 v2 v3 v4 : Value) (h : Blk w a t #[x0, x1, x2, x3, x4]) :
    Blk (((((w.setCell ⟨a, 0, none⟩ v0).setCell ⟨a, 1, none⟩ v1).setCell ⟨a, 2, none⟩ v2).setCell ⟨a, 3, none⟩ v3).setCell ⟨a, 4, none⟩ v4) a t #[v0, v1, v2, v3, v4] ∧
    Fr (fun i => i = a) w (((((w.setCell ⟨a, 0, none⟩ v0).setCell ⟨a, 1, none⟩ v1).setCell ⟨a, 2, none⟩ v2).setCell ⟨a, 3, none⟩ v3).setCell ⟨a, 4, none⟩ v4) :=
  ⟨(by simpa only [List.setIfInBounds_toArray, List.set_cons_zero, List.set_cons_succ] using ((((h.set_ 0 v0).set_ 1 v1).set_ 2 v2).set_ 3 v3).set_ 4 v4),
   (((((Fr.refl (fun i => i = a) w).set (fun _ => rfl) v0).set (fun _ => rfl) v1).set (fun _ => rfl) v2).set (fun _ => rfl) v3).set (fun _ => rfl) v4⟩

/-- Some numbers that lie one behind the other. -/
structure Ints (w : World) (lo hi : Nat) (A : Option Addr) (cap : Nat) (p : List Int) : Prop where
  len : p.length * 8 ≤ 140737488351232
  cap : p.length ≤ cap
  at_ : p ≠ [] → ∃ b o, A = some ⟨b, o, none⟩ ∧ lo ≤ b ∧ b < hi ∧ ∀ i x, p[i]? = some x → w.cell? ⟨b, o + i, none⟩ = some (.int .i64 x)
  rng : ∀ x ∈ p, -9223372036854775808 ≤ x ∧ x ≤ 9223372036854775807

theorem Ints.keep {w w' : World} {lo hi : Nat} {A : Option Addr} {cap : Nat} {p : List Int} (h : Ints w lo hi A cap p) (hk : ∀ b o, lo ≤ b → b < hi → w'.cell? ⟨b, o, none⟩ = w.cell? ⟨b, o, none⟩) : Ints w' lo hi A cap p :=
  ⟨h.len, h.cap, fun hne => by
    obtain ⟨b, o, hA, h0, h1, hc⟩ := h.at_ hne
    exact ⟨b, o, hA, h0, h1, fun i x hx => (hk b _ h0 h1).trans (hc i x hx)⟩, h.rng⟩

theorem Ints.fr {S : Nat → Prop} {w w' : World} {lo hi : Nat} {A : Option Addr} {cap : Nat} {p : List Int} (h : Ints w lo hi A cap p) (hf : Fr S w w') (hh : hi ≤ w.heap.size) (hs : ∀ i, lo ≤ i → i < hi → ¬ S i) : Ints w' lo hi A cap p :=
  h.keep fun b _ h0 h1 => hf.cell (by omega) (hs b h0 h1)

theorem Ints.no {w w' : World} {lo hi : Nat} {A : Option Addr} {cap : Nat} {p : List Int} (h : Ints w lo hi A cap p) (hf : Fr No w w') (hh : hi ≤ w.heap.size) : Ints w' lo hi A cap p := h.fr hf hh fun _ _ _ h => h

theorem Ints.elem {w : World} {lo hi : Nat} {A : Option Addr} {cap : Nat} {p : List Int} (h : Ints w lo hi A cap p) {j : Nat} (hj : j < p.length) : ∃ b o, A = some ⟨b, o, none⟩ ∧ lo ≤ b ∧ b < hi ∧ w.cell? ⟨b, o + j, none⟩ = some (.int .i64 p[j]) := by
  obtain ⟨b, o, hA, h0, h1, hc⟩ := h.at_ (by rintro rfl; simp at hj)
  exact ⟨b, o, hA, h0, h1, hc j _ (List.getElem?_eq_getElem hj)⟩

def V.list : V → List V
  | .mk _ _ _ l _ => l

/-- What stands at a place. -/
def vAt : List Int → V → Option V
  | [], v => some v
  | i :: p, v => if i < 0 then none else (v.list[i.toNat]?).bind (vAt p)

theorem vAt_cons (i : Int) (p : List Int) (v : V) : vAt (i :: p) v = if i < 0 then none else (v.list[i.toNat]?).bind (vAt p) := rfl

/-- What find answers. -/
def FindV (v : V) (p : List Int) (lo hi : Nat) (w : World) (e : Ending) (w' : World) : Prop :=
  Fr No w w' ∧ ((∃ t' : T, e = .returned (.tuple #[t'.val, .bool true]) ∧ vAt p v = some t'.v ∧ t'.In w' lo hi) ∨ (e = .returned (.tuple #[.agg #[.int .u8 0, .int .i64 0, .string ⟨#[]⟩, .slice none 0 0, .int .i64 0], .bool false]) ∧ vAt p v = none))

/-- Where find's loop stands. -/
structure FInv (v : V) (p : List Int) (lo hi : Nat) (w : World) (g : Nat) (j : Nat) (wr : World) : Prop where
  fr : Fr No w wr
  z : Blk wr (g + 1) 37 #[.int .u8 0, .int .i64 0, .string ⟨#[]⟩, .slice none 0 0, .int .i64 0]
  ex : ∃ k n s A cap l r, Blk wr g 37 #[.int .u8 k, .int .i64 n, .string s, .slice A (l : List T).length cap, .int .i64 r] ∧ (T.mk k n s A cap l r).In wr lo hi ∧ vAt p v = vAt (p.drop j) (T.mk k n s A cap l r).v

theorem T.v_list (k n : Int) (s : ByteArray) (A : Option Addr) (cap : Nat) (l : List T) (r : Int) : (T.mk k n s A cap l r).v.list = l.map T.v := by rw [T.v_mk]; rfl

end Go.Proofs.Ytnddfiohofnbaaa

/- What the document's answer counts of a value: plain laws. No program in sight. -/
namespace Go.Proofs.Ytnddfiohofnbaaa
open Go.RowKit

/-- The greatest of some numbers, and one more; 0 of none. -/
def top1 : List Nat → Nat
  | [] => 0
  | x :: l => max (x + 1) (top1 l)

/-- How deep its lists of parts go, whatever its kind. -/
def V.ht : V → Nat
  | .mk _ _ _ l _ => top1 (l.map V.ht)
termination_by v => v

theorem V.ht_mk (k n : Int) (s : ByteArray) (l : List V) (r : Int) : (V.mk k n s l r).ht = top1 (l.map V.ht) := by rw [V.ht]

theorem lt_top1 {l : List Nat} {x : Nat} (h : x ∈ l) : x + 1 ≤ top1 l := by
  induction l with
  | nil => simp at h
  | cons y l ih =>
    rcases List.mem_cons.1 h with rfl | h
    · simp [top1]; omega
    · have := ih h; simp [top1]; omega

theorem top1_le {l : List Nat} {n : Nat} (h : ∀ x ∈ l, x + 1 ≤ n) : top1 l ≤ n := by
  induction l with
  | nil => simp [top1]
  | cons y l ih =>
    have h1 := h y (by simp)
    have h2 := ih fun x hx => h x (by simp [hx])
    simp [top1]; omega

theorem ht_child {k n : Int} {s : ByteArray} {l : List V} {r : Int} {x : V} (h : x ∈ l) : x.ht + 1 ≤ (V.mk k n s l r).ht := by
  rw [V.ht_mk]; exact lt_top1 (List.mem_map_of_mem h)

theorem dep_le_ht (v : V) : v.dep ≤ v.ht + 1 := by
  induction v using V.ind with
  | h k n s l r ih =>
    rw [V.dep_mk]
    by_cases h3 : k = 3
    · rw [if_pos h3]
      have : top (l.map V.dep) ≤ (V.mk k n s l r).ht := top_le fun d hd => by
        obtain ⟨x, hx, rfl⟩ := List.mem_map.1 hd
        have h1 := ih x hx
        have h2 := ht_child (k := k) (n := n) (s := s) (r := r) hx
        omega
      omega
    · rw [if_neg h3]; omega

theorem ht_le_dep (v : V) : v.ok = true → v.ht ≤ v.dep := by
  induction v using V.ind with
  | h k n s l r ih =>
    intro h
    rw [V.ok_mk, Bool.and_eq_true] at h
    rw [V.ht_mk, V.dep_mk]
    by_cases h3 : k = 3
    · rw [if_pos h3]
      refine top1_le fun x hx => ?_
      obtain ⟨y, hy, rfl⟩ := List.mem_map.1 hx
      have h1 := ih y hy (List.all_eq_true.1 h.2 y hy)
      have h2 : y.dep ≤ top (l.map V.dep) := le_top (List.mem_map_of_mem hy)
      omega
    · have := List.eq_nil_of_length_eq_zero (fok_len h3 h.1)
      subst this
      simp [top1]

/-- What 'parts' comes to, at the depth d. -/
def PartsIs (v : V) (d z : Nat) : Prop := 1 ≤ z ∧ z ≤ 513 + 512 * (17 - d) ∧ (z ≤ 512 → z = v.size ∧ v.ht + d ≤ 16) ∧ (v.size ≤ 512 → v.ht + d ≤ 16 → z = v.size)

/-- Where the loop of 'parts' stands. -/
structure PInv (l : List V) (d j n : Nat) : Prop where
  pos : 1 ≤ n
  le : n ≤ 513 + 512 * (17 - d)
  few : n ≤ 512 → n = 1 + sizeTo l j ∧ ∀ i (h : i < l.length), i < j → l[i].ht + (d + 1) ≤ 16
  same : 1 + sizeTo l j ≤ 512 → (∀ i (h : i < l.length), i < j → l[i].ht + (d + 1) ≤ 16) → n = 1 + sizeTo l j

theorem PInv.zero (l : List V) (d : Nat) : PInv l d 0 1 :=
  ⟨by omega, by omega, fun _ => ⟨by rw [sizeTo_zero], fun i h hi => absurd hi (by omega)⟩, fun _ _ => by rw [sizeTo_zero]⟩

theorem PInv.succ {l : List V} {d j n z : Nat} (h : PInv l d j n) (hn : n ≤ 512) (hj : j < l.length) (hz : PartsIs l[j] (d + 1) z) (hd : d ≤ 16) : PInv l d (j + 1) (n + z) := by
  obtain ⟨z1, z2, z3, z4⟩ := hz
  have h1 := h.pos
  have h2 := sizeTo_succ l j hj
  refine ⟨by omega, by omega, fun hs => ?_, fun hs ha => ?_⟩
  · obtain ⟨e1, e2⟩ := z3 (by omega)
    obtain ⟨e3, e4⟩ := h.few hn
    refine ⟨by omega, fun i hi hij => ?_⟩
    rcases Nat.lt_or_ge i j with hlt | hge
    · exact e4 i hi hlt
    · obtain rfl : i = j := by omega
      exact e2
  · have e1 := h.same (by omega) fun i hi hij => ha i hi (by omega)
    have e2 := z4 (by omega) (ha j hj (by omega))
    omega

theorem PInv.done {l : List V} {d n : Nat} {k m : Int} {s : ByteArray} {r : Int} (h : PInv l d l.length n) (hd : d ≤ 16) : PartsIs (V.mk k m s l r) d n := by
  have hsz : (V.mk k m s l r).size = 1 + sizeTo l l.length := by rw [V.size_mk, sizeTo_all]
  refine ⟨h.pos, h.le, fun hn => ?_, fun hs ht => ?_⟩
  · obtain ⟨e1, e2⟩ := h.few hn
    refine ⟨by omega, ?_⟩
    have : (V.mk k m s l r).ht ≤ 16 - d := by
      rw [V.ht_mk]
      refine top1_le fun x hx => ?_
      obtain ⟨y, hy, rfl⟩ := List.mem_map.1 hx
      obtain ⟨i, hi, rfl⟩ := List.mem_iff_getElem.1 hy
      have := e2 i hi hi
      omega
    omega
  · rw [hsz]
    refine h.same (by omega) fun i hi _ => ?_
    have := ht_child (k := k) (n := m) (s := s) (r := r) (List.getElem_mem hi)
    omega

theorem PInv.over {l : List V} {d j n : Nat} {k m : Int} {s : ByteArray} {r : Int} (h : PInv l d j n) (hn : 512 < n) : PartsIs (V.mk k m s l r) d n := by
  refine ⟨h.pos, h.le, fun hn' => absurd hn' (by omega), fun hs ht => ?_⟩
  exfalso
  have hsz : (V.mk k m s l r).size = 1 + (l.map V.size).sum := V.size_mk _ _ _ _ _
  have h1 := sizeTo_le l j
  have := h.same (by omega) fun i hi _ => by
    have := ht_child (k := k) (n := m) (s := s) (r := r) (List.getElem_mem hi)
    omega
  omega

theorem PartsIs.deep (v : V) : PartsIs v 17 513 := ⟨by omega, by omega, fun h => absurd h (by omega), fun _ h => absurd h (by omega)⟩

/-- The document's answer to 'may a value be?' is the program's. -/
theorem may_iff {v : V} {z : Nat} (h : PartsIs v 0 z) : v.may = (decide (z ≤ 512) && (decide (v.dep ≤ 16) && v.ok)) := by
  obtain ⟨z1, z2, z3, z4⟩ := h
  rw [Bool.eq_iff_iff]
  simp only [V.may, V.fits, Bool.and_eq_true, decide_eq_true_eq]
  constructor
  · rintro ⟨⟨h1, h2⟩, h3⟩
    have := ht_le_dep v h1
    have := z4 h2 (by omega)
    exact ⟨by omega, h3, h1⟩
  · rintro ⟨h1, h2, h3⟩
    have := z3 h1
    exact ⟨⟨h3, by omega⟩, h2⟩

end Go.Proofs.Ytnddfiohofnbaaa

/- Chapter 2: the walk of a value's parts, whatever is done with each. -/
namespace Go.Proofs.Ytnddfiohofnbaaa
open Go.RowKit

def walkL : List (List Int → List (List Int × V)) → Nat → List Int → List (List Int × V)
  | [], _, _ => []
  | f :: fs, i, pl => f (pl ++ [(i : Int)]) ++ walkL fs (i + 1) pl

/-- The parts of a value that stands at a place, in the order of the walk. -/
def V.walk : V → List Int → List (List Int × V)
  | .mk k n s l r => fun pl => (pl, .mk k n s l r) :: walkL (l.map V.walk) 0 pl
termination_by v => v

theorem V.walk_mk (k n : Int) (s : ByteArray) (l : List V) (r : Int) (pl : List Int) : (V.mk k n s l r).walk pl = (pl, .mk k n s l r) :: walkL (l.map V.walk) 0 pl := by rw [V.walk]

theorem walkL_append (fs gs : List (List Int → List (List Int × V))) (i : Nat) (pl : List Int) : walkL (fs ++ gs) i pl = walkL fs i pl ++ walkL gs (i + fs.length) pl := by
  induction fs generalizing i with
  | nil => simp [walkL]
  | cons f fs ih => simp only [List.cons_append, walkL, ih, List.append_assoc, List.length_cons]; rw [show i + 1 + fs.length = i + (fs.length + 1) by omega]

theorem walkL_take (fs : List (List Int → List (List Int × V))) (pl : List Int) {j : Nat} (h : j < fs.length) : walkL (fs.take (j + 1)) 0 pl = walkL (fs.take j) 0 pl ++ fs[j] (pl ++ [(j : Int)]) := by
  rw [List.take_succ_eq_append_getElem h, walkL_append]
  simp [walkL, List.length_take, Nat.min_eq_left (Nat.le_of_lt h)]

theorem walkL_prefix (fs : List (List Int → List (List Int × V))) (pl : List Int) (j : Nat) : walkL (fs.take j) 0 pl <+: walkL fs 0 pl := by
  refine ⟨walkL (fs.drop j) (0 + (fs.take j).length) pl, ?_⟩
  rw [← walkL_append, List.take_append_drop]

theorem walkL_length (L : List V) : ∀ (i : Nat) (pl : List Int), (∀ v ∈ L, ∀ p, (v.walk p).length = v.size) → (walkL (L.map V.walk) i pl).length = (L.map V.size).sum := by
  induction L with
  | nil => intro i pl _; rfl
  | cons v L ih =>
    intro i pl h
    simp only [List.map_cons, walkL, List.length_append, List.sum_cons]
    rw [h v (by simp), ih (i + 1) pl fun u hu => h u (by simp [hu])]

theorem walk_length (v : V) : ∀ p, (v.walk p).length = v.size := by
  induction v using V.ind with
  | h k n s l r ih =>
    intro p
    rw [V.walk_mk, V.size_mk, List.length_cons, walkL_length l 0 p ih]
    omega

/-- What is done with each part: J holds between two parts, Jx where no more is wanted; M: the blocks that are its own. -/
structure Yields (N : Nat) (f : FuncId) (cp : Array Value) (J Jx : List (List Int × V) → (Nat → Prop) → World → Prop) : Prop where
  enters : ∀ (args : Array Value) (w : World), (callFunc f args).run Try.prog w = .ok (.enter f args) w
  call : ∀ (pre : List (List Int × V)) (M : Nat → Prop) (W : World) (x : T) (lo hi : Nat) (A : Option Addr) (cap : Nat) (p : List Int) (lo' hi' : Nat), pre.length < N → J pre M W → x.In W lo hi → hi ≤ W.heap.size → (∀ i, lo ≤ i → i < hi → ¬ M i) →
    Ints W lo' hi' A cap p → hi' ≤ W.heap.size → (∀ i, lo' ≤ i → i < hi' → ¬ M i) → Calls Try.prog f (#[.slice A p.length cap, x.val] ++ cp) W fun e W' => ∃ M' : Nat → Prop, Fr M W W' ∧ (∀ i, M' i → i < W.heap.size → M i) ∧
      ((e = .returned (.bool true) ∧ J (pre ++ [(p, x.v)]) M' W') ∨ (e = .returned (.bool false) ∧ Jx (pre ++ [(p, x.v)]) M' W'))
  stay : ∀ (pre : List (List Int × V)) (M : Nat → Prop) (W W' : World) (S : Nat → Prop), J pre M W → Fr S W W' → (∀ i, i < W.heap.size → S i → ¬ M i) → J pre M W'
  lt : ∀ (pre : List (List Int × V)) (M : Nat → Prop) (W : World), J pre M W → ∀ i, M i → i < W.heap.size

theorem Yields.no {N : Nat} {f : FuncId} {cp : Array Value} {J Jx : List (List Int × V) → (Nat → Prop) → World → Prop} (y : Yields N f cp J Jx) {pre : List (List Int × V)} {M : Nat → Prop} {W W' : World} (h : J pre M W) (hf : Fr No W W') : J pre M W' :=
  y.stay pre M W W' No h hf fun _ _ h => h.elim

/-- What the walk leaves. -/
def WalkP (J Jx : List (List Int × V) → (Nat → Prop) → World → Prop) (pre : List (List Int × V)) (M : Nat → Prop) (L : List (List Int × V)) (W : World) (e : Ending) (W' : World) : Prop :=
  ∃ M' : Nat → Prop, Fr M W W' ∧ (∀ i, M' i → i < W.heap.size → M i) ∧ ((e = .returned (.bool true) ∧ J (pre ++ L) M' W') ∨ (e = .returned (.bool false) ∧ ∃ q, q <+: L ∧ Jx (pre ++ q) M' W'))

theorem Clip_any (A : Option Addr) (n cap : Nat) (hn : n ≤ cap) (hc : n ≤ 9223372036854775807) (w : World) : Calls Try.prog 123 #[.slice A n cap] w fun e w' => e = .returned (.slice A n n) ∧ w' = w := by
  have h1 : (n : Int) ≤ (cap : Int) := by omega
  have h2 : (0 : Int) ≤ (n : Int) := by omega
  go_enter Try.func123, Try.ntmps123
  go_wp2
  go_ret
  exact ⟨by first | rfl | simp, rfl⟩

/-- The same, the answer as a Bool. -/
def WalkB (J Jx : List (List Int × V) → (Nat → Prop) → World → Prop) (pre : List (List Int × V)) (M : Nat → Prop) (L : List (List Int × V)) (W : World) (q : Bool) (W' : World) : Prop :=
  ∃ M' : Nat → Prop, Fr M W W' ∧ (∀ i, M' i → i < W.heap.size → M i) ∧ (q = true → J (pre ++ L) M' W') ∧ (q = false → ∃ q, q <+: L ∧ Jx (pre ++ q) M' W')

theorem WalkP.bool {J Jx : List (List Int × V) → (Nat → Prop) → World → Prop} {pre : List (List Int × V)} {M : Nat → Prop} {L : List (List Int × V)} {W : World} {e : Ending} {W' : World} (h : WalkP J Jx pre M L W e W') : ∃ q : Bool, e = .returned (.bool q) ∧ WalkB J Jx pre M L W q W' := by
  obtain ⟨M', h1, h2, ⟨rfl, h3⟩ | ⟨rfl, h3⟩⟩ := h
  · exact ⟨true, rfl, M', h1, h2, fun _ => h3, (fun h => by cases h)⟩
  · exact ⟨false, rfl, M', h1, h2, (fun h => by cases h), fun _ => h3⟩

theorem Ints.old {w : World} {lo hi : Nat} {A : Option Addr} {cap : Nat} {p : List Int} (h : Ints w lo hi A cap p) : ∀ b, A = some b → ∀ j u, (p.map fun x => Value.int .i64 x)[j]? = some u → w.cell? (b.add j) = some u := by
  intro b hb j u hu
  rw [List.getElem?_map] at hu
  cases hx : p[j]? with
  | none => rw [hx] at hu; cases hu
  | some x =>
    rw [hx] at hu
    simp at hu
    subst hu
    obtain ⟨b', o', hA, _, _, hc⟩ := h.at_ (by rintro rfl; simp at hx)
    rw [hA] at hb
    injection hb with hb
    subst hb
    have : (⟨b', o', none⟩ : Addr).add j = ⟨b', o' + j, none⟩ := by unfold Addr.add; split <;> simp_all
    rw [this]
    exact hc j x hx

theorem ints_of_owns {w : World} {base g cap : Nat} {p : List Int} (h : w.ownsRow base 3 1 (.slice (some ⟨g, 0, none⟩) p.length cap) p.length (p.map fun x => Value.int .i64 x)) (hl : p.length * 8 ≤ 140737488351232) (hr : ∀ x ∈ p, -9223372036854775808 ≤ x ∧ x ≤ 9223372036854775807) :
    Ints w g (g + 1) (some ⟨g, 0, none⟩) cap p := by
  rcases h.2 with ⟨hs, _⟩ | ⟨g', cap', cur, hs, hb, hg, hc, hm, hsz, hx⟩
  · cases hs
  · simp at hs
    obtain ⟨rfl, rfl⟩ := hs
    refine ⟨hl, hc, fun _ => ⟨g, 0, rfl, Nat.le_refl _, by omega, fun i x hi => ?_⟩, hr⟩
    have hcell : w.cell? ⟨g, 0 + i, none⟩ = cur[0 + i]? := cell_of_row w g _ cur 3 (0, 0) hg
    rw [hcell, Nat.zero_add]
    have h1 : (p.map fun x => Value.int .i64 x)[i]? = some (.int .i64 x) := by rw [List.getElem?_map, hi]; rfl
    rw [← hx, List.getElem?_take] at h1
    split at h1
    · simpa using h1
    · cases h1

theorem blk5 {w : World} {g : Nat} {t : TypeId} {a b c d e : Value} (h : Blk w g t #[a, b, c, d, e]) : w.cell? ⟨g, 0, none⟩ = some a ∧ w.cell? ⟨g, 1, none⟩ = some b ∧ w.cell? ⟨g, 2, none⟩ = some c ∧ w.cell? ⟨g, 3, none⟩ = some d ∧ w.cell? ⟨g, 4, none⟩ = some e :=
  ⟨h.cell 0, h.cell 1, h.cell 2, h.cell 3, h.cell 4⟩

/-- Where the walk's loop stands. -/
structure WInv (J : List (List Int × V) → (Nat → Prop) → World → Prop) (pre : List (List Int × V)) (M : Nat → Prop) (W : World) (X : Array Value) (wr : World) : Prop where
  fr : Fr M W wr
  box : Blk wr W.heap.size 37 X
  ex : ∃ M1 : Nat → Prop, J pre M1 wr ∧ (∀ i, M1 i → i < W.heap.size → M i) ∧ ¬ M1 W.heap.size

end Go.Proofs.Ytnddfiohofnbaaa

/- Chapter 2: value.walk. -/
namespace Go.Proofs.Ytnddfiohofnbaaa
open Go.RowKit

theorem int_info : (Try.prog.info? 3).map (fun i => (i.zero, i.size, i.bytes)) = some (some (.int .i64 0), 1, 8) := by kernel_rfl

theorem winv_step {J Jx : List (List Int × V) → (Nat → Prop) → World → Prop} {PRE L : List (List Int × V)} {M M1 : Nat → Prop} {W wr w4 w5 : World} {X : Array Value} {q : Bool} (fr : Fr M W wr) (hb : Blk wr W.heap.size 37 X) (hs1 : ∀ i, M1 i → i < W.heap.size → M i) (hn1 : ¬ M1 W.heap.size)
    (f4 : Fr No wr w4) (hq : WalkB J Jx PRE M1 L w4 q w5) : (q = true → WInv J (PRE ++ L) M W X w5) ∧ (q = false → ∃ M' : Nat → Prop, Fr M W w5 ∧ (∀ i, M' i → i < W.heap.size → M i) ∧ ∃ q', q' <+: L ∧ Jx (PRE ++ q') M' w5) := by
  obtain ⟨M5, f5, hs5, h1, h2⟩ := hq
  have hsz := fr.size
  have hsz4 := f4.size
  have hF : Fr M W w5 := (fr.thenNo f4).trans' f5 fun i hi h => hs1 i h hi
  have hM5 : ∀ i, M5 i → i < W.heap.size → M i := fun i h hi => hs1 i (hs5 i h (by omega)) hi
  refine ⟨fun hq => ⟨hF, (hb.fr f4 fun h => h).fr f5 hn1, M5, h1 hq, hM5, fun h => hn1 (hs5 _ h (by have := hb.lt; omega))⟩, fun hq => ?_⟩
  obtain ⟨q', hp, hx⟩ := h2 hq
  exact ⟨M5, hF, hM5, q', hp, hx⟩

theorem grown_no {W w w' : World} (h : Fr No W w) (hg : w.grownBy w' none) : Fr No W w' := h.grown hg fun k hk => by cases hk

theorem walkb_box {J Jx : List (List Int × V) → (Nat → Prop) → World → Prop} {PRE L : List (List Int × V)} {M1 : Nat → Prop} {w4 w5 : World} {q : Bool} {g : Nat} {X : Array Value} (hq : WalkB J Jx PRE M1 L w4 q w5) (hb : Blk w4 g 37 X) (hn : ¬ M1 g) : Blk w5 g 37 X := by
  obtain ⟨M5, f5, _⟩ := hq
  exact hb.fr f5 hn

theorem prefix_cons {α : Type} {x : α} {L a b c : List α} {q : List α} (h1 : L = x :: (a ++ (b ++ c))) (hq : q <+: b) : x :: (a ++ q) <+: L := by
  obtain ⟨d, rfl⟩ := hq
  exact ⟨d ++ c, by rw [h1]; simp⟩

set_option maxRecDepth 100000 in
set_option maxHeartbeats 4000000 in
theorem walk_any {N : Nat} {f : FuncId} {cp : Array Value} {J Jx : List (List Int × V) → (Nat → Prop) → World → Prop} (y : Yields N f cp J Jx) (t : T) : ∀ (pre : List (List Int × V)) (M : Nat → Prop) (W : World) (lo hi : Nat) (A : Option Addr) (cap : Nat) (p : List Int) (lo' hi' : Nat), J pre M W → t.In W lo hi → hi ≤ W.heap.size → (∀ i, lo ≤ i → i < hi → ¬ M i) →
    Ints W lo' hi' A cap p → hi' ≤ W.heap.size → (∀ i, lo' ≤ i → i < hi' → ¬ M i) → p.length + t.v.ht ≤ 1000 → pre.length + t.v.size ≤ N → Calls Try.prog 107 #[t.val, .slice A p.length cap, .func (.func f) #[] cp] W (WalkP J Jx pre M (t.v.walk p) W) := by
  induction t using T.ind with
  | h k n s A1 cap1 l r ih =>
    intro pre M W lo hi A cap p lo' hi' hJ ht hh hM hp hh' hM' hbnd hN
    have hY := y.call pre M (W.alloc (.cells #[.int .u8 k, .int .i64 n, .string s, .slice A1 l.length cap1, .int .i64 r] 37)) (T.mk k n s A1 cap1 l r) lo hi A cap p lo' hi' (by have := (T.mk k n s A1 cap1 l r).v.size_pos; omega) (y.no hJ ((Fr.refl No W).alloc _)) (ht.no ((Fr.refl No W).alloc _) hh) (by simp; omega) hM
      (hp.no ((Fr.refl No W).alloc _) hh') (by simp; omega) hM'
    rw [T.val_mk] at *
    have hK := Blk.new' W 37 #[.int .u8 k, .int .i64 n, .string s, .slice A1 l.length cap1, .int .i64 r] rfl
    have fr1 := (Fr.refl No W).alloc (.cells #[.int .u8 k, .int .i64 n, .string s, .slice A1 l.length cap1, .int .i64 r] 37)
    have hwk : (T.mk k n s A1 cap1 l r).v.walk p = (p, (T.mk k n s A1 cap1 l r).v) :: walkL ((l.map T.v).map V.walk) 0 p := by rw [T.v_mk, V.walk_mk]
    have hlt := y.lt pre M W hJ
    have heg := y.enters
    have HY := hide hY
    have HLT := hide hlt
    clear hlt
    clear hY
    go_enter Try.func107, Try.ntmps107
    go_wp2_with fail
    refine HY.out.mono ?_
    rintro e W2 ⟨M2, frM2, hsub2, ⟨rfl, hJ2⟩ | ⟨rfl, hJx2⟩⟩
    · have hM0 : ¬ M W.heap.size := fun h => by have := HLT.out _ h; omega
      have hM20 : ¬ M2 W.heap.size := fun h => hM0 (hsub2 _ h (by simp))
      have hst : WInv J (pre ++ (p, (T.mk k n s A1 cap1 l r).v) :: walkL (((l.map T.v).map V.walk).take 0) 0 p) M W #[.int .u8 k, .int .i64 n, .string s, .slice A1 l.length cap1, .int .i64 r] W2 :=
        ⟨(fr1.no (S := M)).trans frM2, hK.fr frM2 hM0, M2, by simpa [walkL] using hJ2, fun i h1 h2 => hsub2 i h1 (by simp; omega), hM20⟩
      have HST := hide hst
      obtain ⟨c0, c1, c2, c3, c4, cf⟩ := hst.box.cells5
      have hlen := (T.in_mk.1 ht).1.len1
      have q0 := hst.box.lt
      have HWK := hide hwk
      have HTT := hide ht
      clear hst hM20 hK hJ2 frM2 hsub2 fr1 hJ hwk ht
      go_wp2_with fail
      go_loopw [17] (fun i wr => ∃ j : Nat, j ≤ l.length ∧ i = .int .i64 j ∧ WInv J (pre ++ (p, (T.mk k n s A1 cap1 l r).v) :: walkL (((l.map T.v).map V.walk).take j) 0 p) M W #[.int .u8 k, .int .i64 n, .string s, .slice A1 l.length cap1, .int .i64 r] wr) (fun i _ => l.length - (intOf i).toNat)
      case atStart => exact ⟨0, Nat.zero_le _, rfl, HST.out⟩
      case round =>
        obtain ⟨j, hj, rfl, inv⟩ := hrel
        by_cases hlt : j < l.length
        · obtain ⟨fr, hb, M1, hJ1, hs1, hn1⟩ := inv
          obtain ⟨b, o, k1, n1, s1, A2, cap2, l1, r1, rfl, hb0, hb1, hx, hin, e0, e1, e2, e3, e4⟩ := T.elem (HTT.out.fr fr hh hM) hlt
          have hsz := fr.size
          have g0 : b < wr.heap.size := by omega
          have hlt1 := y.lt _ _ _ hJ1
          have hch : (T.mk k1 n1 s1 A2 cap2 l1 r1).v.ht + 1 ≤ (T.mk k n s (some ⟨b, o, none⟩) cap1 l r).v.ht := by
            rw [← hx, T.v_mk k n s]; exact ht_child (List.mem_map_of_mem (List.getElem_mem hlt))
          have hpl : p.length + 1 ≤ 1000 := by omega
          have hNN : (pre ++ (p, (T.mk k n s (some ⟨b, o, none⟩) cap1 l r).v) :: walkL (((l.map T.v).map V.walk).take j) 0 p).length + (T.mk k1 n1 s1 A2 cap2 l1 r1).v.size ≤ N := by
            have h1 : (walkL (((l.map T.v).map V.walk).take j) 0 p).length = (((l.map T.v).take j).map V.size).sum := by
              rw [← List.map_take]; exact walkL_length _ 0 p fun v _ => walk_length v
            have h2 := sum_take_succ ((l.map T.v).map V.size) j (by simpa using hlt)
            have h3 := sum_take_le ((l.map T.v).map V.size) (j + 1)
            rw [List.getElem_map, List.getElem_map, hx] at h2
            rw [List.map_take] at h1
            rw [T.v_mk k n s, V.size_mk] at hN
            rw [List.length_append, List.length_cons, h1]
            omega
          have hcapp := hp.cap
          have fr3 := (Fr.refl No wr).alloc (.cells #[.int .u8 k1, .int .i64 n1, .string s1, .slice A2 l1.length cap2, .int .i64 r1] 37)
          have hPW : ∀ w', Fr No (wr.alloc (.cells #[.int .u8 k1, .int .i64 n1, .string s1, .slice A2 l1.length cap2, .int .i64 r1] 37)) w' → Ints w' lo' hi' A p.length p := fun w' f => by
            have h := hp.fr (fr.thenNo (fr3.trans f)) hh' hM'
            exact ⟨h.len, Nat.le_refl _, h.at_, h.rng⟩
          have hnone : A = none → p.length = 0 ∧ p.length = 0 := fun hA => by
            rcases List.eq_nil_or_concat p with rfl | ⟨p', x, rfl⟩
            · simp
            · obtain ⟨b', o', h, _⟩ := hp.at_ (by simp)
              rw [hA] at h; cases h
          have hrec : ∀ (w4 : World) (g4 cap4 : Nat), Fr No (wr.alloc (.cells #[.int .u8 k1, .int .i64 n1, .string s1, .slice A2 l1.length cap2, .int .i64 r1] 37)) w4 → Ints w4 g4 (g4 + 1) (some ⟨g4, 0, none⟩) cap4 (p ++ [(j : Int)]) → wr.heap.size ≤ g4 → g4 < w4.heap.size →
              Calls Try.prog 107 #[.agg #[.int .u8 k1, .int .i64 n1, .string s1, .slice A2 l1.length cap2, .int .i64 r1], .slice (some ⟨g4, 0, none⟩) (p.length + 1) cap4, .func (.func f) #[] cp] w4 fun e w5 => ∃ q : Bool, e = .returned (.bool q) ∧
                WalkB J Jx (pre ++ (p, (T.mk k n s (some ⟨b, o, none⟩) cap1 l r).v) :: walkL (((l.map T.v).map V.walk).take j) 0 p) M1 ((T.mk k1 n1 s1 A2 cap2 l1 r1).v.walk (p ++ [(j : Int)])) w4 q w5 := by
            intro w4 g4 cap4 f4 hi4 h0 h1
            have f04 := fr3.trans f4
            have h := ih l[j] (List.getElem_mem hlt) (pre ++ (p, (T.mk k n s (some ⟨b, o, none⟩) cap1 l r).v) :: walkL (((l.map T.v).map V.walk).take j) 0 p) M1 w4 lo hi (some ⟨g4, 0, none⟩) cap4 (p ++ [(j : Int)]) g4 (g4 + 1) (y.no hJ1 f04)
              (by rw [hx]; exact hin.no f04 (by omega)) (by have := f04.size; omega) (fun i q0 q1 q2 => hM i q0 q1 (hs1 i q2 (by omega))) hi4 (by omega) (fun i q0 q1 q2 => by have := hlt1 i q2; omega) (by rw [List.length_append, hx]; simp; omega) (by rw [hx]; exact hNN)
            rw [hx, T.val_mk, List.length_append] at h
            exact h.mono fun e w5 hw => hw.bool
          have hbx := Blk.new wr 37 #[.int .u8 k1, .int .i64 n1, .string s1, .slice A2 l1.length cap2, .int .i64 r1]
          obtain ⟨i0, hi0, hz0, hz1, hz2⟩ := info_parts int_info
          have hrng : ∀ x ∈ p ++ [(j : Int)], -9223372036854775808 ≤ x ∧ x ≤ 9223372036854775807 := fun x hx => by
            rcases List.mem_append.1 hx with hx | hx
            · exact hp.rng x hx
            · simp at hx; omega
          have HREC := hide hrec
          have HPW := hide hPW
          have HBX := hide hbx
          have HNONE := hide hnone
          have HFR := hide fr
          have HB := hide hb
          have HS1 := hide hs1
          have HN1 := hide hn1
          have HF3 := hide fr3
          have HRNG := hide hrng
          have HX := hide hx
          have HLT1 := hide (fun h => by have := hlt1 wr.heap.size h; omega : ¬ M1 wr.heap.size)
          have hcl := fun w' => Clip_any A p.length cap hcapp (by omega) w'
          clear hrec hPW hbx hnone fr hb hs1 hn1 fr3 hin hx hJ1 hlt1 ih hch hrng
          go_wp2_with fail
          go_region_held3 (fun w' => w'.cell? ⟨wr.heap.size, 0, none⟩ = some (.int .u8 k1) ∧ w'.cell? ⟨wr.heap.size, 1, none⟩ = some (.int .i64 n1) ∧ w'.cell? ⟨wr.heap.size, 2, none⟩ = some (.string s1) ∧ w'.cell? ⟨wr.heap.size, 3, none⟩ = some (.slice A2 l1.length cap2) ∧ w'.cell? ⟨wr.heap.size, 4, none⟩ = some (.int .i64 r1))
            (first | with_reducible exact blk5 (Blk.drew HBX.out) | with_reducible exact blk5 (Blk.drew (Blk.alloc HBX.out _)) | with_reducible exact HS5.out | with_reducible exact HS4.out)
            (first
              | ((refine step_append_grows rfl _ _ _ (by rfl) 3 i0 _ 1 8 Try.underlying43 hi0 hz0 hz1 hz2 rfl (by omega) A p.length p.length (p.map fun x => Value.int .i64 x) (by rfl) HNONE.out (by simp) (Ints.old (HPW.out _ (by repeat (first | with_reducible exact Fr.refl No _ | with_reducible refine Fr.drew ?_ | with_reducible refine Fr.alloc ?_ _)))) ⟨wr.heap.size + 1, 0, none⟩ 1 1 [.int .i64 (j : Int)] (by rfl) (by rfl) (World.news_of_block (Blk.new' _ 3 #[.int .i64 (j : Int)] (by simp))) (by simp [Value.oneCell']) (by omega) (by unfold maxLen; omega) (by omega) ?_); intro v4 w4 hown hgrow; obtain ⟨g4, cap4, rfl, hg0, hg1⟩ := hown.form (by omega); have FR4 := hide (grown_no (W := wr.alloc (.cells #[.int .u8 k1, .int .i64 n1, .string s1, .slice A2 l1.length cap2, .int .i64 r1] 37)) (by repeat (first | with_reducible exact Fr.refl No _ | with_reducible refine Fr.drew ?_ | with_reducible refine Fr.alloc ?_ _)) hgrow); have INT4 := hide (ints_of_owns (p := p ++ [(j : Int)]) (by simpa using hown) (by simp; omega) HRNG.out); have hg0' : wr.heap.size ≤ g4 := (by simp at hg0; omega); have HG0 := hide hg0'; have HS4 := hide (blk5 (Blk.fr HBX.out FR4.out fun h => h)); clear hown hgrow hg0 hg0')
              | (go_at_call 107; ((with_reducible refine (HREC.out w4 g4 cap4 FR4.out INT4.out HG0.out hg1).mono ?_); rintro e w5 ⟨q, rfl, hq⟩; have HW := hide (winv_step HFR.out HB.out HS1.out HN1.out (HF3.out.trans FR4.out) hq); have HS5 := hide (blk5 (walkb_box hq (Blk.fr HBX.out FR4.out fun h => h) HLT1.out)); clear hq))
              | (go_at_call 123; (with_reducible refine (hcl _).mono ?_); rintro e wc ⟨rfl, rfl⟩))
          all_goals
            have hW := HW.out
            cases q with
            | true =>
              have HW2 := hide (hW.1 rfl)
              clear hW
              go_wp2
              go_roundw
              case rel =>
                refine ⟨j + 1, hlt, by go_num, ?_⟩
                have h := HW2.out
                have hx' := HX.out
                rw [walkL_take _ _ (by simpa using hlt), ← List.cons_append, ← List.append_assoc, List.getElem_map, List.getElem_map, hx']
                exact h
              case measure => simp [intOf]; omega
            | false =>
              have hpost : WalkP J Jx pre M ((T.mk k n s (some ⟨b, o, none⟩) cap1 l r).v.walk p) W (.returned (.bool false)) w5 := by
                obtain ⟨M', f, hs, q', hp', hx2⟩ := hW.2 rfl
                have hx' := HX.out
                refine ⟨M', f, hs, .inr ⟨rfl, (p, (T.mk k n s (some ⟨b, o, none⟩) cap1 l r).v) :: (walkL (((l.map T.v).map V.walk).take j) 0 p ++ q'), ?_, by simpa using hx2⟩⟩
                refine prefix_cons (b := (T.mk k1 n1 s1 A2 cap2 l1 r1).v.walk (p ++ [(j : Int)])) (c := walkL (((l.map T.v).map V.walk).drop (j + 1)) (0 + (((l.map T.v).map V.walk).take (j + 1)).length) p) ?_ hp'
                rw [HWK.out]
                congr 1
                have h1 := walkL_take ((l.map T.v).map V.walk) p (j := j) (by simpa using hlt)
                rw [List.getElem_map, List.getElem_map, hx'] at h1
                rw [← List.append_assoc, ← h1, ← walkL_append, List.take_append_drop]
              have HP := hide hpost
              clear hpost hW
              go_wp2
              go_ret
              exact HP.out
        · obtain rfl : j = l.length := by omega
          have hpost : WalkP J Jx pre M ((T.mk k n s A1 cap1 l r).v.walk p) W (.returned (.bool true)) wr := by
            obtain ⟨fr, hb, M1, hJ1, hs1, _⟩ := inv
            rw [List.take_of_length_le (by simp)] at hJ1
            exact ⟨M1, fr, hs1, .inl ⟨rfl, by rw [HWK.out]; exact hJ1⟩⟩
          have HP := hide hpost
          clear hpost inv ih
          go_wp2
          go_ret
          exact HP.out
    · have hpost : WalkP J Jx pre M ((T.mk k n s A1 cap1 l r).v.walk p) W (.returned (.bool false)) W2 :=
        ⟨M2, (fr1.no (S := M)).trans frM2, fun i h1 h2 => hsub2 i h1 (by simp; omega), .inr ⟨rfl, [(p, (T.mk k n s A1 cap1 l r).v)], ⟨walkL ((l.map T.v).map V.walk) 0 p, by rw [hwk]; rfl⟩, hJx2⟩⟩
      have HP := hide hpost
      clear hpost hJx2 frM2 hsub2 ih hwk
      go_wp2
      go_ret
      exact HP.out

end Go.Proofs.Ytnddfiohofnbaaa

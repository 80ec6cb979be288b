/- Texts joined: P11, S15, S16, S17, A3. -/
import Derived.Test.YtihjmipmjogpoaaJn13
/- Chapter 2: Of, the program's and the document's. -/
namespace Go.Proofs.Ytihjmipmjogpoaa
open Go.RowKit

theorem all1_any (t : T) (w : World) (lo hi : Nat) (ht : t.In w lo hi) (hh : hi ≤ w.heap.size) : Calls Try.prog 152 #[t.val] w fun e w' => e = .returned (.bool (!t.v.may)) ∧ Fr No w w' := by
  have IH := fun w' h h' => may_any t w' lo hi h h'
  cases t with
  | mk k n s A cap l r =>
    rw [T.val_mk] at *
    generalize (T.mk k n s A cap l r).v.may = z at *
    cases z
    all_goals
      go_enter Try.func152, Try.ntmps152
      go_wp2_with fail
      refine (IH _ (ht.no ((Fr.refl No w).alloc _) hh) (by simp; omega)).mono ?_
      rintro e w2 ⟨rfl, fr2⟩
      go_wp2
      go_ret
      exact ⟨rfl, ((Fr.refl No w).alloc _).trans fr2⟩

set_option maxRecDepth 100000 in
set_option maxHeartbeats 4000000 in
theorem indexV_any (A : Option Addr) (cap : Nat) (l : List T) (w : World) (lo hi : Nat) (ht : (T.row A cap l).In w lo hi) (hh : hi ≤ w.heap.size) :
    Calls Try.prog 158 #[.slice A l.length cap, .func (.func 152) #[] #[]] w fun e w' => (∃ z : Int, e = .returned (.int .i64 z) ∧ ((0 ≤ z ∧ (l.map T.v).all V.may = false) ∨ (z = -1 ∧ (l.map T.v).all V.may = true))) ∧ Fr No w w' := by
  have hlen := (T.in_mk.1 ht).1.len1
  have hB := all1_any
  go_enter Try.func158, Try.ntmps158
  go_wp2_with fail
  go_loopw [8] (fun i wr => ∃ j : Nat, j ≤ l.length ∧ i = .int .i64 j ∧ Fr No w wr ∧ ∀ v ∈ (l.map T.v).take j, v.may = true) (fun i _ => l.length - (intOf i).toNat)
  case atStart => exact ⟨0, Nat.zero_le _, rfl, Fr.refl _ _, by simp⟩
  case round =>
    obtain ⟨j, hj, rfl, fr, hall⟩ := hrel
    have HA := hide hall
    have hsz := fr.size
    clear hall
    by_cases hlt : j < l.length
    · obtain ⟨b, o, k1, n1, s1, A1, cap1, l1, r1, rfl, hb0, hb1, hx, hin, e0, e1, e2, e3, e4⟩ := T.elem (ht.no fr hh) hlt
      have hc := hB l[j] wr lo hi (by rw [hx]; exact hin) (by omega)
      have hj' : j < (l.map T.v).length := by simpa using hlt
      have hxv : (l.map T.v)[j] = (T.mk k1 n1 s1 A1 cap1 l1 r1).v := by rw [List.getElem_map, hx]
      rw [hx, T.val_mk] at hc
      generalize (T.mk k1 n1 s1 A1 cap1 l1 r1).v = u at *
      have g0 : b < wr.heap.size := by omega
      have htk : (l.map T.v).take (j + 1) = (l.map T.v).take j ++ [u] := by rw [List.take_succ_eq_append_getElem hj', hxv]
      have hmem : u ∈ l.map T.v := by rw [← hxv]; exact List.getElem_mem hj'
      have HT := hide htk
      have HM := hide hmem
      have HF := hide fr
      clear hx hxv htk hmem fr hin hB ht
      cases hm : u.may with
      | false =>
        rw [hm] at hc
        have HC := hide hc
        have hno : (l.map T.v).all V.may = false := by
          rw [Bool.eq_false_iff]
          intro h
          rw [List.all_eq_true.1 h u HM.out] at hm
          cases hm
        have HN := hide hno
        clear hc hno hm
        go_wp2_with fail
        refine HC.out.mono ?_
        rintro e w2 ⟨rfl, f2⟩
        have HF2 := hide (HF.out.trans f2)
        clear f2
        go_wp2
        go_ret
        exact ⟨⟨_, rfl, .inl ⟨by omega, HN.out⟩⟩, HF2.out⟩
      | true =>
        rw [hm] at hc
        have HC := hide hc
        have HMM := hide hm
        clear hc hm
        go_wp2_with fail
        refine HC.out.mono ?_
        rintro e w2 ⟨rfl, f2⟩
        have HF2 := hide (HF.out.trans f2)
        clear f2
        go_wp2
        go_roundw
        case rel =>
          refine ⟨j + 1, hlt, by go_num, HF2.out, fun v hv => ?_⟩
          rw [HT.out] at hv
          rcases List.mem_append.1 hv with hv | hv
          · exact HA.out v hv
          · simp at hv; subst hv; exact HMM.out
        case measure => simp [intOf]; omega
    · obtain rfl : l.length = j := by omega
      have hyes : (l.map T.v).all V.may = true := List.all_eq_true.2 fun v hv => HA.out v (by rw [List.take_of_length_le (by simp)]; exact hv)
      have HY := hide hyes
      have HF := hide fr
      clear fr hyes ht hB
      go_wp2
      go_ret
      exact ⟨⟨-1, rfl, .inr ⟨rfl, HY.out⟩⟩, HF.out⟩

theorem containsV_any (A : Option Addr) (cap : Nat) (l : List T) (w : World) (lo hi : Nat) (ht : (T.row A cap l).In w lo hi) (hh : hi ≤ w.heap.size) :
    Calls Try.prog 151 #[.slice A l.length cap, .func (.func 152) #[] #[]] w fun e w' => e = .returned (.bool (!(l.map T.v).all V.may)) ∧ Fr No w w' := by
  have hI := indexV_any A cap l w lo hi ht hh
  generalize (l.map T.v).all V.may = q at *
  clear ht
  go_enter Try.func151, Try.ntmps151
  go_wp2_with fail
  refine hI.mono ?_
  rintro e w2 ⟨⟨z, rfl, hz⟩, fr2⟩
  rcases hz with ⟨h0, rfl⟩ | ⟨rfl, rfl⟩
  · have h1 : decide ((0 : Int) ≤ z) = true := by simpa using h0
    go_wp2
    go_ret
    exact ⟨rfl, fr2⟩
  · go_wp2
    go_ret
    exact ⟨rfl, fr2⟩

/-- May all be? -/
theorem allV_any (A : Option Addr) (cap : Nat) (l : List T) (w : World) (lo hi : Nat) (ht : (T.row A cap l).In w lo hi) (hh : hi ≤ w.heap.size) :
    Calls Try.prog 123 #[.slice A l.length cap] w fun e w' => e = .returned (.bool ((l.map T.v).all V.may)) ∧ Fr No w w' := by
  have hI := containsV_any A cap l w lo hi ht hh
  generalize (l.map T.v).all V.may = q at *
  clear ht
  cases q
  all_goals
    go_enter Try.func123, Try.ntmps123
    go_wp2_with fail
    refine hI.mono ?_
    rintro e w2 ⟨rfl, fr2⟩
    go_wp2
    go_ret
    exact ⟨rfl, fr2⟩

set_option maxRecDepth 100000 in
set_option maxHeartbeats 4000000 in
/-- The document's MayAll. -/
theorem refMayAll_any (A : Option Addr) (cap : Nat) (l : List T) (w : World) (lo hi : Nat) (ht : (T.row A cap l).In w lo hi) (hh : hi ≤ w.heap.size) :
    Calls Try.prog 124 #[.slice A l.length cap] w fun e w' => e = .returned (.bool ((l.map T.v).all V.may)) ∧ Fr No w w' := by
  have hlen := (T.in_mk.1 ht).1.len1
  have hB := refMay_any
  go_enter Try.func124, Try.ntmps124
  go_wp2_with fail
  go_loopw [3] (fun i wr => ∃ j : Nat, j ≤ l.length ∧ i = .int .i64 j ∧ Fr No w wr ∧ ∀ v ∈ (l.map T.v).take j, v.may = true) (fun i _ => l.length - (intOf i).toNat)
  case atStart => exact ⟨0, Nat.zero_le _, rfl, Fr.refl _ _, by simp⟩
  case round =>
    obtain ⟨j, hj, rfl, fr, hall⟩ := hrel
    have HA := hide hall
    have hsz := fr.size
    clear hall
    by_cases hlt : j < l.length
    · obtain ⟨b, o, k1, n1, s1, A1, cap1, l1, r1, rfl, hb0, hb1, hx, hin, e0, e1, e2, e3, e4⟩ := T.elem (ht.no fr hh) hlt
      have hc := hB l[j] wr lo hi (by rw [hx]; exact hin) (by omega)
      have hj' : j < (l.map T.v).length := by simpa using hlt
      have hxv : (l.map T.v)[j] = (T.mk k1 n1 s1 A1 cap1 l1 r1).v := by rw [List.getElem_map, hx]
      rw [hx, T.val_mk] at hc
      generalize (T.mk k1 n1 s1 A1 cap1 l1 r1).v = u at *
      have g0 : b < wr.heap.size := by omega
      have htk : (l.map T.v).take (j + 1) = (l.map T.v).take j ++ [u] := by rw [List.take_succ_eq_append_getElem hj', hxv]
      have hmem : u ∈ l.map T.v := by rw [← hxv]; exact List.getElem_mem hj'
      have HT := hide htk
      have HM := hide hmem
      have HF := hide fr
      clear hx hxv htk hmem fr hin hB ht
      cases hm : u.may with
      | false =>
        rw [hm] at hc
        have HC := hide hc
        have hno : (l.map T.v).all V.may = false := by
          rw [Bool.eq_false_iff]
          intro h
          rw [List.all_eq_true.1 h u HM.out] at hm
          cases hm
        have HN := hide hno
        clear hc hno hm
        go_wp2_with fail
        refine HC.out.mono ?_
        rintro e w2 ⟨rfl, f2⟩
        have HF2 := hide (HF.out.trans f2)
        clear f2
        go_wp2
        go_ret
        exact ⟨by rw [HN.out]; rfl, HF2.out⟩
      | true =>
        rw [hm] at hc
        have HC := hide hc
        have HMM := hide hm
        clear hc hm
        go_wp2_with fail
        refine HC.out.mono ?_
        rintro e w2 ⟨rfl, f2⟩
        have HF2 := hide (HF.out.trans f2)
        clear f2
        go_wp2
        go_roundw
        case rel =>
          refine ⟨j + 1, hlt, by go_num, HF2.out, fun v hv => ?_⟩
          rw [HT.out] at hv
          rcases List.mem_append.1 hv with hv | hv
          · exact HA.out v hv
          · simp at hv; subst hv; exact HMM.out
        case measure => simp [intOf]; omega
    · obtain rfl : l.length = j := by omega
      have hyes : (l.map T.v).all V.may = true := List.all_eq_true.2 fun v hv => HA.out v (by rw [List.take_of_length_le (by simp)]; exact hv)
      have HY := hide hyes
      have HF := hide fr
      clear fr hyes ht hB
      go_wp2
      go_ret
      exact ⟨by rw [HY.out]; rfl, HF.out⟩

/-- What Of answers. -/
def ofV (l : List V) : V × Int := if l.all V.may = true then (if (V.mk 3 0 ⟨#[]⟩ l 0).may = true then (V.mk 3 0 ⟨#[]⟩ l 0, 0) else (V.zero, 4)) else (V.zero, 2)

theorem T.row_v (A : Option Addr) (cap : Nat) (l : List T) : (T.row A cap l).v = V.mk 3 0 ⟨#[]⟩ (l.map T.v) 0 := by rw [T.row, T.v_mk]

/-- A value that is known, and an error's number. -/
def InE (v : V) (n : Int) (w : World) (e : Ending) (w' : World) : Prop :=
  ∃ t' : T, e = .returned (.tuple #[t'.val, .int .i64 n]) ∧ t'.v = v ∧ t'.In w' w.heap.size w'.heap.size ∧ Fr No w w'

set_option maxRecDepth 100000 in
set_option maxHeartbeats 4000000 in
theorem vOf_any (A : Option Addr) (cap : Nat) (l : List T) (w : World) (lo hi : Nat) (ht : (T.row A cap l).In w lo hi) (hh : hi ≤ w.heap.size) :
    Calls Try.prog 65 #[.slice A l.length cap] w (OwnE2 (ofV (l.map T.v)).1 (ofV (l.map T.v)).2 w) := by
  have hA := fun w' h h' => allV_any A cap l w' lo hi h h'
  have hM := fun w' h h' => may_any (T.row A cap l) w' lo hi h h'
  have hO := fun w' h h' => own2_any (T.row A cap l) w' lo hi h h'
  rw [T.row_v] at hM hO
  have hval : (T.row A cap l).val = .agg #[.int .u8 3, .int .i64 0, .string ⟨#[]⟩, .slice A l.length cap, .int .i64 0] := rfl
  rw [hval] at hM hO
  clear hval
  have fr0 := (Fr.refl No w).alloc (.cells #[.int .u8 0, .int .i64 0, .string ⟨#[]⟩, .slice none 0 0, .int .i64 0] 27)
  have bz0 := Blk.new w 27 #[.int .u8 0, .int .i64 0, .string ⟨#[]⟩, .slice none 0 0, .int .i64 0]
  have ht0 := ht.no fr0 hh
  have hs0 : w.heap.size < (w.alloc (.cells #[.int .u8 0, .int .i64 0, .string ⟨#[]⟩, .slice none 0 0, .int .i64 0] 27)).heap.size := by simp
  clear ht
  cases ha : (l.map T.v).all V.may with
  | false =>
    have e1 : ofV (l.map T.v) = (V.zero, 2) := by simp only [ofV]; rw [ha]; rfl
    rw [e1]
    rw [ha] at hA
    clear ha e1 hM hO
    go_enter Try.func65, Try.ntmps65
    go_wp2_with fail
    generalize World.alloc w _ = w0 at *
    refine (hA w0 ht0 (by omega)).mono ?_
    rintro e w2 ⟨rfl, f2⟩
    have bz2 := bz0.fr f2 fun h => h
    obtain ⟨d0, d1, d2, d3, d4, df⟩ := bz2.cells5
    have q0 := bz2.lt
    have HF := hide (fr0.trans f2)
    clear hA ht0 bz0 fr0 f2 bz2
    go_wp2
    refine bodyPost_ret (v := .tuple #[.agg #[.int .u8 0, .int .i64 0, .string ⟨#[]⟩, .slice none 0 0, .int .i64 0], .int .i64 2]) (by simp [results, Try.results65, go_sem, *]) rfl ?_
    have hF2 := HF.out
    refine ⟨T.zero, rfl, T.zero_v, T.zero_sh _ _ _, ?_⟩
    repeat (first | with_reducible exact hF2 | with_reducible refine Fr.setNew ?_ (Nat.le_refl _) _)
  | true =>
    rw [ha] at hA
    cases hm : (V.mk 3 0 ⟨#[]⟩ (l.map T.v) 0).may with
    | false =>
      have e1 : ofV (l.map T.v) = (V.zero, 4) := by simp only [ofV]; rw [ha, hm]; rfl
      rw [e1]
      rw [hm] at hM
      clear ha hm e1 hO
      go_enter Try.func65, Try.ntmps65
      go_wp2_with fail
      generalize World.alloc w _ = w0 at *
      refine (hA w0 ht0 (by omega)).mono ?_
      rintro e w2 ⟨rfl, f2⟩
      have bz2 := bz0.fr f2 fun h => h
      have ht2 := ht0.no f2 (by omega)
      have HF := hide (fr0.trans f2)
      have hs2 := (fr0.trans f2).size
      clear hA ht0 bz0 fr0 f2
      go_wp2_with fail
      have f3 := (Fr.refl No w2).alloc (.cells #[.int .u8 3, .int .i64 0, .string ⟨#[]⟩, .slice A l.length cap, .int .i64 0] 27)
      have HF3 := hide (HF.out.trans f3)
      have bz3 := bz2.fr f3 fun h => h
      have ht3 := ht2.no f3 (by omega)
      have hs3 := f3.size
      clear bz2 ht2 f3
      generalize World.alloc w2 _ = w3 at *
      refine (hM w3 ht3 (by omega)).mono ?_
      rintro e w4 ⟨rfl, f4⟩
      have bz4 := bz3.fr f4 fun h => h
      obtain ⟨d0, d1, d2, d3, d4, df⟩ := bz4.cells5
      have q0 := bz4.lt
      have HF4 := hide (HF3.out.trans f4)
      clear hM ht3 bz3 f4 bz4
      go_wp2
      refine bodyPost_ret (v := .tuple #[.agg #[.int .u8 0, .int .i64 0, .string ⟨#[]⟩, .slice none 0 0, .int .i64 0], .int .i64 4]) (by simp [results, Try.results65, go_sem, *]) rfl ?_
      have hF2 := HF4.out
      refine ⟨T.zero, rfl, T.zero_v, T.zero_sh _ _ _, ?_⟩
      repeat (first | with_reducible exact hF2 | with_reducible refine Fr.setNew ?_ (Nat.le_refl _) _)
    | true =>
      have e1 : ofV (l.map T.v) = (V.mk 3 0 ⟨#[]⟩ (l.map T.v) 0, 0) := by simp only [ofV]; rw [ha, hm]; rfl
      rw [e1]
      rw [hm] at hM
      generalize V.mk 3 0 ⟨#[]⟩ (l.map T.v) 0 = u at *
      clear ha hm e1
      go_enter Try.func65, Try.ntmps65
      go_wp2_with fail
      generalize World.alloc w _ = w0 at *
      refine (hA w0 ht0 (by omega)).mono ?_
      rintro e w2 ⟨rfl, f2⟩
      have bz2 := bz0.fr f2 fun h => h
      have ht2 := ht0.no f2 (by omega)
      have HF := hide (fr0.trans f2)
      have hs2 := (fr0.trans f2).size
      clear hA ht0 bz0 fr0 f2
      have hsz2 : w.heap.size < w2.heap.size := bz2.lt
      go_wp2_with fail
      have f3 := (Fr.refl No w2).alloc (.cells #[.int .u8 3, .int .i64 0, .string ⟨#[]⟩, .slice A l.length cap, .int .i64 0] 27)
      have HF3 := hide (HF.out.trans f3)
      have bz3 := bz2.fr f3 fun h => h
      have bv3 := Blk.new w2 27 #[.int .u8 3, .int .i64 0, .string ⟨#[]⟩, .slice A l.length cap, .int .i64 0]
      have ht3 := ht2.no f3 (by omega)
      have hs3 := f3.size
      clear bz2 ht2 f3
      generalize World.alloc w2 _ = w3 at *
      refine (hM w3 ht3 (by omega)).mono ?_
      rintro e w4 ⟨rfl, f4⟩
      have bz4 := bz3.fr f4 fun h => h
      have bv4 := bv3.fr f4 fun h => h
      have ht4 := ht3.no f4 (by omega)
      obtain ⟨c0, c1, c2, c3, c4, -⟩ := bv4.cells5
      have qv := bv4.lt
      have HF4 := hide (HF3.out.trans f4)
      have hs4 := f4.size
      clear hM ht3 bz3 bv3 f4 bv4
      go_wp2_with fail
      refine (hO w4 ht4 (by omega)).mono ?_
      rintro e w5 ⟨⟨k5, n5, s5, A5, cap5, l5, r5⟩, rfl, hv5, hsh5, f5⟩
      rw [T.val_mk]
      have bz5 := bz4.fr f5 fun h => h
      obtain ⟨d0, d1, d2, d3, d4, df⟩ := bz5.cells5
      have q0 := bz5.lt
      have HF5 := hide (HF4.out.trans f5)
      have HV := hide hv5
      have HSH := hide hsh5
      have hs5 := f5.size
      clear hO ht4 bz4 f5 bz5 hv5 hsh5 c0 c1 c2 c3 c4 qv
      go_wp2
      refine bodyPost_ret (v := .tuple #[.agg #[.int .u8 k5, .int .i64 n5, .string s5, .slice A5 l5.length cap5, .int .i64 r5], .int .i64 0]) (by simp [results, Try.results65, go_sem, *]) rfl ?_
      have hF2 := HF5.out
      refine ⟨T.mk k5 n5 s5 A5 cap5 l5 r5, rfl, HV.out, ?_, ?_⟩
      · refine (T.Sh.fr' (S := (· = w.heap.size)) HSH.out ?_ (fun i h0 h1 h2 => by have h' : i = w.heap.size := h2; omega)).more (by omega) (by simp)
        repeat (first | with_reducible exact Fr.refl _ w5 | with_reducible refine Fr.set ?_ (by simp) _)
      · repeat (first | with_reducible exact hF2 | with_reducible refine Fr.setNew ?_ (Nat.le_refl _) _)

set_option maxRecDepth 100000 in
set_option maxHeartbeats 4000000 in
theorem refOf_any (A : Option Addr) (cap : Nat) (l : List T) (w : World) (lo hi : Nat) (ht : (T.row A cap l).In w lo hi) (hh : hi ≤ w.heap.size) :
    Calls Try.prog 66 #[.slice A l.length cap] w (InE (ofV (l.map T.v)).1 (ofV (l.map T.v)).2 w) := by
  have hA := fun w' h h' => refMayAll_any A cap l w' lo hi h h'
  have hM := fun w' h h' => refMay_any (T.row A cap l) w' lo hi h h'
  have hO := fun w' h h' => refOwn_any (T.row A cap l) w' lo hi h h'
  rw [T.row_v] at hM hO
  have hval : (T.row A cap l).val = .agg #[.int .u8 3, .int .i64 0, .string ⟨#[]⟩, .slice A l.length cap, .int .i64 0] := rfl
  rw [hval] at hM hO
  clear hval
  have fr0 := (Fr.refl No w).alloc (.cells #[.int .u8 0, .int .i64 0, .string ⟨#[]⟩, .slice none 0 0, .int .i64 0] 27)
  have bz0 := Blk.new w 27 #[.int .u8 0, .int .i64 0, .string ⟨#[]⟩, .slice none 0 0, .int .i64 0]
  have ht0 := ht.no fr0 hh
  have hs0 : w.heap.size < (w.alloc (.cells #[.int .u8 0, .int .i64 0, .string ⟨#[]⟩, .slice none 0 0, .int .i64 0] 27)).heap.size := by simp
  clear ht
  cases ha : (l.map T.v).all V.may with
  | false =>
    have e1 : ofV (l.map T.v) = (V.zero, 2) := by simp only [ofV]; rw [ha]; rfl
    rw [e1]
    rw [ha] at hA
    clear ha e1 hM hO
    go_enter Try.func66, Try.ntmps66
    go_wp2_with fail
    generalize World.alloc w _ = w0 at *
    refine (hA w0 ht0 (by omega)).mono ?_
    rintro e w2 ⟨rfl, f2⟩
    have bz2 := bz0.fr f2 fun h => h
    obtain ⟨d0, d1, d2, d3, d4, df⟩ := bz2.cells5
    have q0 := bz2.lt
    have HF := hide (fr0.trans f2)
    clear hA ht0 bz0 fr0 f2 bz2
    go_wp2
    refine bodyPost_ret (v := .tuple #[.agg #[.int .u8 0, .int .i64 0, .string ⟨#[]⟩, .slice none 0 0, .int .i64 0], .int .i64 2]) (by simp [results, Try.results66, go_sem, *]) rfl ?_
    have hF2 := HF.out
    refine ⟨T.zero, rfl, T.zero_v, (T.zero_sh _ _ _).inn, ?_⟩
    repeat (first | with_reducible exact hF2 | with_reducible refine Fr.setNew ?_ (Nat.le_refl _) _)
  | true =>
    rw [ha] at hA
    cases hm : (V.mk 3 0 ⟨#[]⟩ (l.map T.v) 0).may with
    | false =>
      have e1 : ofV (l.map T.v) = (V.zero, 4) := by simp only [ofV]; rw [ha, hm]; rfl
      rw [e1]
      rw [hm] at hM
      clear ha hm e1 hO
      go_enter Try.func66, Try.ntmps66
      go_wp2_with fail
      generalize World.alloc w _ = w0 at *
      refine (hA w0 ht0 (by omega)).mono ?_
      rintro e w2 ⟨rfl, f2⟩
      have bz2 := bz0.fr f2 fun h => h
      have ht2 := ht0.no f2 (by omega)
      have HF := hide (fr0.trans f2)
      have hs2 := (fr0.trans f2).size
      clear hA ht0 bz0 fr0 f2
      go_wp2_with fail
      have f3 := (Fr.refl No w2).alloc (.cells #[.int .u8 3, .int .i64 0, .string ⟨#[]⟩, .slice A l.length cap, .int .i64 0] 27)
      have HF3 := hide (HF.out.trans f3)
      have bz3 := bz2.fr f3 fun h => h
      have ht3 := ht2.no f3 (by omega)
      have hs3 := f3.size
      clear bz2 ht2 f3
      generalize World.alloc w2 _ = w3 at *
      refine (hM w3 ht3 (by omega)).mono ?_
      rintro e w4 ⟨rfl, f4⟩
      have bz4 := bz3.fr f4 fun h => h
      obtain ⟨d0, d1, d2, d3, d4, df⟩ := bz4.cells5
      have q0 := bz4.lt
      have HF4 := hide (HF3.out.trans f4)
      clear hM ht3 bz3 f4 bz4
      go_wp2
      refine bodyPost_ret (v := .tuple #[.agg #[.int .u8 0, .int .i64 0, .string ⟨#[]⟩, .slice none 0 0, .int .i64 0], .int .i64 4]) (by simp [results, Try.results66, go_sem, *]) rfl ?_
      have hF2 := HF4.out
      refine ⟨T.zero, rfl, T.zero_v, (T.zero_sh _ _ _).inn, ?_⟩
      repeat (first | with_reducible exact hF2 | with_reducible refine Fr.setNew ?_ (Nat.le_refl _) _)
    | true =>
      have e1 : ofV (l.map T.v) = (V.mk 3 0 ⟨#[]⟩ (l.map T.v) 0, 0) := by simp only [ofV]; rw [ha, hm]; rfl
      rw [e1]
      rw [hm] at hM
      generalize V.mk 3 0 ⟨#[]⟩ (l.map T.v) 0 = u at *
      clear ha hm e1
      go_enter Try.func66, Try.ntmps66
      go_wp2_with fail
      generalize World.alloc w _ = w0 at *
      refine (hA w0 ht0 (by omega)).mono ?_
      rintro e w2 ⟨rfl, f2⟩
      have bz2 := bz0.fr f2 fun h => h
      have ht2 := ht0.no f2 (by omega)
      have HF := hide (fr0.trans f2)
      have hs2 := (fr0.trans f2).size
      clear hA ht0 bz0 fr0 f2
      have hsz2 : w.heap.size < w2.heap.size := bz2.lt
      go_wp2_with fail
      have f3 := (Fr.refl No w2).alloc (.cells #[.int .u8 3, .int .i64 0, .string ⟨#[]⟩, .slice A l.length cap, .int .i64 0] 27)
      have HF3 := hide (HF.out.trans f3)
      have bz3 := bz2.fr f3 fun h => h
      have bv3 := Blk.new w2 27 #[.int .u8 3, .int .i64 0, .string ⟨#[]⟩, .slice A l.length cap, .int .i64 0]
      have ht3 := ht2.no f3 (by omega)
      have hs3 := f3.size
      clear bz2 ht2 f3
      generalize World.alloc w2 _ = w3 at *
      refine (hM w3 ht3 (by omega)).mono ?_
      rintro e w4 ⟨rfl, f4⟩
      have bz4 := bz3.fr f4 fun h => h
      have bv4 := bv3.fr f4 fun h => h
      have ht4 := ht3.no f4 (by omega)
      obtain ⟨c0, c1, c2, c3, c4, -⟩ := bv4.cells5
      have qv := bv4.lt
      have HF4 := hide (HF3.out.trans f4)
      have hs4 := f4.size
      clear hM ht3 bz3 bv3 f4 bv4
      go_wp2_with fail
      refine (hO w4 ht4 (by omega)).mono ?_
      rintro e w5 ⟨⟨k5, n5, s5, A5, cap5, l5, r5⟩, rfl, hv5, hsh5, f5⟩
      rw [T.val_mk]
      have bz5 := bz4.fr f5 fun h => h
      obtain ⟨d0, d1, d2, d3, d4, df⟩ := bz5.cells5
      have q0 := bz5.lt
      have HF5 := hide (HF4.out.trans f5)
      have HV := hide hv5
      have HSH := hide hsh5
      have hs5 := f5.size
      clear hO ht4 bz4 f5 bz5 hv5 hsh5 c0 c1 c2 c3 c4 qv
      go_wp2
      refine bodyPost_ret (v := .tuple #[.agg #[.int .u8 k5, .int .i64 n5, .string s5, .slice A5 l5.length cap5, .int .i64 r5], .int .i64 0]) (by simp [results, Try.results66, go_sem, *]) rfl ?_
      have hF2 := HF5.out
      refine ⟨T.mk k5 n5 s5 A5 cap5 l5 r5, rfl, HV.out, ?_, ?_⟩
      · refine (T.In.fr (S := (· = w.heap.size)) HSH.out ?_ (Nat.le_refl _) (fun i h0 h1 h2 => by have h' : i = w.heap.size := h2; omega)).more (by omega) (by simp)
        repeat (first | with_reducible exact Fr.refl _ w5 | with_reducible refine Fr.set ?_ (by simp) _)
      · repeat (first | with_reducible exact hF2 | with_reducible refine Fr.setNew ?_ (Nat.le_refl _) _)

end Go.Proofs.Ytihjmipmjogpoaa

/- Chapter 2: slices.SortStableFunc, value.Sort. -/
namespace Go.Proofs.Ytihjmipmjogpoaa
open Go.RowKit

theorem perm_flat {l l' : List (List Nat)} (h : l.Perm l') : l.flatten.Perm l'.flatten := by
  induction h with
  | nil => exact .refl _
  | cons x _ ih => simp only [List.flatten_cons]; exact ih.append_left x
  | swap x y l => simp only [List.flatten_cons, ← List.append_assoc]; exact (List.perm_append_comm).append_right _
  | trans _ _ ih1 ih2 => exact ih1.trans ih2

theorem stable_none (w : World) : Calls Try.prog 153 #[.slice none 0 0, .int .i64 0, .func (.func 118) #[] #[]] w fun e w' => (∃ v, e = .returned v) ∧ w' = w := by
  have hI : ∀ w1, Calls Try.prog 159 #[.slice none 0 0, .int .i64 0, .int .i64 0, .func (.func 118) #[] #[]] w1 fun e w' => (∃ v, e = .returned v) ∧ w' = w1 := by
    intro w1
    go_enter Try.func159, Try.ntmps159
    go_wp2_with fail
    refine wp_loop_rounds 1 ?_
    rw [rounds_succ]
    go_wp2
    go_end0
    exact ⟨⟨_, rfl⟩, rfl⟩
  go_enter Try.func153, Try.ntmps153
  go_wp2_with fail
  refine wp_loop_rounds 1 ?_
  rw [rounds_succ]
  go_wp2_with fail
  refine (hI _).mono ?_
  rintro e w1 ⟨⟨v, rfl⟩, rfl⟩
  go_wp2_with fail
  refine wp_loop_rounds 1 ?_
  rw [rounds_succ]
  go_wp2
  go_end0
  exact ⟨⟨_, rfl⟩, rfl⟩

theorem sortStable_any (L : List T) (w : World) (lo g cap N : Nat) (hN : L.length = N) (hN2 : N ≤ 1000000) (h : Rw w lo g cap L) (hE : Els w g L) :
    Calls Try.prog 132 #[.slice (some ⟨g, 0, none⟩) N cap, .func (.func 118) #[] #[]] w fun e w' => (∃ v, e = .returned v) ∧ (∃ C, C.Perm L ∧ C.Pairwise leT ∧ Rw w' lo g cap C) ∧ Fr (fun i => i = g) w w' := by
  have hc := stable_any L w lo g cap N hN hN2 h hE
  have HC := hide hc
  clear hc h hE hN
  go_enter Try.func132, Try.ntmps132
  go_wp2_with fail
  refine HC.out.mono ?_
  rintro e w1 ⟨⟨v, rfl⟩, h2, h3⟩
  have H2 := hide h2
  have H3 := hide h3
  clear h2 h3
  go_wp2
  go_end0
  exact ⟨⟨_, rfl⟩, H2.out, H3.out⟩

theorem sortStable_none (w : World) : Calls Try.prog 132 #[.slice none 0 0, .func (.func 118) #[] #[]] w fun e w' => (∃ v, e = .returned v) ∧ w' = w := by
  have hc := stable_none w
  go_enter Try.func132, Try.ntmps132
  go_wp2_with fail
  refine hc.mono ?_
  rintro e w1 ⟨⟨v, rfl⟩, rfl⟩
  go_wp2
  go_end0
  exact ⟨⟨_, rfl⟩, rfl⟩

/-- Where the copying of a row stands. -/
structure Cp (w : World) (l : List T) (j : Nat) (v : Value) (l' : List T) (wr : World) : Prop where
  len : l'.length = j
  vs : l'.map T.v = (l.take j).map T.v
  fr : Fr No w wr
  own : wr.ownsRow w.heap.size 27 5 v j (rowCells l')
  sp : ∀ x ∈ l', x.Sp wr w.heap.size wr.heap.size
  nd : ((l'.map T.blocks).flatten).Nodup
  sep : ∀ x ∈ l', ∀ b ∈ x.blocks, v.ownBlock ≠ some b

theorem Cp.push {w wr W w2 w3 : World} {l : List T} {j : Nat} {v : Value} {l' : List T} {t' : T} {g cp : Nat} (inv : Cp w l j v l' wr) (hlt : j < l.length) (hv : t'.v = l[j].v) (fW : Fr No wr W)
    (hsh : t'.Sh w2 W.heap.size w2.heap.size) (f1 : Fr No W w2) (hown : w3.ownsRow w.heap.size 27 5 (.slice (some ⟨g, 0, none⟩) (j + 1) cp) (j + 1) (rowCells l' ++ t'.cells))
    (hgrow : (w2.alloc (.cells t'.cells.toArray 27)).grownBy w3 v.ownBlock) (hat : v.ownBlock = some g ∨ g = w2.heap.size + 1) : Cp w l (j + 1) (.slice (some ⟨g, 0, none⟩) (j + 1) cp) (l' ++ [t']) w3 := by
  have hin := hsh.inn
  have hinn : ∀ x ∈ l', x.In wr w.heap.size wr.heap.size := fun x hx => T.Sp.inn x (inv.sp x hx)
  have hol := inv.own.lt
  have hsw : w.heap.size ≤ wr.heap.size := inv.fr.size
  have hsW : wr.heap.size ≤ W.heap.size := fW.size
  have hs2 : W.heap.size ≤ w2.heap.size := f1.size
  have hs3 : w2.heap.size + 1 ≤ w3.heap.size := by have := hgrow.size; simpa using this
  have F2 : Fr (fun i => some i = v.ownBlock) w2 w3 := ((((Fr.refl No w2).alloc (.cells t'.cells.toArray 27)).no).trans' (fr_grown hgrow) (fun i _ h => h))
  have F1 : Fr (fun i => some i = v.ownBlock) wr w3 := ((fW.trans f1).no (S := fun i => some i = v.ownBlock)).trans F2
  refine ⟨by simp [inv.len], ?_, inv.fr.trans' F1 (fun i hi h => by have := hol i h.symm; omega), by rw [rowCells_snoc]; exact hown, ?_, ?_, ?_⟩
  · rw [List.map_append, inv.vs, List.take_succ_eq_append_getElem hlt, List.map_append, List.map_singleton, List.map_singleton, hv]
  · intro x hx
    rcases List.mem_append.1 hx with hx | hx
    · have hb : ∀ b ∈ x.blocks, ¬ some b = v.ownBlock := fun b hb h => inv.sep x hx b hb h.symm
      exact T.Sp.more (Nat.le_refl _) F1.size x (T.Sp.fr F1 x hb (inv.sp x hx))
    · simp at hx; subst hx
      have hb : ∀ b ∈ x.blocks, ¬ some b = v.ownBlock := fun b hb h => by
        have h3 := T.In.blocks x hin b hb
        have := hol b h.symm
        omega
      exact T.Sp.more (by omega) F2.size x (T.Sp.fr F2 x hb hsh.sp)
  · rw [List.map_append, List.flatten_append, List.nodup_append]
    refine ⟨inv.nd, by simpa using hsh.nodup, fun a ha b hb e => ?_⟩
    subst e
    obtain ⟨L, hL, ha⟩ := List.mem_flatten.1 ha
    obtain ⟨x, hx, rfl⟩ := List.mem_map.1 hL
    have h1 := T.In.blocks x (hinn x hx) a ha
    have h2 := T.In.blocks t' hin a (by simpa using hb)
    omega
  · intro x hx b hb h
    simp [Value.ownBlock] at h
    subst h
    rcases List.mem_append.1 hx with hx | hx
    · rcases hat with h | h
      · exact inv.sep x hx _ hb h
      · have := T.In.blocks x (hinn x hx) _ hb; omega
    · simp at hx; subst hx
      have h3 := T.In.blocks x hin _ hb
      rcases hat with h | h
      · have := hol _ h; omega
      · omega

/-- A row of values in memory of its own, sorted. -/
structure SortR (l : List V) (w : World) (A : Option Addr) (cap : Nat) (C : List T) (w' : World) : Prop where
  perm : (C.map T.v).Perm l
  srt : C.Pairwise leT
  own : w'.ownsRow w.heap.size 27 5 (.slice A C.length cap) C.length (rowCells C)
  sp : ∀ x ∈ C, x.Sp w' w.heap.size w'.heap.size
  nd : ((C.map T.blocks).flatten).Nodup
  sep : ∀ x ∈ C, ∀ b ∈ x.blocks, (Value.slice A C.length cap).ownBlock ≠ some b
  fr : Fr No w w'

/-- What Sort answers. -/
def SortP (l : List V) (w : World) (e : Ending) (w' : World) : Prop :=
  (l.all V.may = true → ∃ A cap C, e = .returned (.tuple #[.slice A C.length cap, .int .i64 0]) ∧ SortR l w A cap C w') ∧ (l.all V.may = false → e = .returned (.tuple #[.slice none 0 0, .int .i64 2]) ∧ Fr No w w')

theorem Cp.sorted {w w1 w2 : World} {l : List T} {g cap : Nat} {l' C : List T} (h : Cp w l l.length (.slice (some ⟨g, 0, none⟩) l.length cap) l' w1) (p : C.Perm l') (s : C.Pairwise leT) (hr : Rw w2 w.heap.size g cap C) (f : Fr (fun i => i = g) w1 w2) :
    SortR (l.map T.v) w (some ⟨g, 0, none⟩) cap C w2 := by
  have hol := (owns_lt h.own g rfl).1
  refine ⟨?_, s, hr, fun x hx => ?_, (perm_flat (p.map T.blocks)).nodup_iff.2 h.nd, fun x hx b hb e => ?_, h.fr.trans' f (fun i hi e => by have e' : i = g := e; omega)⟩
  · have := p.map T.v
    rw [h.vs, List.take_of_length_le (Nat.le_refl _)] at this
    exact this
  · have hx' := p.mem_iff.1 hx
    exact T.Sp.more (Nat.le_refl _) f.size x (T.Sp.fr f x (fun b hb e => h.sep x hx' b hb (by have e' : b = g := e; rw [e']; rfl)) (h.sp x hx'))
  · exact h.sep x (p.mem_iff.1 hx) b hb (by simpa [Value.ownBlock] using e)

theorem Cp.els {w w1 : World} {l : List T} {g cap : Nat} {l' : List T} (h : Cp w l l.length (.slice (some ⟨g, 0, none⟩) l.length cap) l' w1) : Els w1 g l' :=
  ⟨fun x hx => T.In.more (Nat.zero_le _) (Nat.le_refl _) x (T.Sp.inn x (h.sp x hx)), fun x hx hg => h.sep x hx g hg rfl⟩

set_option maxRecDepth 100000 in
set_option maxHeartbeats 4000000 in
theorem sort_any (A : Option Addr) (cap : Nat) (l : List T) (hl : l.length ≤ 1000000) (w : World) (lo hi : Nat) (ht : (T.row A cap l).In w lo hi) (hh : hi ≤ w.heap.size) :
    Calls Try.prog 76 #[.slice A l.length cap] w (SortP (l.map T.v) w) := by
  have hA := fun w' h h' => allV_any A cap l w' lo hi h h'
  have hO := own2_any
  obtain ⟨i0, hi0, hz0, hz1, hz2⟩ := info_parts value_info
  cases ha : (l.map T.v).all V.may with
  | false =>
    rw [ha] at hA
    have HA := hide ha
    clear ha hO hi0 hz0 hz1 hz2
    go_enter Try.func76, Try.ntmps76
    go_wp2_with fail
    refine (hA w ht hh).mono ?_
    rintro e w2 ⟨rfl, f2⟩
    have HF := hide f2
    clear hA ht f2
    go_wp2
    go_ret2
    refine ⟨fun h => ?_, fun _ => ⟨rfl, HF.out⟩⟩
    rw [HA.out] at h; cases h
  | true =>
    rw [ha] at hA
    have HA := hide ha
    have HO := hide hO
    clear ha hO
    go_enter Try.func76, Try.ntmps76
    go_wp2_with fail
    refine (hA w ht hh).mono ?_
    rintro e w2 ⟨rfl, f2⟩
    have HF := hide f2
    have HT := hide ht
    clear hA ht f2
    go_wp2_with fail
    go_loopw [4, 12] (fun v i wr => ∃ (j : Nat) (A2 : Option Addr) (cap2 : Nat) (l' : List T), j ≤ l.length ∧ i = .int .i64 j ∧ v = .slice A2 j cap2 ∧ (j = 0 → A2 = none ∧ cap2 = 0) ∧ Cp w l j (.slice A2 j cap2) l' wr) (fun _ i _ => l.length - (intOf i).toNat)
    case atStart => exact ⟨0, none, 0, [], Nat.zero_le _, rfl, rfl, fun _ => ⟨rfl, rfl⟩, rfl, by simp, HF.out, World.ownsRow_nil _ _ _ _, by simp, by simp, by simp⟩
    case round =>
      obtain ⟨j, A2, cap2, l', hj, rfl, rfl, hz, inv⟩ := hrel
      have HZ := hide hz
      clear hz
      by_cases hlt : j < l.length
      · obtain ⟨b, o, k1, n1, s1, A1, cap1, l1, r1, rfl, hb0, hb1, hx, hin, e0, e1, e2, e3, e4⟩ := T.elem (HT.out.no inv.fr hh) hlt
        have hs := inv.fr.size
        have g0 : b < wr.heap.size := by omega
        have fW := (Fr.refl No wr).alloc (.cells #[.int .u8 k1, .int .i64 n1, .string s1, .slice A1 l1.length cap1, .int .i64 r1] 27)
        have hc := HO.out (T.mk k1 n1 s1 A1 cap1 l1 r1) _ lo hi (hin.no fW (by omega)) (Nat.le_trans (by omega : hi ≤ wr.heap.size) fW.size)
        rw [T.val_mk] at hc
        have HC := hide hc
        have HI := hide inv
        have HX := hide hx
        have HFW := hide fW
        clear hc inv hx fW hin
        go_wp2_with fail
        refine HC.out.mono ?_
        rintro e w3 ⟨⟨k5, n5, s5, A5, cap5, l5, r5⟩, rfl, hv5, hsh5, f3⟩
        rw [T.val_mk]
        have hfx := HFW.out.trans f3
        have ownA := (owns_fr HI.out.own hfx (fun _ _ h => h)).alloc (.cells #[.int .u8 k5, .int .i64 n5, .string s5, .slice A5 l5.length cap5, .int .i64 r5] 27)
        have hszw : w.heap.size ≤ w3.heap.size := (HI.out.fr.trans hfx).size
        have HF3 := hide f3
        have HV5 := hide hv5
        have HSH5 := hide hsh5
        clear f3 hfx hv5 hsh5 e0 e1 e2 e3 e4
        go_wp2_with (at_builtin; refine wpList_append_lies _ (by rfl) _ _ _ (by rfl) w.heap.size 27 i0 _ 5 64 Try.underlying24 hi0 hz0 hz1 hz2 (by rfl) (by omega) (.slice A2 j cap2) j (rowCells l') (by rfl) ownA ⟨w3.heap.size, 0, none⟩ 1 1 [.int .u8 k5, .int .i64 n5, .string s5, .slice A5 l5.length cap5, .int .i64 r5] (by rfl) (by rfl) (World.news_of_block (heap_alloc_new w3 _)) (by simp [Value.oneCell']) (by omega) (by unfold maxLen; omega) (by omega) (by simp; omega) (w3.heap.size + 1) (by simp) ?_; intro g cp w4 hown1 hgrow hat hlt1)
        have HNX := hide (Cp.push HI.out hlt (by rw [HX.out]; exact HV5.out) HFW.out HSH5.out HF3.out hown1 hgrow hat)
        clear hown1 hgrow hat ownA
        go_wp2
        go_roundw
        case rel => exact ⟨j + 1, _, _, _, hlt, by go_num, rfl, fun h => by omega, HNX.out⟩
        case measure => simp [intOf]; omega
      · obtain rfl : l.length = j := by omega
        by_cases h0 : l.length = 0
        · have hl : l = [] := List.eq_nil_of_length_eq_zero h0
          subst hl
          obtain ⟨rfl, rfl⟩ := HZ.out rfl
          have hc := sortStable_none wr
          have HI := hide inv
          clear inv h0
          go_wp2_with fail
          refine hc.mono ?_
          rintro e w3 ⟨⟨v3, rfl⟩, rfl⟩
          go_wp2
          go_ret2
          have I := HI.out
          refine ⟨fun _ => ⟨none, 0, [], rfl, ⟨.refl _, .nil, World.ownsRow_nil _ _ _ _, by simp, by simp, by simp, I.fr⟩⟩, fun h => by rw [HA.out] at h; cases h⟩
        · obtain ⟨g, c, hv, -⟩ := inv.own.form (by omega)
          simp only [Value.slice.injEq, true_and] at hv
          obtain ⟨rfl, rfl⟩ := hv
          have hc := sortStable_any l' wr w.heap.size g cap2 l.length inv.len hl (by have := inv.own; unfold Rw; rw [inv.len]; exact this) inv.els
          have HC := hide hc
          have HI := hide inv
          clear hc inv
          go_wp2_with fail
          refine HC.out.mono ?_
          rintro e w3 ⟨⟨v3, rfl⟩, ⟨C, pC, sC, hr⟩, f3⟩
          have hcl : l.length = C.length := by rw [pC.length_eq, HI.out.len]
          have HR := hide (HI.out.sorted pC sC hr f3)
          have HCL := hide hcl
          clear pC sC hr f3 hcl
          go_wp2
          go_ret2
          refine ⟨fun _ => ⟨_, cap2, C, ?_, HR.out⟩, fun h => by rw [HA.out] at h; cases h⟩
          rw [HCL.out]; rfl

end Go.Proofs.Ytihjmipmjogpoaa

/- Chapter 2: the document's answer: Sort. -/
namespace Go.Proofs.Ytihjmipmjogpoaa
open Go.RowKit

/-- Where the document's sorting stands. -/
structure RS (w : World) (l : List T) (i : Nat) (A : Option Addr) (cap : Nat) (C : List T) (wr : World) : Prop where
  len : C.length = i
  perm : C.Perm (l.take i)
  srt : C.Pairwise leT
  own : wr.ownsRow w.heap.size 27 5 (.slice A i cap) i (rowCells C)
  fr : Fr No w wr

/-- What the document's Sort answers. -/
def RSortP (l : List T) (w : World) (e : Ending) (w' : World) : Prop :=
  ((l.map T.v).all V.may = true → ∃ A cap C, e = .returned (.tuple #[.slice A C.length cap, .int .i64 0]) ∧ C.Perm l ∧ C.Pairwise leT ∧ w'.ownsRow w.heap.size 27 5 (.slice A C.length cap) C.length (rowCells C) ∧ Fr No w w') ∧
    ((l.map T.v).all V.may = false → e = .returned (.tuple #[.slice none 0 0, .int .i64 2]) ∧ Fr No w w')

theorem RS.next {w : World} {l : List T} {i : Nat} {A : Option Addr} {cap : Nat} {C : List T} {wr w2 : World} (h : RS w l i A cap C wr) {x : T} (hx : l[i]? = some x) {k : Nat} (hk : k ≤ i) (hl : k = 0 ∨ ∃ y, C[k - 1]? = some y ∧ leT y x) (hu : ∀ y ∈ C.drop k, leT x y)
    {g cp : Nat} (hr : Rw w2 w.heap.size g cp (C.take k ++ x :: C.drop k)) (f : Fr No w w2) : RS w l (i + 1) (some ⟨g, 0, none⟩) cp (C.take k ++ x :: C.drop k) w2 := by
  have hlen : (C.take k ++ x :: C.drop k).length = i + 1 := by have := h.len; simp; omega
  have hins := insert_row (s := k) (x := x) h.srt hl (by
    by_cases h' : C.length ≤ k
    · exact .inl h'
    · refine .inr ⟨C[k], List.getElem?_eq_getElem _, hu _ ?_⟩
      rw [List.drop_eq_getElem_cons (by omega)]
      exact List.mem_cons_self)
  obtain ⟨hi, rfl⟩ := List.getElem?_eq_some_iff.1 hx
  refine ⟨hlen, ?_, hins.1, by have := hr; unfold Rw at this; rw [hlen] at this; exact this, f⟩
  rw [List.take_succ_eq_append_getElem hi]
  refine hins.2.trans ?_
  refine (h.perm.cons _).trans ?_
  exact (List.perm_append_singleton _ _).symm

set_option maxRecDepth 100000 in
set_option maxHeartbeats 8000000 in
theorem refSort_any (A : Option Addr) (cap : Nat) (l : List T) (hl : l.length ≤ 1000000) (w : World) (lo hj : Nat) (ht : (T.row A cap l).In w lo hj) (hh : hj ≤ w.heap.size) :
    Calls Try.prog 77 #[.slice A l.length cap] w (RSortP l w) := by
  have hA := fun w' h h' => refMayAll_any A cap l w' lo hj h h'
  have hO := reforder_any
  obtain ⟨i0, hi0, hz0, hz1, hz2⟩ := info_parts value_info
  cases ha : (l.map T.v).all V.may with
  | false =>
    rw [ha] at hA
    have HA := hide ha
    clear ha hO hi0 hz0 hz1 hz2
    go_enter Try.func77, Try.ntmps77
    go_wp2_with fail
    refine (hA w ht hh).mono ?_
    rintro e w2 ⟨rfl, f2⟩
    have HF := hide f2
    clear hA ht f2
    go_wp2
    go_ret2
    refine ⟨fun h => ?_, fun _ => ⟨rfl, HF.out⟩⟩
    rw [HA.out] at h; cases h
  | true =>
    rw [ha] at hA
    have HA := hide ha
    have HO := hide hO
    have hok : ∀ x ∈ l, x.v.ok = true := fun x hx => may_ok (List.all_eq_true.1 ha x.v (List.mem_map_of_mem hx))
    have HOK := hide hok
    clear ha hO hok
    go_enter Try.func77, Try.ntmps77
    go_wp2_with fail
    refine (hA w ht hh).mono ?_
    rintro e w2 ⟨rfl, f2⟩
    have HF := hide f2
    have HT := hide ht
    clear hA ht f2
    go_wp2_with fail
    go_loopw [4, 5] (fun v s wr => ∃ (i : Nat) (A2 : Option Addr) (cap2 : Nat) (C : List T), i ≤ l.length ∧ s = .int .i64 i ∧ v = .slice A2 i cap2 ∧ RS w l i A2 cap2 C wr) (fun _ s _ => l.length - (intOf s).toNat)
    case atStart => exact ⟨0, none, 0, [], Nat.zero_le _, rfl, rfl, rfl, by simp, .nil, World.ownsRow_nil _ _ _ _, HF.out⟩
    case round =>
      obtain ⟨i, A2, cap2, C, hi, rfl, rfl, inv⟩ := hrel
      by_cases hlt : i < l.length
      · obtain ⟨b, o, kx, nx, sx, Ax, capx, lx, rx, rfl, hb0, hb1, hx, hin, e0, e1, e2, e3, e4⟩ := T.elem (HT.out.no inv.fr hh) hlt
        have hs := inv.fr.size
        have g0 : b < wr.heap.size := by omega
        have hwb : b < w.heap.size := by omega
        have hii : (i : Int) ≤ 1000000 := by omega
        have hxl : l[i]? = some (T.mk kx nx sx Ax capx lx rx) := by rw [List.getElem?_eq_getElem hlt, hx]
        have HI := hide inv
        have HX := hide hx
        have HXL := hide hxl
        clear inv hx hin e0 e1 e2 e3 e4 hxl
        obtain ⟨wo, rfl⟩ : ∃ wo : World, wo = wr := ⟨_, rfl⟩
        go_wp2_with fail
        go_loopw [6] (fun s wr => ∃ k : Nat, s = .int .i64 k ∧ k ≤ i ∧ (∀ y ∈ C.drop k, leT (T.mk kx nx sx Ax capx lx rx) y) ∧ Fr No wo wr) (fun s _ => (intOf s).toNat)
        case atStart => exact ⟨i, rfl, Nat.le_refl _, by rw [List.drop_of_length_le (by have := HI.out.len; omega)]; simp, Fr.refl _ _⟩
        case round =>
          obtain ⟨k, rfl, hk, hu, fr⟩ := hrel
          have hki : (k : Int) ≤ 1000000 := by omega
          have hinT := HT.out.no (HI.out.fr.trans fr) hh
          have hsz := fr.size
          have g1 : b < wr.heap.size := by omega
          by_cases hk0 : 0 < k
          · obtain ⟨g, c0, hvv, -⟩ := HI.out.own.form (by omega)
            simp only [Value.slice.injEq, true_and] at hvv
            obtain ⟨rfl, rfl⟩ := hvv
            obtain ⟨k1, hk1⟩ : ∃ k1, k = k1 + 1 := ⟨k - 1, by omega⟩
            have hCl := HI.out.len
            obtain ⟨y, hy⟩ : ∃ y, C[k1]? = some y := ⟨_, List.getElem?_eq_getElem (by omega)⟩
            have hmem : y ∈ l := List.mem_of_mem_take (HI.out.perm.mem_iff.1 (List.mem_of_getElem? hy))
            have hyin := (T.in_mk.1 hinT).2.2 y hmem
            have hxm : T.mk kx nx sx Ax capx lx rx ∈ l := List.mem_of_getElem? HXL.out
            have hxin := (T.in_mk.1 hinT).2.2 _ hxm
            have hcmp := fun w2 (f : Fr No wr w2) => HO.out y (T.mk kx nx sx Ax capx lx rx) w2 lo hj lo hj (hyin.no f (by omega)) (by have := f.size; omega) (hxin.no f (by omega)) (by have := f.size; omega) (HOK.out y hmem) (HOK.out _ hxm)
            obtain ⟨e0, e1, e2, e3, e4⟩ := T.cells_at hinT hlt HX.out
            have hr1 := owns_fr HI.out.own fr (fun _ _ h => h)
            have HY := hide hy
            obtain ⟨ky, ny, sy, Ay, cy, ly, ry⟩ := y
            obtain ⟨p0, p1, p2, p3, p4, pf, pl⟩ := owns_five hr1 hy
            have hdrop : C.drop k1 = T.mk ky ny sy Ay cy ly ry :: C.drop k := by
              obtain ⟨hq, hq2⟩ := List.getElem?_eq_some_iff.1 hy
              rw [List.drop_eq_getElem_cons hq, hq2, hk1]
            have HDR := hide hdrop
            have HC := hide hcmp
            have HU := hide hu
            have HFR := hide fr
            have HK1 := hide hk1
            have ek : (k : Int) - 1 = (k1 : Int) := by omega
            have hd : decide (0 < k) = true := by simpa using hk0
            have h1k : (1 : Int) ≤ (k : Int) := by omega
            have hk1i : (k1 : Int) ≤ 1000000 := by omega
            have hk1n : k1 < i := by omega
            have gg : g < wr.heap.size := pl
            clear hk1 hCl hy hmem hyin hxm hxin hcmp hr1 hu fr hdrop hinT
            have hw : IntKind.i64.wrap (k1 : Int) = (k1 : Int) := IntWalk.i64_in _ (by omega)
            go_wp2_with fail
            go_still_tail 12, (by kernel_rfl)
            clear hw
            change wpList _ _ _ _ _ wr.drew
            have F2 := (Fr.refl No wr).drew
            generalize wr.drew = w2 at F2 ⊢
            have hc2 := HC.out w2 F2
            rw [T.val_mk, T.val_mk] at hc2
            have hle1 := fun (h : 0 < (T.mk ky ny sy Ay cy ly ry).v.ord (T.mk kx nx sx Ax capx lx rx).v) => (by unfold leT; have := ord_anti (T.mk ky ny sy Ay cy ly ry).v (T.mk kx nx sx Ax capx lx rx).v; omega : leT (T.mk kx nx sx Ax capx lx rx) (T.mk ky ny sy Ay cy ly ry))
            have hle2 := fun (h : ¬ 0 < (T.mk ky ny sy Ay cy ly ry).v.ord (T.mk kx nx sx Ax capx lx rx).v) => (by unfold leT; omega : leT (T.mk ky ny sy Ay cy ly ry) (T.mk kx nx sx Ax capx lx rx))
            generalize (T.mk ky ny sy Ay cy ly ry).v.ord (T.mk kx nx sx Ax capx lx rx).v = cc at hc2 hle1 hle2
            have HL1 := hide hle1
            have HL2 := hide hle2
            have HF2 := hide F2
            clear p0 p1 p2 p3 p4 pf pl F2 e0 e1 e2 e3 e4 hle1 hle2
            go_wp2_with fail
            refine hc2.mono ?_
            rintro e wc ⟨rfl, fc⟩
            have HFC := hide ((HFR.out.trans HF2.out).trans fc)
            clear fc hc2
            by_cases hpos : 0 < cc
            · have hcd : decide (0 < cc) = true := by simpa using hpos
              have HLE := hide (HL1.out hpos)
              go_wp2
              go_roundw
              case rel =>
                refine ⟨k1, by go_num, by omega, fun z hz => ?_, HFC.out⟩
                rw [HDR.out] at hz
                rcases List.mem_cons.1 hz with rfl | hz
                · exact HLE.out
                · exact HU.out z hz
              case measure => have := HK1.out; simp [intOf]; omega
            · have hcd : decide (0 < cc) = false := by simpa using hpos
              have hlow : k = 0 ∨ ∃ y, C[k - 1]? = some y ∧ leT y (T.mk kx nx sx Ax capx lx rx) := .inr ⟨_, by have := HK1.out; rw [show k - 1 = k1 by omega]; exact HY.out, HL2.out (by omega)⟩
              have HLO := hide hlow
              have HFX := HFC
              clear hlow
              generalize wc = wq at *
              have hinT := HT.out.no (HI.out.fr.trans HFX.out) hh
              obtain ⟨e0, e1, e2, e3, e4⟩ := T.cells_at hinT hlt HX.out
              have hsq := HFX.out.size
              have g1q : b < wq.heap.size := by omega
              have own0 := owns_fr HI.out.own HFX.out (fun _ _ h => h)
              have ownA := own0.alloc (.cells #[.int .u8 kx, .int .i64 nx, .string sx, .slice Ax lx.length capx, .int .i64 rx] 27)
              have hszw : w.heap.size ≤ wq.heap.size := by omega
              have hbase := owns_lt own0
              have HBASE := hide hbase
              clear hinT own0 hbase
              go_wp2_with (at_builtin; refine wpList_append_lies _ (by rfl) _ _ _ (by rfl) w.heap.size 27 i0 _ 5 64 Try.underlying24 hi0 hz0 hz1 hz2 (by rfl) (by omega) _ i (rowCells C) (by rfl) ownA ⟨wq.heap.size, 0, none⟩ 1 1 [.int .u8 kx, .int .i64 nx, .string sx, .slice Ax lx.length capx, .int .i64 rx] (by rfl) (by rfl) (World.news_of_block (heap_alloc_new wq _)) (by simp [Value.oneCell']) (by omega) (by unfold maxLen; omega) (by omega) (by simp; omega) (wq.heap.size + 1) (by simp) ?_; intro g2 cp w4 hown1 hgrow hat hlt1)
              have hCl := HI.out.len
              have f4 : Fr No w w4 := ((HI.out.fr.trans HFX.out).alloc (.cells #[.int .u8 kx, .int .i64 nx, .string sx, .slice Ax lx.length capx, .int .i64 rx] 27)).trans' (fr_grown hgrow) (fun i hi h => by have := HBASE.out i h.symm; omega)
              have hg2 := (owns_lt hown1 g2 rfl).1
              have hrow : Rw w4 w.heap.size g2 cp (C ++ [T.mk kx nx sx Ax capx lx rx]) := by
                unfold Rw
                rw [List.length_append, hCl, rowCells_snoc]
                exact hown1
              have HROW := hide hrow
              have HF4 := hide f4
              clear hown1 hgrow hat ownA hrow f4 hCl e0 e1 e2 e3 e4 HBASE
              go_loopw [7] (fun s wr => ∃ (j : Nat) (z : T), s = .int .i64 j ∧ k ≤ j ∧ j ≤ i ∧ Rw wr w.heap.size g2 cp (C.take j ++ z :: C.drop j) ∧ Fr (fun i => i = g2) w4 wr) (fun s _ => (intOf s).toNat)
              case atStart =>
                refine ⟨i, T.mk kx nx sx Ax capx lx rx, by first | rfl | go_num, hk, Nat.le_refl _, ?_, Fr.refl _ _⟩
                have := HROW.out
                rw [List.take_of_length_le (by have := HI.out.len; omega), List.drop_of_length_le (by have := HI.out.len; omega)]
                exact this
              case round =>
                obtain ⟨j, z, rfl, hkj, hji, hr, fr⟩ := hrel
                have hCl := HI.out.len
                have hjj : (j : Int) ≤ 1000000 := by omega
                have hlenR : (C.take j ++ z :: C.drop j).length = i + 1 := by simp; omega
                have hr1 := hr
                unfold Rw at hr1
                rw [hlenR] at hr1
                have hsz4 := HF4.out.size
                have hsz5 := fr.size
                by_cases hkl : k < j
                · obtain ⟨j1, hj1⟩ : ∃ j1, j = j1 + 1 := ⟨j - 1, by omega⟩
                  obtain ⟨y, hy⟩ : ∃ y, C[j1]? = some y := ⟨_, List.getElem?_eq_getElem (by omega)⟩
                  have hLy : (C.take j ++ z :: C.drop j)[j1]? = some y := by
                    rw [List.getElem?_append_left (by simp; omega), List.getElem?_take, if_pos (by omega), hy]
                  have hset : (C.take j ++ z :: C.drop j).set j y = C.take j1 ++ y :: C.drop j1 := by
                    obtain ⟨hq, hq2⟩ := List.getElem?_eq_some_iff.1 hy
                    have hjl : (C.take j).length = j := by simp; omega
                    rw [List.set_append_right _ _ (by omega), show j - (C.take j).length = 0 by omega, List.set_cons_zero]
                    rw [show C.drop j1 = y :: C.drop j by rw [List.drop_eq_getElem_cons hq, hq2, hj1], show C.take j = C.take j1 ++ [y] by rw [hj1, List.take_succ_eq_append_getElem hq, hq2]]
                    simp only [List.append_assoc, List.cons_append, List.nil_append]
                  have hLz : (C.take j ++ z :: C.drop j)[j]? = some z := by
                    rw [List.getElem?_append_right (by simp; omega)]
                    simp
                    rw [show j - min j C.length = 0 by omega]
                    rfl
                  obtain ⟨ky, ny, sy, Ay, cy, ly, ry⟩ := y
                  obtain ⟨kz, nz, sz, Az, cz, lz, rz⟩ := z
                  obtain ⟨p0, p1, p2, p3, p4, pf, pl⟩ := owns_five hr1 hLy
                  obtain ⟨q0, q1, q2, q3, q4, qf, ql⟩ := owns_five hr1 hLz
                  have ej : (j : Int) - 1 = (j1 : Int) := by omega
                  have h1j : (1 : Int) ≤ (j : Int) := by omega
                  have hj1i : (j1 : Int) ≤ 1000000 := by omega
                  have hj1n : j1 < i + 1 := by omega
                  have hjn : j < i + 1 := by omega
                  have HR := hide hr
                  have HF := hide fr
                  have HSET := hide hset
                  have HLR := hide hlenR
                  have HJ1 := hide hj1
                  clear hr hr1 fr hset hLy hLz hy hlenR hCl hj1
                  go_wp2
                  go_roundw
                  case rel =>
                    refine ⟨j1, T.mk ky ny sy Ay cy ly ry, by go_num, by have := HJ1.out; omega, by omega, ?_, HF.out.trans (five_fr wr g2 (j * 5) ky ny sy Ay ly.length cy ry)⟩
                    rw [← HSET.out]
                    exact Rw.set HR.out (by rw [HLR.out]; exact hjn) ky ny sy Ay cy ly ry
                  case measure => have := HJ1.out; simp [intOf]; omega
                · obtain rfl : k = j := by omega
                  have hLz : (C.take k ++ z :: C.drop k)[k]? = some z := by
                    rw [List.getElem?_append_right (by simp; omega)]
                    simp
                    rw [show k - min k C.length = 0 by omega]
                    rfl
                  have hset : (C.take k ++ z :: C.drop k).set k (T.mk kx nx sx Ax capx lx rx) = C.take k ++ T.mk kx nx sx Ax capx lx rx :: C.drop k := by
                    have hjl : (C.take k).length = k := by simp; omega
                    rw [List.set_append_right _ _ (by omega), show k - (C.take k).length = 0 by omega, List.set_cons_zero]
                  have fw : Fr No w wr := HF4.out.trans' fr (fun i hi h => by have h' : i = g2 := h; omega)
                  obtain ⟨kz, nz, sz, Az, cz, lz, rz⟩ := z
                  obtain ⟨p0, p1, p2, p3, p4, pf, pl⟩ := owns_five hr1 hLz
                  have hinT := HT.out.no fw hh
                  obtain ⟨e0, e1, e2, e3, e4⟩ := T.cells_at hinT hlt HX.out
                  have gb : b < wr.heap.size := by omega
                  have hne : b ≠ g2 := by omega
                  have hkn : k < i + 1 := by omega
                  have HR := hide hr
                  have HFW := hide fw
                  have HSET := hide hset
                  have HLR := hide hlenR
                  clear hr hr1 fr hset hLz hlenR hCl fw hinT
                  go_wp2
                  go_roundw
                  case rel =>
                    refine ⟨i + 1, some ⟨g2, 0, none⟩, cp, _, hlt, by go_num, by first | rfl | simp, HI.out.next HXL.out hk HLO.out HU.out (g := g2) (cp := cp) ?_ (HFW.out.trans' (five_fr wr g2 (k * 5) kx nx sx Ax lx.length capx rx) (fun i hi h => by have h' : i = g2 := h; omega))⟩
                    rw [← HSET.out]
                    exact Rw.set HR.out (by rw [HLR.out]; exact hkn) kx nx sx Ax capx lx rx
                  case measure => simp [intOf]; omega
          · have hd : decide (0 < k) = false := by simpa using hk0
            have hlow : k = 0 ∨ ∃ y, C[k - 1]? = some y ∧ leT y (T.mk kx nx sx Ax capx lx rx) := .inl (by omega)
            have HLO := hide hlow
            have HU := hide hu
            have HFR := hide fr
            clear hlow hu fr hinT
            go_wp2_with fail
            go_quiet (fail)
            generalize hwq : World.drewN wr _ = wq
            have HFX : Hid (Fr No wo wq) := by rw [← hwq]; exact HFR.out.trans ((Fr.refl No wr).drewN _)
            clear hwq
            have hinT := HT.out.no (HI.out.fr.trans HFX.out) hh
            obtain ⟨e0, e1, e2, e3, e4⟩ := T.cells_at hinT hlt HX.out
            have hsq := HFX.out.size
            have g1q : b < wq.heap.size := by omega
            have own0 := owns_fr HI.out.own HFX.out (fun _ _ h => h)
            have ownA := own0.alloc (.cells #[.int .u8 kx, .int .i64 nx, .string sx, .slice Ax lx.length capx, .int .i64 rx] 27)
            have hszw : w.heap.size ≤ wq.heap.size := by omega
            have hbase := owns_lt own0
            have HBASE := hide hbase
            clear hinT own0 hbase
            go_wp2_with (at_builtin; refine wpList_append_lies _ (by rfl) _ _ _ (by rfl) w.heap.size 27 i0 _ 5 64 Try.underlying24 hi0 hz0 hz1 hz2 (by rfl) (by omega) _ i (rowCells C) (by rfl) ownA ⟨wq.heap.size, 0, none⟩ 1 1 [.int .u8 kx, .int .i64 nx, .string sx, .slice Ax lx.length capx, .int .i64 rx] (by rfl) (by rfl) (World.news_of_block (heap_alloc_new wq _)) (by simp [Value.oneCell']) (by omega) (by unfold maxLen; omega) (by omega) (by simp; omega) (wq.heap.size + 1) (by simp) ?_; intro g2 cp w4 hown1 hgrow hat hlt1)
            have hCl := HI.out.len
            have f4 : Fr No w w4 := ((HI.out.fr.trans HFX.out).alloc (.cells #[.int .u8 kx, .int .i64 nx, .string sx, .slice Ax lx.length capx, .int .i64 rx] 27)).trans' (fr_grown hgrow) (fun i hi h => by have := HBASE.out i h.symm; omega)
            have hg2 := (owns_lt hown1 g2 rfl).1
            have hrow : Rw w4 w.heap.size g2 cp (C ++ [T.mk kx nx sx Ax capx lx rx]) := by
              unfold Rw
              rw [List.length_append, hCl, rowCells_snoc]
              exact hown1
            have HROW := hide hrow
            have HF4 := hide f4
            clear hown1 hgrow hat ownA hrow f4 hCl e0 e1 e2 e3 e4 HBASE
            go_loopw [7] (fun s wr => ∃ (j : Nat) (z : T), s = .int .i64 j ∧ k ≤ j ∧ j ≤ i ∧ Rw wr w.heap.size g2 cp (C.take j ++ z :: C.drop j) ∧ Fr (fun i => i = g2) w4 wr) (fun s _ => (intOf s).toNat)
            case atStart =>
              refine ⟨i, T.mk kx nx sx Ax capx lx rx, by first | rfl | go_num, hk, Nat.le_refl _, ?_, Fr.refl _ _⟩
              have := HROW.out
              rw [List.take_of_length_le (by have := HI.out.len; omega), List.drop_of_length_le (by have := HI.out.len; omega)]
              exact this
            case round =>
              obtain ⟨j, z, rfl, hkj, hji, hr, fr⟩ := hrel
              have hCl := HI.out.len
              have hjj : (j : Int) ≤ 1000000 := by omega
              have hlenR : (C.take j ++ z :: C.drop j).length = i + 1 := by simp; omega
              have hr1 := hr
              unfold Rw at hr1
              rw [hlenR] at hr1
              have hsz4 := HF4.out.size
              have hsz5 := fr.size
              by_cases hkl : k < j
              · obtain ⟨j1, hj1⟩ : ∃ j1, j = j1 + 1 := ⟨j - 1, by omega⟩
                obtain ⟨y, hy⟩ : ∃ y, C[j1]? = some y := ⟨_, List.getElem?_eq_getElem (by omega)⟩
                have hLy : (C.take j ++ z :: C.drop j)[j1]? = some y := by
                  rw [List.getElem?_append_left (by simp; omega), List.getElem?_take, if_pos (by omega), hy]
                have hset : (C.take j ++ z :: C.drop j).set j y = C.take j1 ++ y :: C.drop j1 := by
                  obtain ⟨hq, hq2⟩ := List.getElem?_eq_some_iff.1 hy
                  have hjl : (C.take j).length = j := by simp; omega
                  rw [List.set_append_right _ _ (by omega), show j - (C.take j).length = 0 by omega, List.set_cons_zero]
                  rw [show C.drop j1 = y :: C.drop j by rw [List.drop_eq_getElem_cons hq, hq2, hj1], show C.take j = C.take j1 ++ [y] by rw [hj1, List.take_succ_eq_append_getElem hq, hq2]]
                  simp only [List.append_assoc, List.cons_append, List.nil_append]
                have hLz : (C.take j ++ z :: C.drop j)[j]? = some z := by
                  rw [List.getElem?_append_right (by simp; omega)]
                  simp
                  rw [show j - min j C.length = 0 by omega]
                  rfl
                obtain ⟨ky, ny, sy, Ay, cy, ly, ry⟩ := y
                obtain ⟨kz, nz, sz, Az, cz, lz, rz⟩ := z
                obtain ⟨p0, p1, p2, p3, p4, pf, pl⟩ := owns_five hr1 hLy
                obtain ⟨q0, q1, q2, q3, q4, qf, ql⟩ := owns_five hr1 hLz
                have ej : (j : Int) - 1 = (j1 : Int) := by omega
                have h1j : (1 : Int) ≤ (j : Int) := by omega
                have hj1i : (j1 : Int) ≤ 1000000 := by omega
                have hj1n : j1 < i + 1 := by omega
                have hjn : j < i + 1 := by omega
                have HR := hide hr
                have HF := hide fr
                have HSET := hide hset
                have HLR := hide hlenR
                have HJ1 := hide hj1
                clear hr hr1 fr hset hLy hLz hy hlenR hCl hj1
                go_wp2
                go_roundw
                case rel =>
                  refine ⟨j1, T.mk ky ny sy Ay cy ly ry, by go_num, by have := HJ1.out; omega, by omega, ?_, HF.out.trans (five_fr wr g2 (j * 5) ky ny sy Ay ly.length cy ry)⟩
                  rw [← HSET.out]
                  exact Rw.set HR.out (by rw [HLR.out]; exact hjn) ky ny sy Ay cy ly ry
                case measure => have := HJ1.out; simp [intOf]; omega
              · obtain rfl : k = j := by omega
                have hLz : (C.take k ++ z :: C.drop k)[k]? = some z := by
                  rw [List.getElem?_append_right (by simp; omega)]
                  simp
                  rw [show k - min k C.length = 0 by omega]
                  rfl
                have hset : (C.take k ++ z :: C.drop k).set k (T.mk kx nx sx Ax capx lx rx) = C.take k ++ T.mk kx nx sx Ax capx lx rx :: C.drop k := by
                  have hjl : (C.take k).length = k := by simp; omega
                  rw [List.set_append_right _ _ (by omega), show k - (C.take k).length = 0 by omega, List.set_cons_zero]
                have fw : Fr No w wr := HF4.out.trans' fr (fun i hi h => by have h' : i = g2 := h; omega)
                obtain ⟨kz, nz, sz, Az, cz, lz, rz⟩ := z
                obtain ⟨p0, p1, p2, p3, p4, pf, pl⟩ := owns_five hr1 hLz
                have hinT := HT.out.no fw hh
                obtain ⟨e0, e1, e2, e3, e4⟩ := T.cells_at hinT hlt HX.out
                have gb : b < wr.heap.size := by omega
                have hne : b ≠ g2 := by omega
                have hkn : k < i + 1 := by omega
                have HR := hide hr
                have HFW := hide fw
                have HSET := hide hset
                have HLR := hide hlenR
                clear hr hr1 fr hset hLz hlenR hCl fw hinT
                go_wp2
                go_roundw
                case rel =>
                  refine ⟨i + 1, some ⟨g2, 0, none⟩, cp, _, hlt, by go_num, by first | rfl | simp, HI.out.next HXL.out hk HLO.out HU.out (g := g2) (cp := cp) ?_ (HFW.out.trans' (five_fr wr g2 (k * 5) kx nx sx Ax lx.length capx rx) (fun i hi h => by have h' : i = g2 := h; omega))⟩
                  rw [← HSET.out]
                  exact Rw.set HR.out (by rw [HLR.out]; exact hkn) kx nx sx Ax capx lx rx
                case measure => simp [intOf]; omega
      · obtain rfl : l.length = i := by omega
        have hlen := inv.len
        have HI := hide inv
        clear inv
        go_wp2
        go_ret2
        have I := HI.out
        refine ⟨fun _ => ⟨A2, cap2, C, ?_, by have := I.perm; rwa [List.take_of_length_le (Nat.le_refl _)] at this, I.srt, by rw [I.len]; exact I.own, I.fr⟩, fun h => by rw [HA.out] at h; cases h⟩
        rw [I.len]; rfl

end Go.Proofs.Ytihjmipmjogpoaa

/- Chapter 2: the document's answer: SameAll, of rows of the same values. -/
namespace Go.Proofs.Ytihjmipmjogpoaa
open Go.RowKit

set_option maxRecDepth 100000 in
set_option maxHeartbeats 4000000 in
theorem sameAll_any (A : Option Addr) (cap : Nat) (l : List T) (A' : Option Addr) (cap' : Nat) (l' : List T) (w : World) (hj : Nat) (ht : (T.row A cap l).In w 0 hj) (ht' : (T.row A' cap' l').In w 0 hj) (hh : hj ≤ w.heap.size)
    (hv : l.map T.v = l'.map T.v) (hm : (l.map T.v).all V.may = true) (hl : l.length ≤ 1000000) :
    Calls Try.prog 78 #[.slice A l.length cap, .slice A' l'.length cap'] w fun e w' => e = .returned (.bool true) ∧ Fr No w w' := by
  have hS := refSame_any
  have hlen : l.length = l'.length := by have := congrArg List.length hv; simpa using this
  have hne : (l.length != l'.length) = false := by simp [hlen]
  have hsame : ∀ (i : Nat) (x y : T), l[i]? = some x → l'[i]? = some y → x.v.same2 y.v = true := fun i x y hx hy => by
    have h1 : (l.map T.v)[i]? = some x.v := by rw [List.getElem?_map, hx]; rfl
    have h2 : (l.map T.v)[i]? = some y.v := by rw [hv, List.getElem?_map, hy]; rfl
    rw [h1] at h2
    injection h2 with h2
    rw [← h2]
    exact same2_self (List.all_eq_true.1 hm _ (List.mem_of_getElem? h1))
  have HS := hide hS
  have HSM := hide hsame
  have HLEN := hide hlen
  have HT := hide ht
  have HT' := hide ht'
  clear hS hsame hlen hv hm ht ht'
  obtain ⟨n', hn'⟩ : ∃ n', l'.length = n' := ⟨_, rfl⟩
  rw [hn'] at hne ⊢
  have HN := hide hn'
  have hnn : l.length = n' := HLEN.out.trans hn'
  obtain rfl := hnn
  clear hn' hne
  go_enter Try.func78, Try.ntmps78
  go_wp2_with fail
  go_loopw [5] (fun s wr => ∃ i : Nat, s = .int .i64 i ∧ i ≤ l.length ∧ Fr No w wr) (fun s _ => l.length - (intOf s).toNat)
  case atStart => exact ⟨0, rfl, Nat.zero_le _, Fr.refl _ _⟩
  case round =>
    obtain ⟨i, rfl, hi, fr⟩ := hrel
    have hs := fr.size
    by_cases hlt : i < l.length
    · obtain ⟨b, o, k1, n1, s1, A1, c1, l1, r1, rfl, hb0, hb1, hx, hin, e0, e1, e2, e3, e4⟩ := T.elem (HT.out.no fr hh) hlt
      obtain ⟨b', o', k2, n2, s2, A2, c2, l2, r2, rfl, hb0', hb1', hy, hin', f0, f1, f2, f3, f4⟩ := T.elem (HT'.out.no fr hh) (j := i) (by rw [HN.out]; exact hlt)
      have hsm := HSM.out i _ _ (by rw [List.getElem?_eq_getElem hlt, hx]) (by rw [List.getElem?_eq_getElem (by rw [HN.out]; exact hlt), hy])
      have hcall := fun w2 (f : Fr No wr w2) => HS.out (T.mk k1 n1 s1 A1 c1 l1 r1) (T.mk k2 n2 s2 A2 c2 l2 r2) w2 0 hj (hin.no f (by omega)) (hin'.no f (by omega)) (by have := f.size; omega)
      rw [hsm, T.val_mk, T.val_mk] at hcall
      have HC := hide hcall
      have HF := hide fr
      have g0 : b < wr.heap.size := by omega
      have g1 : b' < wr.heap.size := by omega
      have hii : (i : Int) ≤ 1000000 := by omega
      clear hx hy hin hin' hsm hcall fr
      go_wp2_with fail
      go_still_tail 8, (by kernel_rfl)
      change wpList _ _ _ _ _ wr.drew
      have F2 := (Fr.refl No wr).drew
      generalize wr.drew = w2 at F2 ⊢
      have hc2 := HC.out w2 F2
      have HF2 := hide F2
      clear e0 e1 e2 e3 e4 f0 f1 f2 f3 f4 F2
      go_wp2_with fail
      refine hc2.mono ?_
      rintro e wc ⟨rfl, fc⟩
      have HFC := hide ((HF.out.trans HF2.out).trans fc)
      clear fc hc2
      go_wp2
      go_roundw
      case rel => exact ⟨i + 1, by go_num, hlt, HFC.out⟩
      case measure => simp [intOf]; omega
    · have HF := hide fr
      clear fr
      go_wp2
      go_ret
      exact ⟨rfl, HF.out⟩

end Go.Proofs.Ytihjmipmjogpoaa

/- Chapter 2: the law's own smallAll. -/
namespace Go.Proofs.Ytihjmipmjogpoaa
open Go.RowKit

/-- What smallAll says of some values. -/
def SmallAll (l : List V) : Prop := l.length ≤ 600 ∧ (∀ v ∈ l, v.size ≤ 1200 ∧ v.ht ≤ 40) ∧ (l.map V.size).sum ≤ 3600

def SmallAllP (l : List V) (w : World) (e : Ending) (w' : World) : Prop := (∃ b : Bool, e = .returned (.bool b) ∧ (b = true → SmallAll l)) ∧ Fr No w w'

set_option maxRecDepth 100000 in
set_option maxHeartbeats 4000000 in
theorem smallAll_any (A : Option Addr) (cap : Nat) (l : List T) (w : World) (lo hi : Nat) (ht : (T.row A cap l).In w lo hi) (hh : hi ≤ w.heap.size) :
    Calls Try.prog 53 #[.slice A l.length cap] w (SmallAllP (l.map T.v) w) := by
  have hlen := (T.in_mk.1 ht).1.len1
  by_cases hbig : (600 : Int) < (l.length : Int)
  · go_enter Try.func53, Try.ntmps53
    go_wp2
    go_ret
    exact ⟨⟨false, rfl, (fun h => by cases h)⟩, Fr.refl _ _⟩
  · have hbig' : l.length ≤ 600 := by omega
    go_enter Try.func53, Try.ntmps53
    go_wp2_with fail
    go_loopw [3, 4, 5] (fun v i _ wr => ∃ j m : Nat, j ≤ l.length ∧ i = .int .i64 (j : Int) ∧ v = .int .i64 (m : Int) ∧ m = (((l.map T.v).take j).map V.size).sum ∧ m ≤ 3600 ∧ (∀ x ∈ (l.map T.v).take j, x.size ≤ 1200 ∧ x.ht ≤ 40) ∧ Fr No w wr) (fun _ i _ _ => l.length - (intOf i).toNat)
    case atStart => exact ⟨0, 0, Nat.zero_le _, rfl, rfl, by simp, by omega, by simp, Fr.refl _ _⟩
    case round =>
      obtain ⟨j, m, hj, rfl, rfl, hm, hmr, hall, fr⟩ := hrel
      have HM := hide hm
      have HA := hide hall
      clear hm hall
      by_cases hlt : j < l.length
      · obtain ⟨b, o, k1, n1, s1, A1, cap1, l1, r1, rfl, hb0, hb1', hx, hin, e0, e1, e2, e3, e4⟩ := T.elem (ht.no fr hh) hlt
        have hc := small_any l[j] 1200 40 wr lo hi (by rw [hx]; exact hin) (by have := fr.size; omega) (by omega) (by omega) (by omega) (by omega)
        have hj' : j < (l.map T.v).length := by simpa using hlt
        have hxv : (l.map T.v)[j] = (T.mk k1 n1 s1 A1 cap1 l1 r1).v := by rw [List.getElem_map, hx]
        rw [hx, T.val_mk] at hc
        generalize (T.mk k1 n1 s1 A1 cap1 l1 r1).v = u at *
        have g0 : b < wr.heap.size := by have := fr.size; omega
        have HF := hide fr
        have HX := hide hxv
        have hup := u.size_pos
        by_cases hfit : (u.size : Int) ≤ 1200 ∧ (u.ht : Int) ≤ 40
        · rw [smallOf_yes hfit] at hc
          have HC := hide hc
          obtain ⟨hf1, hf2⟩ := hfit
          have hnn : decide ((u.size : Int) < 0) = false := by simp
          clear hxv hx fr hc hin
          generalize hq : u.size = q at *
          have HQ := hide hq
          clear hq
          by_cases h24 : (2400 : Int) < (m : Int)
          · go_wp2_with fail
            refine HC.out.mono ?_
            rintro e w2 ⟨rfl, fr2⟩
            have HF2 := hide (HF.out.trans fr2)
            clear fr2
            go_wp2
            go_ret
            exact ⟨⟨false, rfl, (fun h => by cases h)⟩, HF2.out⟩
          · go_wp2_with fail
            refine HC.out.mono ?_
            rintro e w2 ⟨rfl, fr2⟩
            have HF2 := hide (HF.out.trans fr2)
            clear fr2
            go_wp2
            go_roundw
            case rel =>
              have ht2 : (l.map T.v).take (j + 1) = (l.map T.v).take j ++ [u] := by rw [List.take_succ_eq_append_getElem hj', HX.out]
              refine ⟨j + 1, m + q, hlt, by go_num, by go_num, ?_, by omega, ?_, HF2.out⟩
              · rw [ht2, List.map_append, List.sum_append_nat, ← HM.out, ← HQ.out]; simp
              · intro x hx2
                rw [ht2, List.mem_append] at hx2
                rcases hx2 with h | h
                · exact HA.out x h
                · simp at h; subst h; exact ⟨by rw [HQ.out]; omega, by omega⟩
            case measure => simp [intOf]; omega
        · rw [smallOf_no hfit] at hc
          have HC := hide hc
          clear hxv hx fr hc hin hfit
          go_wp2_with fail
          refine HC.out.mono ?_
          rintro e w2 ⟨rfl, fr2⟩
          have HF2 := hide (HF.out.trans fr2)
          clear fr2
          go_wp2
          go_ret
          exact ⟨⟨false, rfl, (fun h => by cases h)⟩, HF2.out⟩
      · obtain rfl : l.length = j := by omega
        have HW := hide fr
        clear fr
        go_wp2
        go_ret
        have ht2 : (l.map T.v).take l.length = l.map T.v := List.take_of_length_le (by simp)
        have h1 := HM.out
        have h2 := HA.out
        rw [ht2] at h1 h2
        exact ⟨⟨true, rfl, fun _ => ⟨by simpa using hbig', h2, by omega⟩⟩, HW.out⟩

end Go.Proofs.Ytihjmipmjogpoaa

/- Chapter 2: constructors; Deep. -/
import Derived.Test.YtihjmipmjogpoaaR1
import Derived.Test.YtihjmipmjogpoaaV2
namespace Go.Proofs.Ytihjmipmjogpoaa
open Go.RowKit

theorem num2_any (n : Int) (w : World) : Calls Try.prog 79 #[.int .i64 n] w fun e w' => e = .returned (.agg #[.int .u8 1, .int .i64 n, .string ⟨#[]⟩, .slice none 0 0, .int .i64 0]) ∧ Fr No w w' := by
  go_enter Try.func79, Try.ntmps79
  go_wp2
  refine bodyPost_ret (v := .agg #[.int .u8 1, .int .i64 n, .string ⟨#[]⟩, .slice none 0 0, .int .i64 0]) (by simp [results, Try.results79, go_sem, *]) rfl ?_
  exact ⟨rfl, (Fr.refl No w).alloc _⟩

theorem ref2_any (r : Int) (w : World) : Calls Try.prog 102 #[.int .i64 r] w fun e w' => e = .returned (.agg #[.int .u8 4, .int .i64 0, .string ⟨#[]⟩, .slice none 0 0, .int .i64 r]) ∧ Fr No w w' := by
  go_enter Try.func102, Try.ntmps102
  go_wp2
  refine bodyPost_ret (v := .agg #[.int .u8 4, .int .i64 0, .string ⟨#[]⟩, .slice none 0 0, .int .i64 r]) (by simp [results, Try.results102, go_sem, *]) rfl ?_
  exact ⟨rfl, (Fr.refl No w).alloc _⟩

theorem list2_any (A : Option Addr) (n c : Nat) (w : World) : Calls Try.prog 101 #[.slice A n c] w fun e w' => e = .returned (.agg #[.int .u8 3, .int .i64 0, .string ⟨#[]⟩, .slice A n c, .int .i64 0]) ∧ Fr No w w' := by
  go_enter Try.func101, Try.ntmps101
  go_wp2
  refine bodyPost_ret (v := .agg #[.int .u8 3, .int .i64 0, .string ⟨#[]⟩, .slice A n c, .int .i64 0]) (by simp [results, Try.results101, go_sem, *]) rfl ?_
  exact ⟨rfl, (Fr.refl No w).alloc _⟩

set_option maxRecDepth 100000 in
set_option maxHeartbeats 2000000 in
/-- value.deep. -/
theorem deep_any (t : T) : ∀ (w : World) (lo hi : Nat), t.In w lo hi → hi ≤ w.heap.size → t.v.dep ≤ 16 → Calls Try.prog 120 #[t.val] w fun e w' => e = .returned (.int .i64 (t.v.dep : Int)) ∧ Fr No w w' := by
  induction t using T.ind with
  | h k n s A cap l r ih =>
    intro w lo hi ht hh hd
    rw [T.val_mk]
    have fit := (T.in_mk.1 ht).1
    have hlen := fit.len1
    have hk0 := fit.k0
    have hk1 := fit.k1
    have fr1 := (Fr.refl No w).alloc (.cells #[.int .u8 k, .int .i64 n, .string s, .slice A l.length cap, .int .i64 r] 27)
    by_cases h3 : k = 3
    case neg =>
      have h3' : (k != 3) = true := by simpa using h3
      have e : (T.mk k n s A cap l r).v.dep = 0 := by rw [T.v_mk, V.dep_mk, if_neg h3]
      rw [e]
      clear ih
      go_enter Try.func120, Try.ntmps120
      go_wp2
      go_ret
      exact ⟨rfl, fr1⟩
    subst h3
    have e : (T.mk 3 n s A cap l r).v.dep = top ((l.map T.v).map V.dep) + 1 := by rw [T.v_mk, V.dep_mk, if_pos rfl]; omega
    rw [e] at hd ⊢
    have hchild : ∀ x ∈ l, x.v.dep ≤ 15 := by
      intro x hx
      have := le_top (List.mem_map_of_mem (f := V.dep) (List.mem_map_of_mem (f := T.v) hx))
      omega
    clear e
    go_enter Try.func120, Try.ntmps120
    go_wp2_with fail
    go_loopw [3, 12] (fun v i wr => ∃ j m : Nat, j ≤ l.length ∧ i = .int .i64 j ∧ v = .int .i64 (m : Int) ∧ m = top (((l.map T.v).map V.dep).take j) ∧ m ≤ 16 ∧ Fr No (w.alloc (.cells #[.int .u8 3, .int .i64 n, .string s, .slice A l.length cap, .int .i64 r] 27)) wr) (fun _ i _ => l.length - (intOf i).toNat)
    case atStart =>
      exact ⟨0, 0, Nat.zero_le _, rfl, rfl, by simp [top], by omega, Fr.refl _ _⟩
    case round =>
      obtain ⟨j, m, hj, rfl, rfl, hm, hm17, fr⟩ := hrel
      have frw := fr1.trans fr
      have HM := hide hm
      clear hm
      by_cases hlt : j < l.length
      · obtain ⟨b, o, k1, n1, s1, A1, cap1, l1, r1, rfl, hb0, hb1, hx, hin, e0, e1, e2, e3, e4⟩ := T.elem (ht.no frw hh) hlt
        have IH := ih l[j] (List.getElem_mem hlt)
        have hc := hchild l[j] (List.getElem_mem hlt)
        have hto := top_take_succ ((l.map T.v).map V.dep) j (by simpa using hlt)
        rw [List.getElem_map, List.getElem_map] at hto
        rw [hx] at IH hc hto
        rw [T.val_mk] at IH
        generalize (T.mk k1 n1 s1 A1 cap1 l1 r1).v = u at *
        have g0 : b < wr.heap.size := by have := frw.size; omega
        have HF := hide fr
        have HW := hide frw
        have HT := hide hto
        have HI := hide (hin.no ((Fr.refl No wr).alloc (.cells #[.int .u8 k1, .int .i64 n1, .string s1, .slice A1 l1.length cap1, .int .i64 r1] 27)) (by have := frw.size; omega))
        have hh2 : hi ≤ (wr.alloc (.cells #[.int .u8 k1, .int .i64 n1, .string s1, .slice A1 l1.length cap1, .int .i64 r1] 27)).heap.size := by have := frw.size; simp; omega
        have HH := hide hh2
        clear hx ih fr frw fr1 hto hchild hin hh2
        go_wp2_with fail
        refine (IH _ lo hi HI.out HH.out (by omega)).mono ?_
        rintro e w2 ⟨rfl, fr2⟩
        have HF2 := hide fr2
        clear fr2
        generalize hq : u.dep = q at *
        have HQ := hide hq
        clear hq
        go_wp2
        go_roundw
        case rel =>
          refine ⟨j + 1, max m q, hlt, by go_num, ?_, by rw [HT.out, ← HM.out], by omega, (HF.out.alloc _).trans HF2.out⟩
          refine congrArg (Value.int .i64) ?_
          rcases Nat.lt_or_ge m q with h | h
          · rw [if_pos h, Nat.max_eq_right (by omega)]
          · rw [if_neg (by omega), Nat.max_eq_left h]
        case measure => simp [intOf]; omega
      · obtain rfl : l.length = j := by omega
        have HW := hide frw
        clear ih
        have hm2 : m = top ((l.map T.v).map V.dep) := by rw [HM.out, List.take_of_length_le (by simp)]
        have HM2 := hide hm2
        clear hm2
        go_wp2
        go_ret
        exact ⟨by rw [← HM2.out]; rfl, HW.out⟩

/-- value.Deep: of what may not be: 0. -/
theorem Deep_any (t : T) (w : World) (lo hi : Nat) (ht : t.In w lo hi) (hh : hi ≤ w.heap.size) : Calls Try.prog 57 #[t.val] w fun e w' => e = .returned (.int .i64 (if t.v.may = true then (t.v.dep : Int) else 0)) ∧ Fr No w w' := by
  have hM := fun w' h h' => may_any t w' lo hi h h'
  have hD := fun w' h h' h'' => deep_any t w' lo hi h h' h''
  cases t with
  | mk k n s A cap l r =>
    rw [T.val_mk] at *
    generalize hu : (T.mk k n s A cap l r).v = u at *
    have fr1 := (Fr.refl No w).alloc (.cells #[.int .u8 k, .int .i64 n, .string s, .slice A l.length cap, .int .i64 r] 27)
    have hK := Blk.new' w 27 #[.int .u8 k, .int .i64 n, .string s, .slice A l.length cap, .int .i64 r] rfl
    have hin1 := ht.no fr1 hh
    have hs1 : hi ≤ (w.alloc (.cells #[.int .u8 k, .int .i64 n, .string s, .slice A l.length cap, .int .i64 r] 27)).heap.size := by simp; omega
    have HU := hide hu
    clear hu ht
    cases hm : u.may with
    | false =>
      rw [hm] at hM
      simp only [Bool.false_eq_true, if_false]
      clear hm
      go_enter Try.func57, Try.ntmps57
      go_wp2_with fail
      refine (hM _ hin1 hs1).mono ?_
      rintro e w2 ⟨rfl, fr2⟩
      go_wp2
      go_ret
      exact ⟨rfl, fr1.trans fr2⟩
    | true =>
      have hd : u.dep ≤ 16 := by simp [V.may, V.fits] at hm; omega
      rw [hm] at hM
      simp only [if_true]
      clear hm
      go_enter Try.func57, Try.ntmps57
      go_wp2_with fail
      generalize World.alloc w _ = W0 at *
      refine (hM _ hin1 hs1).mono ?_
      rintro e w2 ⟨rfl, fr2⟩
      obtain ⟨c0, c1, c2, c3, c4, -⟩ := (hK.fr fr2 fun h => h).cells5
      have hin2 := hin1.no fr2 hs1
      have hs2 := Nat.le_trans hs1 fr2.size
      have HF := hide (fr1.trans fr2)
      clear fr1 fr2 hK
      go_wp2_with fail
      refine (hD _ hin2 hs2 hd).mono ?_
      rintro e w3 ⟨rfl, fr3⟩
      go_wp2
      go_ret
      exact ⟨rfl, HF.out.trans fr3⟩

end Go.Proofs.Ytihjmipmjogpoaa

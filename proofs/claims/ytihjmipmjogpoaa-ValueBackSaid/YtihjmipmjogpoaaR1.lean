/- The document's answer: parts, deep, field, fields, May of a value. -/
import Derived.Test.YtihjmipmjogpoaaR0
import Derived.Test.YtihjmipmjogpoaaB1
namespace Go.Proofs.Ytihjmipmjogpoaa
open Go.RowKit

def RParts (v : V) (d : Nat) (w : World) (e : Ending) (w' : World) : Prop := ∃ z : Nat, e = .returned (.int .i64 (z : Int)) ∧ PartsIs v d z ∧ Fr No w w'

set_option maxRecDepth 100000 in
set_option maxHeartbeats 2000000 in
theorem rparts_any (t : T) : ∀ (w : World) (d lo hi : Nat), t.In w lo hi → hi ≤ w.heap.size → d ≤ 17 → Calls Try.prog 85 #[t.val, .int .i64 (d : Int)] w (RParts t.v d w) := by
  induction t using T.ind with
  | h k n s A cap l r ih =>
    intro w d lo hi ht hh hd
    rw [T.val_mk]
    have fit := (T.in_mk.1 ht).1
    have hlen := fit.len1
    have hk0 := fit.k0
    have hk1 := fit.k1
    have fr1 := (Fr.refl No w).alloc (.cells #[.int .u8 k, .int .i64 n, .string s, .slice A l.length cap, .int .i64 r] 27)
    by_cases h17 : d = 17
    · subst h17
      have hPI := PartsIs.deep (T.mk k n s A cap l r).v
      have HF := hide fr1
      clear fr1 ih
      by_cases h3 : k = 3
      · subst h3
        go_enter Try.func85, Try.ntmps85
        go_wp2
        go_ret
        exact ⟨513, rfl, hPI, HF.out⟩
      · have h3' : (k == 3) = false := by simpa using h3
        go_enter Try.func85, Try.ntmps85
        go_wp2
        go_ret
        exact ⟨513, rfl, hPI, HF.out⟩
    · have hgt : ¬ (16 : Int) < (d : Int) := by omega
      have hd16 : d ≤ 16 := by omega
      go_enter Try.func85, Try.ntmps85
      go_wp2_with fail
      go_loopw [5, 6] (fun v i wr => ∃ j m : Nat, j ≤ l.length ∧ i = .int .i64 j ∧ v = .int .i64 (m : Int) ∧ PInv (l.map T.v) d j m ∧ Fr No (w.alloc (.cells #[.int .u8 k, .int .i64 n, .string s, .slice A l.length cap, .int .i64 r] 27)) wr) (fun _ i _ => l.length - (intOf i).toNat)
      case atStart =>
        exact ⟨0, 1, Nat.zero_le _, rfl, rfl, PInv.zero _ _, Fr.refl _ _⟩
      case round =>
        obtain ⟨j, m, hj, rfl, rfl, inv, fr⟩ := hrel
        have hK := (Blk.new' w 27 #[.int .u8 k, .int .i64 n, .string s, .slice A l.length cap, .int .i64 r] rfl).fr fr (fun h => h)
        obtain ⟨c0, c1, c2, c3, c4, cf⟩ := hK.cells5
        have frw := fr1.trans fr
        have hszr := hK.lt
        have hm := inv.le
        have HI := hide inv
        clear inv
        by_cases hlt : j < l.length
        · by_cases hm5 : m ≤ 512
          · obtain ⟨b, o, k1, n1, s1, A1, cap1, l1, r1, rfl, hb0, hb1, hx, hin, e0, e1, e2, e3, e4⟩ := T.elem (ht.no frw hh) hlt
            have IH := ih l[j] (List.getElem_mem hlt)
            rw [hx, T.val_mk] at IH
            have HX := hide hx
            have g0 : b < wr.heap.size := by have := frw.size; omega
            have hm5' : (m : Int) ≤ 512 := by omega
            have HF := hide fr
            have HW := hide frw
            clear hx ih fr frw fr1
            go_wp2_with fail
            have hd1 : ((d : Int) + 1) = ((d + 1 : Nat) : Int) := by omega
            rw [hd1]
            clear hd1
            refine (IH wr (d + 1) lo hi hin (by have := HW.out.size; omega) (by omega)).mono ?_
            rintro e w2 ⟨z, rfl, hz, fr2⟩
            have hz2 := hz.2.1
            have HZ := hide hz
            have HF2 := hide fr2
            clear hz fr2
            go_wp2
            go_roundw
            case rel =>
              refine ⟨j + 1, m + z, hlt, by go_num, by go_num, HI.out.succ hm5 (by simpa using hlt) ?_ hd16, HF.out.trans HF2.out⟩
              rw [List.getElem_map, HX.out]
              exact HZ.out
            case measure => simp [intOf]; omega
          · have hm5' : ¬ (m : Int) ≤ 512 := by omega
            have HW := hide frw
            clear ih
            go_wp2
            go_ret
            refine ⟨m, rfl, ?_, HW.out⟩
            rw [T.v_mk]
            exact HI.out.over (by omega)
        · obtain rfl : l.length = j := by omega
          have HW := hide frw
          clear ih
          go_wp2
          go_ret
          refine ⟨m, rfl, ?_, HW.out⟩
          rw [T.v_mk]
          have h := HI.out
          have hl : l.length = (l.map T.v).length := by simp
          rw [hl] at h
          exact h.done hd16

/-- The deepest of the first j. -/
theorem top_take_succ (l : List Nat) (j : Nat) (h : j < l.length) : top (l.take (j + 1)) = max (top (l.take j)) l[j] := by
  induction l generalizing j with
  | nil => simp at h
  | cons x l ih =>
    cases j with
    | zero => simp [top]
    | succ j =>
      simp only [List.take_succ_cons, top, List.getElem_cons_succ]
      rw [ih j (by simpa using h)]
      omega

set_option maxRecDepth 100000 in
set_option maxHeartbeats 2000000 in
theorem rdeep_any (t : T) : ∀ (w : World) (lo hi : Nat), t.In w lo hi → hi ≤ w.heap.size → t.v.ht ≤ 16 → Calls Try.prog 86 #[t.val] w fun e w' => e = .returned (.int .i64 (t.v.dep : Int)) ∧ Fr No w w' := by
  induction t using T.ind with
  | h k n s A cap l r ih =>
    intro w lo hi ht hh hd
    rw [T.val_mk]
    have fit := (T.in_mk.1 ht).1
    have hlen := fit.len1
    have hk0 := fit.k0
    have hk1 := fit.k1
    have fr1 := (Fr.refl No w).alloc (.cells #[.int .u8 k, .int .i64 n, .string s, .slice A l.length cap, .int .i64 r] 27)
    have hdep := dep_le_ht (T.mk k n s A cap l r).v
    by_cases h3 : k = 3
    case neg =>
      have h3' : (k != 3) = true := by simpa using h3
      have e : (T.mk k n s A cap l r).v.dep = 0 := by rw [T.v_mk, V.dep_mk, if_neg h3]
      rw [e]
      clear ih
      go_enter Try.func86, Try.ntmps86
      go_wp2
      go_ret
      exact ⟨rfl, fr1⟩
    subst h3
    have e : (T.mk 3 n s A cap l r).v.dep = top ((l.map T.v).map V.dep) + 1 := by rw [T.v_mk, V.dep_mk, if_pos rfl]; omega
    have hchild : ∀ x ∈ l, x.v.ht + 1 ≤ (T.mk 3 n s A cap l r).v.ht := by
      intro x hx; rw [T.v_mk]; exact ht_child (List.mem_map_of_mem hx)
    rw [e] at hdep ⊢
    generalize (T.mk 3 n s A cap l r).v.ht = H at *
    clear e
    go_enter Try.func86, Try.ntmps86
    go_wp2_with fail
    go_loopw [3, 4] (fun v i wr => ∃ j m : Nat, j ≤ l.length ∧ i = .int .i64 j ∧ v = .int .i64 (m : Int) ∧ m = top (((l.map T.v).map V.dep).take j) ∧ m ≤ 17 ∧ Fr No (w.alloc (.cells #[.int .u8 3, .int .i64 n, .string s, .slice A l.length cap, .int .i64 r] 27)) wr) (fun _ i _ => l.length - (intOf i).toNat)
    case atStart =>
      exact ⟨0, 0, Nat.zero_le _, rfl, rfl, by simp [top], by omega, Fr.refl _ _⟩
    case round =>
      obtain ⟨j, m, hj, rfl, rfl, hm, hm17, fr⟩ := hrel
      have hK := (Blk.new' w 27 #[.int .u8 3, .int .i64 n, .string s, .slice A l.length cap, .int .i64 r] rfl).fr fr (fun h => h)
      obtain ⟨c0, c1, c2, c3, c4, cf⟩ := hK.cells5
      have frw := fr1.trans fr
      have hszr := hK.lt
      have HM := hide hm
      clear hm
      by_cases hlt : j < l.length
      · obtain ⟨b, o, k1, n1, s1, A1, cap1, l1, r1, rfl, hb0, hb1, hx, hin, e0, e1, e2, e3, e4⟩ := T.elem (ht.no frw hh) hlt
        have IH := ih l[j] (List.getElem_mem hlt)
        have hc := hchild l[j] (List.getElem_mem hlt)
        have hdc := dep_le_ht l[j].v
        have hto := top_take_succ ((l.map T.v).map V.dep) j (by simpa using hlt)
        rw [List.getElem_map, List.getElem_map] at hto
        rw [hx] at IH hc hdc hto
        rw [T.val_mk] at IH
        generalize (T.mk k1 n1 s1 A1 cap1 l1 r1).v = u at *
        have g0 : b < wr.heap.size := by have := frw.size; omega
        have HF := hide fr
        have HW := hide frw
        have HT := hide hto
        clear hx ih fr frw fr1 hto hchild
        go_wp2_with fail
        refine (IH wr lo hi hin (by have := HW.out.size; omega) (by omega)).mono ?_
        rintro e w2 ⟨rfl, fr2⟩
        have HF2 := hide fr2
        clear fr2
        generalize hq : u.dep = q at *
        have HQ := hide hq
        clear hq
        go_wp2
        go_roundw
        case rel =>
          refine ⟨j + 1, max m q, hlt, by go_num, ?_, by rw [HT.out, ← HM.out], by omega, HF.out.trans HF2.out⟩
          refine congrArg (Value.int .i64) ?_
          rcases Nat.lt_or_ge m q with h | h
          · rw [if_pos h, Nat.max_eq_right (by omega)]
          · rw [if_neg (by omega), Nat.max_eq_left h]
        case measure => simp [intOf]; omega
      · obtain rfl : l.length = j := by omega
        have HW := hide frw
        clear ih
        go_wp2
        go_ret
        refine ⟨?_, HW.out⟩
        have h := HM.out
        rw [List.take_of_length_le (by simp)] at h
        rw [← h]
        go_num

end Go.Proofs.Ytihjmipmjogpoaa

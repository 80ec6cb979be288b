/- posternref04.Same: whether two values are one; number, word, list. -/
import Derived.Test.YtihjmipmjogpoaaV2
namespace Go.Proofs.Ytihjmipmjogpoaa
open Go.RowKit

/-- Whether two values are one, and no block below turns. -/
def SameP (u v : V) (w : World) (e : Ending) (w' : World) : Prop := ∃ q : Bool, e = .returned (.bool q) ∧ (q = true ↔ u = v) ∧ Fr No w w'

theorem number_any (n : Int) (w : World) : Calls Try.prog 80 #[.int .i64 n] w fun e w' => e = .returned (.agg #[.int .u8 1, .int .i64 n, .string ⟨#[]⟩, .slice none 0 0, .int .i64 0]) ∧ Fr No w w' ∧ w'.heap.size = w.heap.size + 1 := by
  go_enter Try.func80, Try.ntmps80
  go_wp2
  refine bodyPost_ret (v := .agg #[.int .u8 1, .int .i64 n, .string ⟨#[]⟩, .slice none 0 0, .int .i64 0]) (by simp [results, Try.results80, go_sem, *]) rfl ?_
  exact ⟨rfl, (Fr.refl No w).alloc _, by simp⟩

theorem word_any (s : ByteArray) (w : World) : Calls Try.prog 81 #[.string s] w fun e w' => e = .returned (.agg #[.int .u8 2, .int .i64 0, .string s, .slice none 0 0, .int .i64 0]) ∧ Fr No w w' ∧ w'.heap.size = w.heap.size + 1 := by
  go_enter Try.func81, Try.ntmps81
  go_wp2
  refine bodyPost_ret (v := .agg #[.int .u8 2, .int .i64 0, .string s, .slice none 0 0, .int .i64 0]) (by simp [results, Try.results81, go_sem, *]) rfl ?_
  exact ⟨rfl, (Fr.refl No w).alloc _, by simp⟩

theorem list_any (A : Option Addr) (n c : Nat) (w : World) : Calls Try.prog 82 #[.slice A n c] w fun e w' => e = .returned (.agg #[.int .u8 3, .int .i64 0, .string ⟨#[]⟩, .slice A n c, .int .i64 0]) ∧ Fr No w w' ∧ w'.heap.size = w.heap.size + 1 := by
  go_enter Try.func82, Try.ntmps82
  go_wp2
  refine bodyPost_ret (v := .agg #[.int .u8 3, .int .i64 0, .string ⟨#[]⟩, .slice A n c, .int .i64 0]) (by simp [results, Try.results82, go_sem, *]) rfl ?_
  exact ⟨rfl, (Fr.refl No w).alloc _, by simp⟩

set_option maxRecDepth 100000 in
set_option maxHeartbeats 2000000 in
theorem same_any (t : T) : ∀ (t' : T) (w : World) (lo hi lo' hi' : Nat), t.In w lo hi → hi ≤ w.heap.size → t'.In w lo' hi' → hi' ≤ w.heap.size → Calls Try.prog 37 #[t.val, t'.val] w (SameP t.v t'.v w) := by
  induction t using T.ind with
  | h k n s A cap l r ih =>
    intro t' w lo hi lo' hi' ht hh ht' hh'
    cases t' with
    | mk k' n' s' A' cap' l' r' =>
      rw [T.val_mk, T.val_mk]
      have fr2 := ((Fr.refl No w).alloc (.cells #[.int .u8 k, .int .i64 n, .string s, .slice A l.length cap, .int .i64 r] 27)).alloc (.cells #[.int .u8 k', .int .i64 n', .string s', .slice A' l'.length cap', .int .i64 r'] 27)
      by_cases hk : k = k'
      case neg =>
        have hk' : (k != k') = true := by simpa using hk
        go_enter Try.func37, Try.ntmps37
        go_wp2
        go_ret
        exact ⟨false, rfl, by rw [T.v_mk, T.v_mk]; simp [hk], fr2⟩
      by_cases hn : n = n'
      case neg =>
        have hn' : (n != n') = true := by simpa using hn
        subst hk
        go_enter Try.func37, Try.ntmps37
        go_wp2
        go_ret
        exact ⟨false, rfl, by rw [T.v_mk, T.v_mk]; simp [hn], fr2⟩
      by_cases hs : s = s'
      case neg =>
        have hs' : (s.toList == s'.toList) = false := by simpa using fun h => hs (bytes_ext h)
        have hs2 : ¬ s.toList = s'.toList := fun h => hs (bytes_ext h)
        subst hk
        subst hn
        go_enter Try.func37, Try.ntmps37
        go_wp2
        go_ret
        exact ⟨false, rfl, by rw [T.v_mk, T.v_mk]; simp [hs], fr2⟩
      by_cases hr : r = r'
      case neg =>
        have hr' : (r != r') = true := by simpa using hr
        have HF2 := hide fr2
        subst hk
        subst hn
        subst hs
        go_enter Try.func37, Try.ntmps37
        go_wp2
        go_ret
        exact ⟨false, rfl, by rw [T.v_mk, T.v_mk]; simp [hr], HF2.out⟩
      by_cases hl : l.length = l'.length
      case neg =>
        have hl' : ((l.length : Int) != (l'.length : Int)) = true := by simp; omega
        subst hk
        subst hn
        subst hs
        subst hr
        go_enter Try.func37, Try.ntmps37
        go_wp2
        go_ret
        refine ⟨false, rfl, ?_, fr2⟩
        rw [T.v_mk, T.v_mk]
        simp
        intro h
        exact hl (by simpa using congrArg List.length h)
      subst hk
      subst hn
      subst hs
      subst hr
      have hlen := (T.in_mk.1 ht).1.len1
      have hl' : ((l.length : Int) != (l'.length : Int)) = false := by simp; omega
      have HL := hide hl
      clear hl
      go_enter Try.func37, Try.ntmps37
      go_wp2_with fail
      go_loopw [5] (fun i wr => ∃ j : Nat, j ≤ l.length ∧ i = .int .i64 j ∧ Fr No ((w.alloc (.cells #[.int .u8 k, .int .i64 n, .string s, .slice A l.length cap, .int .i64 r] 27)).alloc (.cells #[.int .u8 k, .int .i64 n, .string s, .slice A' l'.length cap', .int .i64 r] 27)) wr ∧ ∀ i (h : i < j) (h1 : i < l.length) (h2 : i < l'.length), l[i].v = l'[i].v) (fun i _ => l.length - (intOf i).toNat)
      case atStart =>
        exact ⟨0, Nat.zero_le _, rfl, Fr.refl _ _, fun i h => absurd h (by omega)⟩
      case round =>
        obtain ⟨j, hj, rfl, fr, hsame⟩ := hrel
        have hK := ((Blk.new' w 27 #[.int .u8 k, .int .i64 n, .string s, .slice A l.length cap, .int .i64 r] rfl).alloc (.cells #[.int .u8 k, .int .i64 n, .string s, .slice A' l'.length cap', .int .i64 r] 27)).fr fr (fun h => h)
        have hV := (Blk.new' (w.alloc (.cells #[.int .u8 k, .int .i64 n, .string s, .slice A l.length cap, .int .i64 r] 27)) 27 #[.int .u8 k, .int .i64 n, .string s, .slice A' l'.length cap', .int .i64 r] (g := w.heap.size + 1) (by simp)).fr fr (fun h => h)
        have frw := fr2.trans fr
        have hszr := fr.size
        simp at hszr
        by_cases hlt : j < l.length
        · have hlt' : j < l'.length := by have := HL.out; omega
          obtain ⟨b, o, k1, n1, s1, A1, cap1, l1, r1, rfl, hb0, hb1, hx, hin, e0, e1, e2, e3, e4⟩ := T.elem (ht.no frw hh) hlt
          obtain ⟨b', o', k2, n2, s2, A2, cap2, l2, r2, rfl, hb0', hb1', hx', hin', f0, f1, f2, f3, f4⟩ := T.elem (ht'.no frw hh') hlt'
          have IH := ih l[j] (List.getElem_mem hlt) l'[j]
          rw [hx, hx', T.val_mk, T.val_mk] at IH
          obtain ⟨c0, c1, c2, c3, c4, cf⟩ := hK.cells5
          obtain ⟨d0, d1, d2, d3, d4, df⟩ := hV.cells5
          have g0 : b < wr.heap.size := by omega
          have g1 : b' < wr.heap.size := by omega
          have g2 : w.heap.size < wr.heap.size := by omega
          have g3 : w.heap.size + 1 < wr.heap.size := by omega
          have hh0 : hi ≤ wr.heap.size := by omega
          have hh1 : hi' ≤ wr.heap.size := by omega
          have HX := hide hx
          have HX' := hide hx'
          have HF := hide fr
          have HW := hide frw
          have HT := hide ht
          have HT' := hide ht'
          have HS := hide hsame
          clear hx hx' ih hK hV fr frw ht ht' fr2 hsame
          go_wp2_with fail
          go_region_held3 (fun w' => (∀ c i, c < wr.heap.size → w'.cell? ⟨c, i, none⟩ = wr.cell? ⟨c, i, none⟩) ∧ Fr No wr w')
            (first | exact ⟨fun _ _ _ => rfl, Fr.drew (Fr.refl No wr)⟩ | (have hq : Fr No wr _ := (‹_ ∧ Fr No wr _›).2.trans ‹Fr No _ _›; exact ⟨hq.cells, hq⟩))
            (first
              | (go_at_call 37; have hs0 := (‹_ ∧ Fr No wr _›).2; ((with_reducible refine (IH _ lo hi lo' hi' ?_ ?_ ?_ ?_).mono ?_); (exact hin.no hs0 hh0); (exact Nat.le_trans hh0 hs0.size); (exact hin'.no hs0 hh1); (exact Nat.le_trans hh1 hs0.size); rintro e w2 ⟨q, rfl, hq, fr1⟩)))
          cases q with
          | false =>
            go_wp2
            go_ret
            refine ⟨false, rfl, ?_, HW.out.trans (‹_ ∧ Fr No wr _›).2⟩
            rw [T.v_mk, T.v_mk]
            simp
            intro h
            have h1 := congrArg (fun q => q[j]?) h
            simp [hlt, hlt'] at h1
            rw [HX.out, HX'.out] at h1
            exact absurd (hq.2 h1) (by simp)
          | true =>
            go_wp2
            go_roundw
            case rel =>
              refine ⟨j + 1, hlt, by go_num, HF.out.trans (‹_ ∧ Fr No wr _›).2, fun i hi h1 h2 => ?_⟩
              rcases Nat.lt_or_ge i j with h | h
              · exact HS.out i h h1 h2
              · obtain rfl : i = j := by omega
                rw [HX.out, HX'.out]
                exact hq.1 rfl
            case measure => simp [intOf]; omega
        · obtain rfl : l.length = j := by omega
          obtain ⟨c0, c1, c2, c3, c4, cf⟩ := hK.cells5
          obtain ⟨d0, d1, d2, d3, d4, df⟩ := hV.cells5
          have HS := hide hsame
          clear hsame ih
          go_wp2
          go_ret
          refine ⟨true, rfl, ?_, frw⟩
          rw [T.v_mk, T.v_mk]
          simp
          refine List.ext_getElem (by simpa using HL.out) fun i h1 h2 => ?_
          simp at h1 h2
          simpa using HS.out i h1 h1 h2

end Go.Proofs.Ytihjmipmjogpoaa

/- Chapter 2: order of two values; Order, Same. -/
import Derived.Test.YtihjmipmjogpoaaE2
namespace Go.Proofs.Ytihjmipmjogpoaa
open Go.RowKit

/-- The first m parts are equal. -/
def EqTo (fs : List (V → Int)) (vs : List V) (m : Nat) : Prop := ∀ (i : Nat) (f : V → Int) (v : V), i < m → fs[i]? = some f → vs[i]? = some v → f v = 0

theorem EqTo.zero (fs : List (V → Int)) (vs : List V) : EqTo fs vs 0 := fun i f v h => by omega

theorem EqTo.succ {fs : List (V → Int)} {vs : List V} {m : Nat} (h : EqTo fs vs m) {f : V → Int} {v : V} (h1 : fs[m]? = some f) (h2 : vs[m]? = some v) (h0 : f v = 0) : EqTo fs vs (m + 1) := by
  intro i g u hi g1 g2
  rcases Nat.lt_or_ge i m with hlt | hge
  · exact h i g u hlt g1 g2
  · obtain rfl : i = m := by omega
    rw [h1] at g1
    rw [h2] at g2
    injection g1 with g1
    injection g2 with g2
    subst g1 g2
    exact h0

set_option maxRecDepth 100000 in
set_option maxHeartbeats 4000000 in
/-- slices.CompareFunc by order. -/
theorem cf_any (A : Option Addr) (cap : Nat) (l : List T) (A' : Option Addr) (cap' : Nat) (l' : List T) (w : World) (lo hi lo' hi' : Nat) (h : (T.row A cap l).In w lo hi) (hh : hi ≤ w.heap.size) (h' : (T.row A' cap' l').In w lo' hi') (hh' : hi' ≤ w.heap.size)
    (hI : ∀ x ∈ l, ∀ (x' : T) (w : World) (lo hi lo' hi' : Nat), x.In w lo hi → hi ≤ w.heap.size → x'.In w lo' hi' → hi' ≤ w.heap.size → Calls Try.prog 118 #[x.val, x'.val] w fun e w' => e = .returned (.int .i64 (x.v.ord x'.v)) ∧ Fr No w w') :
    Calls Try.prog 149 #[.slice A l.length cap, .slice A' l'.length cap', .func (.func 118) #[] #[]] w fun e w' => e = .returned (.int .i64 (ordL (l.map fun x => x.v.ord) (l'.map T.v))) ∧ Fr No w w' := by
  unfold T.row at h h'
  have hl := (T.in_mk.1 h).1.len1
  have hl' := (T.in_mk.1 h').1.len1
  have HI := hide hI
  clear hI
  go_enter Try.func149, Try.ntmps149
  go_wp2_with fail
  go_loopw [13] (fun i wr => ∃ j : Nat, j ≤ l.length ∧ j ≤ l'.length ∧ i = .int .i64 j ∧ Fr No w wr ∧ EqTo (l.map fun x => x.v.ord) (l'.map T.v) j) (fun i _ => l.length - (intOf i).toNat)
  case atStart => exact ⟨0, Nat.zero_le _, Nat.zero_le _, rfl, Fr.refl _ _, EqTo.zero _ _⟩
  case round =>
    obtain ⟨j, hj, hj', rfl, fr, heq⟩ := hrel
    have HE := hide heq
    clear heq
    by_cases hlt : j < l.length
    · obtain ⟨b, o, k1, n1, s1, A1, cap1, l1, r1, rfl, hb0, hb1, hx, hin, e0, e1, e2, e3, e4⟩ := T.elem (h.no fr hh) hlt
      have g0 : b < wr.heap.size := by have := fr.size; omega
      by_cases hlt' : j < l'.length
      · obtain ⟨b', o', k2, n2, s2, A2, cap2, l2, r2, rfl, hb0', hb1', hx', hin', f0, f1, f2, f3, f4⟩ := T.elem (h'.no fr hh') hlt'
        have g1 : b' < wr.heap.size := by have := fr.size; omega
        have IH := HI.out l[j] (List.getElem_mem hlt) l'[j]
        have hg1 : (l.map fun x => x.v.ord)[j]? = some (T.mk k1 n1 s1 A1 cap1 l1 r1).v.ord := by rw [List.getElem?_map, List.getElem?_eq_getElem hlt, hx]; rfl
        have hg2 : (l'.map T.v)[j]? = some (T.mk k2 n2 s2 A2 cap2 l2 r2).v := by rw [List.getElem?_map, List.getElem?_eq_getElem hlt', hx']; rfl
        rw [hx, hx', T.val_mk, T.val_mk] at IH
        have hc := ord_range (T.mk k1 n1 s1 A1 cap1 l1 r1).v (T.mk k2 n2 s2 A2 cap2 l2 r2).v
        generalize hcc : (T.mk k1 n1 s1 A1 cap1 l1 r1).v.ord (T.mk k2 n2 s2 A2 cap2 l2 r2).v = c at *
        have hge : ¬ l'.length ≤ j := by omega
        have fr2 := (((Fr.refl No wr).alloc (.cells #[.int .u8 k1, .int .i64 n1, .string s1, .slice A1 l1.length cap1, .int .i64 r1] 27)).alloc (.cells #[.int .u8 k2, .int .i64 n2, .string s2, .slice A2 l2.length cap2, .int .i64 r2] 27))
        have hsz := fr.size
        have HI1 := hide (hin.no fr2 (by omega))
        have HI2 := hide (hin'.no fr2 (by omega))
        have HH1 := hide (Nat.le_trans hh (Nat.le_trans hsz fr2.size))
        have HH2 := hide (Nat.le_trans hh' (Nat.le_trans hsz fr2.size))
        have HF := hide (fr.trans fr2)
        have HC := hide hcc
        have HG1 := hide hg1
        have HG2 := hide hg2
        clear hx hx' hin hin' fr fr2 hcc hg1 hg2
        go_wp2_with fail
        refine (IH _ lo hi lo' hi' HI1.out HH1.out HI2.out HH2.out).mono ?_
        rintro e w2 ⟨rfl, fr3⟩
        have HF3 := hide (HF.out.trans fr3)
        clear fr3
        have HZ : Hid (c ≠ 0 → ordL (l.map fun x => x.v.ord) (l'.map T.v) = c) := fun hne => by
          have hc' := HC.out
          exact (ordL_at HE.out HG1.out HG2.out (by rw [hc']; exact hne)).trans hc'
        rcases hc with rfl | rfl | rfl
        · go_wp2
          go_ret
          exact ⟨by rw [HZ.out (by decide)]; rfl, HF3.out⟩
        · go_wp2
          go_roundw
          case rel => exact ⟨j + 1, hlt, hlt', by go_num, HF3.out, HE.out.succ HG1.out HG2.out HC.out⟩
          case measure => simp [intOf]; omega
        · go_wp2
          go_ret
          exact ⟨by rw [HZ.out (by decide)]; rfl, HF3.out⟩
      · obtain rfl : j = l'.length := by omega
        have hz : ordL (l.map fun x => x.v.ord) (l'.map T.v) = 1 := ordL_more (by simpa using hlt) (fun i f v hi => HE.out i f v (by simpa using hi))
        have HZ := hide hz
        have HF := hide fr
        clear hz fr hin hx
        go_wp2
        go_ret
        exact ⟨by rw [HZ.out]; rfl, HF.out.alloc _⟩
    · obtain rfl : j = l.length := by omega
      have hz : ordL (l.map fun x => x.v.ord) (l'.map T.v) = if l.length < l'.length then -1 else 0 := by
        have := ordL_done (fs := l.map fun x => x.v.ord) (vs := l'.map T.v) (by simpa using hj') (fun i f v hi => HE.out i f v (by simpa using hi))
        simpa using this
      have HZ := hide hz
      clear hz
      by_cases hlt2 : l.length < l'.length
      · go_wp2
        go_ret
        exact ⟨by rw [HZ.out, if_pos hlt2]; rfl, fr⟩
      · go_wp2
        go_ret
        exact ⟨by rw [HZ.out, if_neg hlt2]; rfl, fr⟩

set_option maxRecDepth 100000 in
set_option maxHeartbeats 4000000 in
/-- value.order. -/
theorem order_any (t : T) : ∀ (t' : T) (w : World) (lo hi lo' hi' : Nat), t.In w lo hi → hi ≤ w.heap.size → t'.In w lo' hi' → hi' ≤ w.heap.size → Calls Try.prog 118 #[t.val, t'.val] w fun e w' => e = .returned (.int .i64 (t.v.ord t'.v)) ∧ Fr No w w' := by
  induction t using T.ind with
  | h k n s A cap l r ih =>
    intro t' w lo hi lo' hi' ht hh ht' hh'
    cases t' with
    | mk k' n' s' A' cap' l' r' =>
      rw [T.val_mk, T.val_mk]
      have fr2 := ((Fr.refl No w).alloc (.cells #[.int .u8 k, .int .i64 n, .string s, .slice A l.length cap, .int .i64 r] 27)).alloc (.cells #[.int .u8 k', .int .i64 n', .string s', .slice A' l'.length cap', .int .i64 r'] 27)
      have hord : (T.mk k n s A cap l r).v.ord (T.mk k' n' s' A' cap' l' r').v = if k = k' then (if k = 1 then cmpI n n' else if k = 2 then cmpS s s' else if k = 4 then cmpI r r' else ordL (l.map fun x => x.v.ord) (l'.map T.v)) else cmpI k k' := by
        rw [T.v_mk, T.v_mk, V.ord_mk, ordOf, List.map_map]; rfl
      rw [hord]
      have fit := (T.in_mk.1 ht).1
      have fit' := (T.in_mk.1 ht').1
      have k0 := fit.k0
      have k1 := fit.k1
      have k0' := fit'.k0
      have k1' := fit'.k1
      by_cases hk : k = k'
      case neg =>
        have hk' : (k != k') = true := by simpa using hk
        have hC := cmpK_any k k'
        rw [if_neg hk]
        have HK := hide hk
        clear hk ih hord
        go_enter Try.func118, Try.ntmps118
        go_wp2_with fail
        refine (hC _).mono ?_
        rintro e w' ⟨rfl, rfl⟩
        go_wp2
        go_ret
        exact ⟨rfl, fr2⟩
      subst hk
      rw [if_pos rfl]
      by_cases h1 : k = 1
      · subst h1
        have hC := cmpN_any n n'
        rw [if_pos rfl]
        clear ih hord
        go_enter Try.func118, Try.ntmps118
        go_wp2_with fail
        refine (hC _).mono ?_
        rintro e w' ⟨rfl, rfl⟩
        go_wp2
        go_ret
        exact ⟨rfl, fr2⟩
      rw [if_neg h1]
      by_cases h2 : k = 2
      · subst h2
        have hC := cmpS_any s s'
        rw [if_pos rfl]
        clear ih hord
        go_enter Try.func118, Try.ntmps118
        go_wp2_with fail
        refine (hC _).mono ?_
        rintro e w' ⟨rfl, rfl⟩
        go_wp2
        go_ret
        exact ⟨rfl, fr2⟩
      rw [if_neg h2]
      by_cases h4 : k = 4
      · subst h4
        have hC := cmpR_any r r'
        rw [if_pos rfl]
        clear ih hord
        go_enter Try.func118, Try.ntmps118
        go_wp2_with fail
        refine (hC _).mono ?_
        rintro e w' ⟨rfl, rfl⟩
        go_wp2
        go_ret
        exact ⟨rfl, fr2⟩
      rw [if_neg h4]
      have h1' : (k == 1) = false := by simpa using h1
      have h2' : (k == 2) = false := by simpa using h2
      have h4' : (k == 4) = false := by simpa using h4
      have hin : (T.row A cap l).In w lo hi := T.in_mk.2 ⟨⟨by omega, by omega, by omega, by omega, by simp [ByteArray.size], fit.len1, fit.cap1, by omega, by omega⟩, (T.in_mk.1 ht).2⟩
      have hin' : (T.row A' cap' l').In w lo' hi' := T.in_mk.2 ⟨⟨by omega, by omega, by omega, by omega, by simp [ByteArray.size], fit'.len1, fit'.cap1, by omega, by omega⟩, (T.in_mk.1 ht').2⟩
      have hC := fun w1 (f : Fr No w w1) => cf_any A cap l A' cap' l' w1 lo hi lo' hi' (hin.no f hh) (Nat.le_trans hh f.size) (hin'.no f hh') (Nat.le_trans hh' f.size) ih
      have HC := hide hC
      have HF := hide fr2
      clear hC hin hin' ih hord h1 h2 h4 fr2
      go_enter Try.func118, Try.ntmps118
      go_wp2_with fail
      refine (HC.out _ HF.out).mono ?_
      rintro e w' ⟨rfl, fr3⟩
      go_wp2
      go_ret
      exact ⟨rfl, HF.out.trans fr3⟩

end Go.Proofs.Ytihjmipmjogpoaa

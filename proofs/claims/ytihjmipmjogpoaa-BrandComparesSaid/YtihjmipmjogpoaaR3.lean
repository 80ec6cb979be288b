/- The document's answer: shape, Compare, Keys of values; brand.Keys. -/
import Derived.Test.YtihjmipmjogpoaaR2
import Derived.Test.YtihjmipmjogpoaaS1
namespace Go.Proofs.Ytihjmipmjogpoaa
open Go.RowKit

/-- shape's own number. -/
def rshape (k : Int) (len : Nat) : Int := if k = 3 ∧ len ≠ 2 then 5 else k

theorem shape_any (k n : Int) (s : ByteArray) (A : Option Addr) (cap len : Nat) (r : Int) (w : World) (hk0 : 0 ≤ k) (hk1 : k < 256) (hl : len * 64 ≤ 140737488351232) :
    Calls Try.prog 88 #[.agg #[.int .u8 k, .int .i64 n, .string s, .slice A len cap, .int .i64 r]] w fun e w' => e = .returned (.int .i64 (rshape k len)) ∧ Fr No w w' := by
  have HF := hide ((Fr.refl No w).alloc (.cells #[.int .u8 k, .int .i64 n, .string s, .slice A len cap, .int .i64 r] 27))
  by_cases h3 : k = 3
  · subst h3
    by_cases h2 : len = 2
    · subst h2
      have e : rshape 3 2 = 3 := by simp [rshape]
      rw [e]
      go_enter Try.func88, Try.ntmps88
      go_wp2
      go_ret
      exact ⟨rfl, HF.out⟩
    · have e : rshape 3 len = 5 := by simp [rshape, h2]
      have h2' : ((len : Int) != 2) = true := by simp; omega
      rw [e]
      go_enter Try.func88, Try.ntmps88
      go_wp2
      go_ret
      exact ⟨rfl, HF.out⟩
  · have e : rshape k len = k := by simp [rshape, h3]
    have h3' : (k == 3) = false := by simpa using h3
    rw [e]
    go_enter Try.func88, Try.ntmps88
    go_wp2
    go_ret
    exact ⟨by go_num, HF.out⟩

/-- The two shapes part just alike, of those that may be. -/
theorem rshape_iff {k k' : Int} {len len' : Nat} (hk : k = 0 ∨ k = 1 ∨ k = 2 ∨ k = 3 ∨ k = 4) (hk' : k' = 0 ∨ k' = 1 ∨ k' = 2 ∨ k' = 3 ∨ k' = 4) : rshape k len = rshape k' len' ↔ shp k len = shp k' len' := by
  unfold rshape shp
  by_cases h2 : len = 2 <;> by_cases h2' : len' = 2 <;> rcases hk with rfl | rfl | rfl | rfl | rfl <;> rcases hk' with rfl | rfl | rfl | rfl | rfl <;> simp [h2, h2']

theorem pairCmp_row {ps : List (V → Nat)} {l : List V} (h : ps.length ≠ 2) : pairCmp ps l = 2 := by
  unfold pairCmp
  split
  · simp at h
  · rfl

theorem rshape5 {k : Int} {len : Nat} (hk : k = 0 ∨ k = 1 ∨ k = 2 ∨ k = 3 ∨ k = 4) (h : rshape k len = 5) : k = 3 ∧ len ≠ 2 := by
  unfold rshape at h; split at h
  · assumption
  · omega

theorem rshape3 {k : Int} {len : Nat} (h : rshape k len = 3) : k = 3 ∧ len = 2 := by
  unfold rshape at h; split at h
  · omega
  · rename_i h'; subst h; exact ⟨rfl, by omega⟩

theorem rshape_leaf {k : Int} {len : Nat} {z : Int} (h : rshape k len = z) (h5 : z ≠ 5) (h3 : z ≠ 3) : k ≠ 3 ∧ z = k := by
  unfold rshape at h; split at h
  · omega
  · exact ⟨by omega, h.symm⟩

theorem leaf_same {k n : Int} {s : ByteArray} {r n' : Int} {s' : ByteArray} {r' : Int} {u v : V} {l l' : List V} (hu : u = .mk k n s l r) (hv : v = .mk k n' s' l' r') (ho : u.ok = true) (ho' : v.ok = true) (hk : k ≠ 3) : leafEq k n s r n' s' r' = true ↔ u = v := by
  have hc : u.cmp v = if leafEq k n s r n' s' r' = true then 1 else 0 := by
    rw [hu, hv, V.cmp_mk, cmpOf]
    rw [hu, V.ok_mk, Bool.and_eq_true] at ho
    rw [hv, V.ok_mk, Bool.and_eq_true] at ho'
    have e1 := fok_len hk ho.1
    have e2 := fok_len hk ho'.1
    simp [shp, hk, e1, e2]
  constructor
  · intro h
    rw [if_pos h] at hc
    exact cmp_eq u v ho ho' hc
  · intro h
    rw [hu, hv] at h
    injection h with h1 h2 h3 h4 h5
    subst h2 h3 h5
    simp [leafEq]

set_option maxRecDepth 100000 in
set_option maxHeartbeats 4000000 in
theorem rcompare_any (t : T) : ∀ (t' : T) (w : World) (lo hi lo' hi' : Nat), t.In w lo hi → hi ≤ w.heap.size → t'.In w lo' hi' → hi' ≤ w.heap.size → t.v.ok = true → t'.v.ok = true →
    Calls Try.prog 22 #[t.val, t'.val] w fun e w' => e = .returned (.int .i64 ((t.v.cmp t'.v : Nat) : Int)) ∧ Fr No w w' := by
  induction t using T.ind with
  | h k n s A cap l r ih =>
    intro t' w lo hi lo' hi' ht hh ht' hh' hok hok'
    have hS := fun w' lo hi lo' hi' h1 h2 h3 h4 => same_any (T.mk k n s A cap l r) t' w' lo hi lo' hi' h1 h2 h3 h4
    cases t' with
    | mk k' n' s' A' cap' l' r' =>
      rw [T.val_mk, T.val_mk] at *
      have fit := (T.in_mk.1 ht).1
      have fit' := (T.in_mk.1 ht').1
      have hA := fun w' => shape_any k n s A cap l.length r w' fit.k0 fit.k1 fit.len1
      have hB := fun w' => shape_any k' n' s' A' cap' l'.length r' w' fit'.k0 fit'.k1 fit'.len1
      have hok1 := hok
      have hok1' := hok'
      rw [T.v_mk, V.ok_mk, Bool.and_eq_true] at hok1 hok1'
      have hkk := fok_kind hok1.1
      have hkk' := fok_kind hok1'.1
      have hsh := rshape_iff (len := (l.map T.v).length) (len' := (l'.map T.v).length) hkk hkk'
      simp only [List.length_map] at hsh
      have fr2 := ((Fr.refl No w).alloc (.cells #[.int .u8 k, .int .i64 n, .string s, .slice A l.length cap, .int .i64 r] 27)).alloc (.cells #[.int .u8 k', .int .i64 n', .string s', .slice A' l'.length cap', .int .i64 r'] 27)
      have hK := ((Blk.new' w 27 #[.int .u8 k, .int .i64 n, .string s, .slice A l.length cap, .int .i64 r] rfl).alloc (.cells #[.int .u8 k', .int .i64 n', .string s', .slice A' l'.length cap', .int .i64 r'] 27))
      have hV := (Blk.new' (w.alloc (.cells #[.int .u8 k, .int .i64 n, .string s, .slice A l.length cap, .int .i64 r] 27)) 27 #[.int .u8 k', .int .i64 n', .string s', .slice A' l'.length cap', .int .i64 r'] (g := w.heap.size + 1) (by simp))
      have hcmp : (T.mk k n s A cap l r).v.cmp (T.mk k' n' s' A' cap' l' r').v = (if shp k l.length = shp k' l'.length then
          (if k = 3 then pairCmp (l.map fun x => x.v.cmp) (l'.map T.v) else if leafEq k n s r n' s' r' = true then 1 else 0) else 0) := by
        rw [T.v_mk, T.v_mk, V.cmp_mk, cmpOf]
        simp only [List.length_map, List.map_map]
        rfl
      have hmax : rshape k l.length ≤ 255 ∧ 0 ≤ rshape k l.length := by
        unfold rshape; have := fit.k0; have := fit.k1; split <;> omega
      generalize hsa : rshape k l.length = sa at *
      generalize hsb : rshape k' l'.length = sb at *
      have HC := hide hcmp
      have HSH := hide hsh
      have HSA := hide hsa
      have HSB := hide hsb
      have HOK := hide hok1
      have HOK' := hide hok1'
      have HO := hide hok
      have HO' := hide hok'
      clear hcmp hsh hsa hsb hok1 hok1' hkk hkk' hok hok'
      go_enter Try.func22, Try.ntmps22
      go_wp2_with fail
      generalize World.alloc _ (.cells #[.int .u8 k', .int .i64 n', .string s', .slice A' l'.length cap', .int .i64 r'] 27) = W0 at *
      have ht0 := ht.no fr2 hh
      have ht0' := ht'.no fr2 hh'
      have hh0 : hi ≤ W0.heap.size := Nat.le_trans hh fr2.size
      have hh0' : hi' ≤ W0.heap.size := Nat.le_trans hh' fr2.size
      obtain ⟨c0, c1, c2, c3, c4, cf⟩ := hK.cells5
      obtain ⟨d0, d1, d2, d3, d4, df⟩ := hV.cells5
      have q0 := hK.lt
      have q1 := hV.lt
      have HF := hide fr2
      have HIH := hide ih
      clear fr2 ih ht ht' hh hh'
      go_region_held3 (fun w' => (∀ c i, c < W0.heap.size → w'.cell? ⟨c, i, none⟩ = W0.cell? ⟨c, i, none⟩) ∧ Fr No W0 w')
        (first | exact ⟨fun _ _ _ => rfl, Fr.drew (Fr.refl No W0)⟩ | (have hq : Fr No W0 _ := (‹_ ∧ Fr No W0 _›).2.trans ‹Fr No _ _›; exact ⟨hq.cells, hq⟩))
        (first
          | (go_at_call 88; (with_reducible refine (hA _).mono ?_); rintro e wa ⟨rfl, fra⟩)
          | (go_at_call 88; (with_reducible refine (hB _).mono ?_); rintro e wb ⟨rfl, frb⟩))
      all_goals
        first
          | (have hfr : Fr No W0 wb := (‹_ ∧ Fr No W0 _›).2; clear fra frb; rename (_ ∧ Fr No W0 wb) => hheld; clear hheld; generalize wb = w3 at *; clear wa)
          | (have hfr : Fr No W0 wa := (‹_ ∧ Fr No W0 _›).2; clear fra frb; rename (_ ∧ Fr No W0 wa) => hheld; clear hheld; generalize wa = w3 at *; clear wb)
        have hK3 := hK.fr hfr (fun h => h)
        have hV3 := hV.fr hfr (fun h => h)
        have ht3 := ht0.no hfr hh0
        have ht3' := ht0'.no hfr hh0'
        have hh3 := Nat.le_trans hh0 hfr.size
        have hh3' := Nat.le_trans hh0' hfr.size
        have HFR := hide (HF.out.trans hfr)
        clear c0 c1 c2 c3 c4 cf d0 d1 d2 d3 d4 df hK hV ht0 ht0' hh0 hh0' q0 q1 hfr
        obtain ⟨c0, c1, c2, c3, c4, cf⟩ := hK3.cells5
        obtain ⟨d0, d1, d2, d3, d4, df⟩ := hV3.cells5
        have q0 := hK3.lt
        have q1 := hV3.lt
        by_cases hne : sa = sb
        case neg =>
          have hne' : (sa != sb) = true := by simpa using hne
          go_wp2
          go_ret
          refine ⟨?_, HFR.out⟩
          rw [HC.out, if_neg (fun h => hne (HSH.out.2 h))]; rfl
        have hsame := HSH.out.1 hne
        have HC2 := HC.out
        rw [if_pos hsame] at HC2
        have HC3 := hide HC2
        have HSM := hide hsame
        have hne' : (sa != sb) = false := by simpa using hne
        have HSAB := hide hne
        clear HC HSH HC2 hsame hne
        by_cases h5 : sa = 5
        · obtain ⟨hk3, hl2⟩ := rshape5 (fok_kind HOK.out.1) (by simpa using HSA.out.trans h5)
          have e2 : (T.mk k n s A cap l r).v.cmp (T.mk k' n' s' A' cap' l' r').v = 2 := by
            rw [HC3.out, if_pos hk3, pairCmp_row (by simpa using hl2)]
          have HE2 := hide e2
          have hs5 : (sa == 5) = true := by simpa using h5
          clear hk3 hl2 h5 e2
          go_wp2_with fail
          refine (hA w3).mono ?_
          rintro e w4 ⟨rfl, fr4⟩
          go_wp2
          go_ret
          exact ⟨by rw [HE2.out]; rfl, HFR.out.trans fr4⟩
        · have hs5 : (sa == 5) = false := by simpa using h5
          go_wp2_with fail
          refine (hA w3).mono ?_
          rintro e w4 ⟨rfl, fr4⟩
          obtain ⟨x0, x1, x2, x3, x4, xf⟩ := (hK3.fr fr4 (fun h => h)).cells5
          have qx := (hK3.fr fr4 (fun h => h)).lt
          go_wp2_with fail
          refine (hA w4).mono ?_
          rintro e w5 ⟨rfl, fr5⟩
          have fr45 := fr4.trans fr5
          have hK5 := hK3.fr fr45 (fun h => h)
          have hV5 := hV3.fr fr45 (fun h => h)
          have ht5 := ht3.no fr45 hh3
          have ht5' := ht3'.no fr45 hh3'
          have hh5 := Nat.le_trans hh3 fr45.size
          have hh5' := Nat.le_trans hh3' fr45.size
          have HF5 := hide (HFR.out.trans fr45)
          clear c0 c1 c2 c3 c4 cf d0 d1 d2 d3 d4 df x0 x1 x2 x3 x4 xf qx q0 q1 fr4 fr5 fr45 hK3 hV3 ht3 ht3' hh3 hh3'
          obtain ⟨c0, c1, c2, c3, c4, cf⟩ := hK5.cells5
          obtain ⟨d0, d1, d2, d3, d4, df⟩ := hV5.cells5
          have q0 := hK5.lt
          have q1 := hV5.lt
          by_cases h3 : sa = 3
          · obtain ⟨hk3, hl2⟩ := rshape3 (HSA.out.trans h3)
            obtain ⟨hk3', hl2'⟩ := rshape3 ((HSB.out.trans HSAB.out.symm).trans h3)
            have hs3 : (sa == 3) = true := by simpa using h3
            subst hk3
            subst hk3'
            obtain ⟨x1, x2, rfl⟩ := at2 hl2
            obtain ⟨y1, y2, rfl⟩ := at2 hl2'
            obtain ⟨b, o, k1, n1, s1, A1, cap1, l1, r1, rfl, hb0, hb1, rfl, hin, e0, e1, e2, e3, e4⟩ := T.elem ht5 (j := 0) (by simp)
            obtain ⟨b2, o2, k2, n2, s2, A2, cap2, l2, r2, hbb, hb20, hb21, rfl, hin2, f0, f1, f2, f3, f4⟩ := T.elem ht5 (j := 1) (by simp)
            obtain ⟨b', o', k1', n1', s1', A1', cap1', l1', r1', rfl, hb0', hb1', rfl, hin', e0', e1', e2', e3', e4'⟩ := T.elem ht5' (j := 0) (by simp)
            obtain ⟨b2', o2', k2', n2', s2', A2', cap2', l2', r2', hbb', hb20', hb21', rfl, hin2', f0', f1', f2', f3', f4'⟩ := T.elem ht5' (j := 1) (by simp)
            simp only [Option.some.injEq, Addr.mk.injEq, and_true] at hbb hbb'
            obtain ⟨rfl, rfl⟩ := hbb
            obtain ⟨rfl, rfl⟩ := hbb'
            simp only [Nat.zero_mul, Nat.add_zero, Nat.one_mul] at e0 e1 e2 e3 e4 f0 f1 f2 f3 f4 e0' e1' e2' e3' e4' f0' f1' f2' f3' f4'
            have hoka : (T.mk k1 n1 s1 A1 cap1 l1 r1).v.ok = true ∧ (T.mk k2 n2 s2 A2 cap2 l2 r2).v.ok = true := by simpa using HOK.out.2
            have hokb : (T.mk k1' n1' s1' A1' cap1' l1' r1').v.ok = true ∧ (T.mk k2' n2' s2' A2' cap2' l2' r2').v.ok = true := by simpa using HOK'.out.2
            have IH1 := fun w' h1 h2 h3 h4 => HIH.out (T.mk k1 n1 s1 A1 cap1 l1 r1) (by simp) (T.mk k1' n1' s1' A1' cap1' l1' r1') w' lo hi lo' hi' h1 h2 h3 h4 hoka.1 hokb.1
            have IH2 := fun w' h1 h2 h3 h4 => HIH.out (T.mk k2 n2 s2 A2 cap2 l2 r2) (by simp) (T.mk k2' n2' s2' A2' cap2' l2' r2') w' lo hi lo' hi' h1 h2 h3 h4 hoka.2 hokb.2
            have HC4 : (T.mk 3 n s (some ⟨b, o, none⟩) cap [T.mk k1 n1 s1 A1 cap1 l1 r1, T.mk k2 n2 s2 A2 cap2 l2 r2] r).v.cmp (T.mk 3 n' s' (some ⟨b', o', none⟩) cap' [T.mk k1' n1' s1' A1' cap1' l1' r1', T.mk k2' n2' s2' A2' cap2' l2' r2'] r').v =
                if (T.mk k1 n1 s1 A1 cap1 l1 r1).v.cmp (T.mk k1' n1' s1' A1' cap1' l1' r1').v = 1 then (T.mk k2 n2 s2 A2 cap2 l2 r2).v.cmp (T.mk k2' n2' s2' A2' cap2' l2' r2').v else (T.mk k1 n1 s1 A1 cap1 l1 r1).v.cmp (T.mk k1' n1' s1' A1' cap1' l1' r1').v := by
              rw [HC3.out, if_pos rfl]; rfl
            rw [T.val_mk, T.val_mk] at IH1 IH2
            generalize hz1 : (T.mk k1 n1 s1 A1 cap1 l1 r1).v.cmp (T.mk k1' n1' s1' A1' cap1' l1' r1').v = z1 at *
            generalize hz2 : (T.mk k2 n2 s2 A2 cap2 l2 r2).v.cmp (T.mk k2' n2' s2' A2' cap2' l2' r2').v = z2 at *
            have H4 := hide HC4
            have g0 : b < w5.heap.size := by omega
            have g1 : b' < w5.heap.size := by omega
            have HZ1 := hide hz1
            have HZ2 := hide hz2
            have HKK := hide hK5
            have HVV := hide hV5
            clear HC4 hz1 hz2 hoka hokb h3 hl2 hl2' HC3 HO HO' HSA HSB HSM HOK HOK' hS hK5 hV5 ht5 ht5' HIH
            go_wp2_with fail
            go_region_held3 (fun w' => (∀ c i, c < w5.heap.size → w'.cell? ⟨c, i, none⟩ = w5.cell? ⟨c, i, none⟩) ∧ Fr No w5 w')
              (first | exact ⟨fun _ _ _ => rfl, Fr.drew (Fr.refl No w5)⟩ | (have hq : Fr No w5 _ := (‹_ ∧ Fr No w5 _›).2.trans ‹Fr No _ _›; exact ⟨hq.cells, hq⟩))
              (first
                | (go_at_call 22; have hs0 := (‹_ ∧ Fr No w5 _›).2; ((with_reducible refine (IH1 _ ?_ ?_ ?_ ?_).mono ?_); (exact hin.no hs0 hh5); (exact Nat.le_trans hh5 hs0.size); (exact hin'.no hs0 hh5'); (exact Nat.le_trans hh5' hs0.size); rintro e w6 ⟨rfl, fr6⟩)))
            have hfr6 : Fr No w5 w6 := (‹_ ∧ Fr No w5 _›).2
            rename (_ ∧ Fr No w5 w6) => hheld
            clear hheld fr6
            by_cases hz : z1 = 1
            case neg =>
              have hzn : ((z1 : Int) != 1) = true := by simp; omega
              have e5 : (T.mk 3 n s (some ⟨b, o, none⟩) cap [T.mk k1 n1 s1 A1 cap1 l1 r1, T.mk k2 n2 s2 A2 cap2 l2 r2] r).v.cmp (T.mk 3 n' s' (some ⟨b', o', none⟩) cap' [T.mk k1' n1' s1' A1' cap1' l1' r1', T.mk k2' n2' s2' A2' cap2' l2' r2'] r').v = z1 := by
                rw [H4.out, if_neg hz]
              have E5 := hide e5
              clear e5
              go_wp2
              go_ret
              exact ⟨by rw [E5.out]; rfl, HF5.out.trans hfr6⟩
            have e5 : (T.mk 3 n s (some ⟨b, o, none⟩) cap [T.mk k1 n1 s1 A1 cap1 l1 r1, T.mk k2 n2 s2 A2 cap2 l2 r2] r).v.cmp (T.mk 3 n' s' (some ⟨b', o', none⟩) cap' [T.mk k1' n1' s1' A1' cap1' l1' r1', T.mk k2' n2' s2' A2' cap2' l2' r2'] r').v = z2 := by
              rw [H4.out, if_pos hz]
            have E5 := hide e5
            subst hz
            have HF6 := hide (HF5.out.trans hfr6)
            have hin6 := hin2.no hfr6 hh5
            have hin6' := hin2'.no hfr6 hh5'
            have hh6 := Nat.le_trans hh5 hfr6.size
            have hh6' := Nat.le_trans hh5' hfr6.size
            rw [← hfr6.cells _ _ g0] at e0 e1 e2 e3 e4 f0 f1 f2 f3 f4
            rw [← hfr6.cells _ _ g1] at e0' e1' e2' e3' e4' f0' f1' f2' f3' f4'
            have g2 : b < w6.heap.size := by omega
            have g3 : b' < w6.heap.size := by omega
            have hK6 := HKK.out.fr hfr6 (fun h => h)
            have hV6 := HVV.out.fr hfr6 (fun h => h)
            clear c0 c1 c2 c3 c4 cf d0 d1 d2 d3 d4 df q0 q1 e5 hfr6 g0 g1
            obtain ⟨c0, c1, c2, c3, c4, cf⟩ := hK6.cells5
            obtain ⟨d0, d1, d2, d3, d4, df⟩ := hV6.cells5
            have q0 := hK6.lt
            have q1 := hV6.lt
            clear hK6 hV6
            go_wp2_with fail
            go_region_held3 (fun w' => (∀ c i, c < w6.heap.size → w'.cell? ⟨c, i, none⟩ = w6.cell? ⟨c, i, none⟩) ∧ Fr No w6 w')
              (first | exact ⟨fun _ _ _ => rfl, Fr.drew (Fr.refl No w6)⟩ | (have hq : Fr No w6 _ := (‹_ ∧ Fr No w6 _›).2.trans ‹Fr No _ _›; exact ⟨hq.cells, hq⟩))
              (first
                | (go_at_call 22; have hs0 := (‹_ ∧ Fr No w6 _›).2; ((with_reducible refine (IH2 _ ?_ ?_ ?_ ?_).mono ?_); (exact hin6.no hs0 hh6); (exact Nat.le_trans hh6 hs0.size); (exact hin6'.no hs0 hh6'); (exact Nat.le_trans hh6' hs0.size); rintro e w7 ⟨rfl, fr7⟩)))
            go_wp2
            go_ret
            exact ⟨by rw [E5.out]; rfl, HF6.out.trans (‹_ ∧ Fr No w6 _›).2⟩
          · have hs3 : (sa == 3) = false := by simpa using h3
            obtain ⟨hk3, hka⟩ := rshape_leaf HSA.out h5 h3
            obtain ⟨-, hkb⟩ := rshape_leaf (HSB.out.trans HSAB.out.symm) h5 h3
            obtain rfl : k = k' := hka.symm.trans hkb
            have hls := leaf_same (T.v_mk k n s A cap l r) (T.v_mk k n' s' A' cap' l' r') HO.out HO'.out hk3
            have HLS := hide hls
            have HK3 := hide hk3
            clear hls hk3 hka hkb h3 h5
            go_wp2_with fail
            refine (hS w5 lo hi lo' hi' ht5 hh5 ht5' hh5').mono ?_
            rintro e w6 ⟨q, rfl, hq, fr6⟩
            cases q with
            | false =>
              have e2 : (T.mk k n s A cap l r).v.cmp (T.mk k n' s' A' cap' l' r').v = 0 := by
                rw [HC3.out, if_neg HK3.out, if_neg (fun h => absurd (hq.2 (HLS.out.1 h)) (by simp))]
              have HE2 := hide e2
              clear e2 hq
              go_wp2
              go_ret
              exact ⟨by rw [HE2.out]; rfl, HF5.out.trans fr6⟩
            | true =>
              have e2 : (T.mk k n s A cap l r).v.cmp (T.mk k n' s' A' cap' l' r').v = 1 := by
                rw [HC3.out, if_neg HK3.out, if_pos (HLS.out.2 (hq.1 rfl))]
              have HE2 := hide e2
              clear e2 hq
              go_wp2
              go_ret
              exact ⟨by rw [HE2.out]; rfl, HF5.out.trans fr6⟩

end Go.Proofs.Ytihjmipmjogpoaa

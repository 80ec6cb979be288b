/- Texts joined: Wo23. -/
import Derived.Test.YtegbfcgbfhamdaaJn6
/- posternlaw09.awake. -/
namespace Go.Proofs.Ytegbfcgbfhamdaa
open Go.RowKit

/-- A whole number as a value. -/
def tNum (n : Int) : T := .mk 1 n ⟨#[]⟩ none 0 [] 0
theorem tNum_val (n : Int) : (tNum n).val = .agg #[.int .u8 1, .int .i64 n, .string ⟨#[]⟩, .slice none 0 0, .int .i64 0] := rfl
theorem tNum_v (n : Int) : (tNum n).v = .mk 1 n ⟨#[]⟩ [] 0 := by rw [tNum, T.v_mk]; rfl
theorem tNum_in {n : Int} (h0 : -100 ≤ n) (h1 : n ≤ 100) (w : World) (lo hi : Nat) : (tNum n).In w lo hi :=
  T.in_mk.2 ⟨⟨by decide, by decide, by omega, by omega, by decide, by decide, Nat.le_refl _, by decide, by decide⟩, fun h => absurd rfl h, by simp⟩
theorem tNum_may (n : Int) : (tNum n).v.may = true := by
  rw [tNum_v]
  simp [V.may, V.fits, V.ok_mk, V.size_mk, V.dep_mk, fok, toList0, top]
theorem tNum_refs (n : Int) : (tNum n).v.refs = [] := by
  unfold V.refs
  rw [if_pos (tNum_may n), tNum_v, V.walk_mk]
  simp [walkL, refsOf]

set_option maxRecDepth 100000 in
set_option maxHeartbeats 8000000 in
theorem awake9 (W : World) : Calls Try.prog 9 #[] W fun e w' => e = .returned (.bool true) ∧ Fr No W w' := by
  have HNew := hide (New_one W)
  go_enter Try.func9, Try.ntmps9
  go_wp2_with fail
  refine HNew.out.mono ?_
  rintro e w1 ⟨m, rfl, hok, hth, hmd, f1⟩
  have hs0 : 0 < m.made.length := by rw [hmd]; simp
  have hm0 : m.made[0] = 0 := by simp [hmd]
  have hl0 : m.th.length = 0 := by rw [hth]; rfl
  have hp := Pair_ok hok f1.size 0 hs0 (by omega) (by omega) (by rw [hth]; simp)
  have HP : Hid (Calls Try.prog 11 #[.pointer (some ⟨m.wb, 0, none⟩), .int .i64 0] w1 fun e w' => e = .returned (.tuple #[.int .i64 1, .int .i64 2, .int .i64 0]) ∧ ∃ g1 g2 t1 t2, t1.v = V.zero ∧ t2.v = V.zero ∧ (m.pair g1 g2 t1 t2 0).Ok W.heap.size w' ∧ Fr No W w') := hide (by
    refine hp.mono ?_
    rintro e w' ⟨rfl, g1, g2, t1, t2, h1, h2, h3, h4, -⟩
    rw [hl0]
    exact ⟨rfl, g1, g2, t1, t2, h1, h2, h3, f1.trans' h4 fun i hi hb => by have := (hok.lt i hb).1; omega⟩)
  have HL0 := hide hl0
  have HS0 := hide hs0
  have HM0 := hide hm0
  have HTH := hide hth
  clear hp f1 hok HNew hl0 hm0 hth hmd
  go_wp2_with fail
  refine HP.out.mono ?_
  rintro e w2 ⟨rfl, g1, g2, t1, t2, hv1, hv2, hok2, f2⟩
  have hl0 := HL0.out
  obtain ⟨m2, hm2⟩ : ∃ m2, m2 = m.pair g1 g2 t1 t2 0 := ⟨_, rfl⟩
  have hl2 : m2.th.length = 2 := by rw [hm2, pair_len, hl0]
  have hs2 : 0 < m2.made.length := by rw [hm2, pair_made]; exact hs0
  have hd2 : m2.made[0] = 2 := by
    have := pair_made_at (m := m) (g1 := g1) (g2 := g2) (t1 := t1) (t2 := t2) hs0
    rw [HM0.out] at this
    simpa [hm2] using this
  have hwb2 : m2.wb = m.wb := by rw [hm2]; rfl
  have hs1 : m2.get 1 = some (g1, ⟨5, 0, t1, 0, 0, 0, 0, 0, false⟩) := by
    have := pair_sealer (m := m) (g1 := g1) (g2 := g2) (t1 := t1) (t2 := t2) (s := 0)
    rw [hl0] at this
    rw [hm2]; exact this
  have ho2 : m2.get 2 = some (g2, ⟨6, 0, t2, 0, 0, 1, 0, 0, false⟩) := by
    have := pair_opener (m := m) (g1 := g1) (g2 := g2) (t1 := t1) (t2 := t2) (s := 0)
    rw [hl0] at this
    rw [hm2]; exact this
  have hof2 : ∀ x ∈ m2.th, x.2.ofr ≤ (m2.th.length : Int) := by rw [hm2]; exact pair_ofr (by rw [HTH.out]; simp)
  rw [← hm2] at hok2
  have hp2 := Pair_ok hok2 f2.size 0 hs2 (by rw [hd2]; omega) (by omega) hof2
  have HP2 : Hid (Calls Try.prog 11 #[.pointer (some ⟨m.wb, 0, none⟩), .int .i64 0] w2 fun e w' => e = .returned (.tuple #[.int .i64 3, .int .i64 4, .int .i64 0]) ∧ ∃ g3 g4 t3 t4, t3.v = V.zero ∧ t4.v = V.zero ∧ (m2.pair g3 g4 t3 t4 0).Ok W.heap.size w' ∧ Fr No W w') := hide (by
    rw [← hwb2]
    refine hp2.mono ?_
    rintro e w' ⟨rfl, g3, g4, t3, t4, h1, h2, h3, h4, -⟩
    rw [hl2]
    exact ⟨rfl, g3, g4, t3, t4, h1, h2, h3, f2.trans' h4 fun i hi hb => by have := (hok2.lt i hb).1; omega⟩)
  have HV1 := hide hv1
  have HV2 := hide hv2
  have HS1 := hide hs1
  have HO2 := hide ho2
  have HL2 := hide hl2
  have HD2 := hide hd2
  have HWB2 := hide hwb2
  have HOF2 := hide hof2
  clear hp2 hv1 hv2 hs1 ho2 hl2 hd2 hwb2 hof2 hok2 f2 hm2 hl0 HP
  go_wp2_with fail
  refine HP2.out.mono ?_
  rintro e w3 ⟨rfl, g3, g4, t3, t4, hv3, hv4, hok4, f4⟩
  have hl2 := HL2.out
  obtain ⟨m4, hm4⟩ : ∃ m4, m4 = m2.pair g3 g4 t3 t4 0 := ⟨_, rfl⟩
  have hl4 : m4.th.length = 4 := by rw [hm4, pair_len, hl2]
  have hs4 : 0 < m4.made.length := by rw [hm4, pair_made]; exact hs2
  have hd4 : m4.made[0] = 4 := by
    have := pair_made_at (m := m2) (g1 := g3) (g2 := g4) (t1 := t3) (t2 := t4) hs2
    rw [HD2.out] at this
    simpa [hm4] using this
  have hwb4 : m4.wb = m.wb := by rw [hm4, ← HWB2.out]; rfl
  have h1 : m4.get 1 = some (g1, ⟨5, 0, t1, 0, 0, 0, 0, 0, false⟩) := by rw [hm4]; exact pair_old HS1.out
  have h2 : m4.get 2 = some (g2, ⟨6, 0, t2, 0, 0, 1, 0, 0, false⟩) := by rw [hm4]; exact pair_old HO2.out
  have h4 : m4.get 4 = some (g4, ⟨6, 0, t4, 0, 0, 3, 0, 0, false⟩) := by
    have := pair_opener (m := m2) (g1 := g3) (g2 := g4) (t1 := t3) (t2 := t4) (s := 0)
    rw [hl2] at this
    rw [hm4]; exact this
  rw [← hm4] at hok4
  have hse := Seal_ok hok4 f4.size 0 hs4 (by rw [hd4]; omega) (by omega) h1 rfl rfl (tNum 7) w3.heap.size (tNum_in (by omega) (by omega) _ _ _) (Nat.le_refl _) (tNum_may 7) (by rw [tNum_refs]; simp) (by rw [tNum_refs]; rfl)
  rw [tNum_val] at hse
  have HSE : Hid (Calls Try.prog 13 #[.pointer (some ⟨m.wb, 0, none⟩), .int .i64 1, .agg #[.int .u8 1, .int .i64 7, .string ⟨#[]⟩, .slice none 0 0, .int .i64 0]] w3 fun e w' => e = .returned (.tuple #[.int .i64 5, .int .i64 0]) ∧ ∃ g t, t.v = (tNum 7).v ∧ (m4.add g ⟨7, 0, t, 0, 0, 1, 0, 0, false⟩ 0).Ok W.heap.size w' ∧ Fr No W w') := hide (by
    rw [← hwb4]
    refine hse.mono ?_
    rintro e w' ⟨rfl, g, t', q1, q2, q3, -⟩
    rw [hl4]
    exact ⟨rfl, g, t', q1, q2, f4.trans' q3 fun i hi hb => by have := (hok4.lt i hb).1; omega⟩)
  have HV4 := hide hv4
  have HG2 := hide h2
  have HG4 := hide h4
  have HL4 := hide hl4
  have HWB4 := hide hwb4
  clear hse hv3 hv4 h1 h2 h4 hl4 hwb4 hok4 f4 hm4 hl2 HP2 hd4
  go_wp2_with fail
  refine HSE.out.mono ?_
  rintro e w4 ⟨rfl, g5, t5, hv5, hok5, f5⟩
  obtain ⟨m5, hm5⟩ : ∃ m5, m5 = m4.add g5 ⟨7, 0, t5, 0, 0, 1, 0, 0, false⟩ 0 := ⟨_, rfl⟩
  have h2 : m5.get 2 = some (g2, ⟨6, 0, t2, 0, 0, 1, 0, 0, false⟩) := by rw [hm5]; exact add_get_old HG2.out
  have h4 : m5.get 4 = some (g4, ⟨6, 0, t4, 0, 0, 3, 0, 0, false⟩) := by rw [hm5]; exact add_get_old HG4.out
  have h5 : m5.get 5 = some (g5, ⟨7, 0, t5, 0, 0, 1, 0, 0, false⟩) := by
    have := add_get_new (m := m4) g5 0 ⟨7, 0, t5, 0, 0, 1, 0, 0, false⟩
    rw [HL4.out] at this
    rw [hm5]; exact this
  have hwb5 : m5.wb = m.wb := by rw [hm5, ← HWB4.out]; rfl
  rw [← hm5] at hok5
  have my2 : t2.v.may = true := by rw [HV2.out]; exact zero_may
  have my4 : t4.v.may = true := by rw [HV4.out]; exact zero_may
  have my5 : t5.v.may = true := by rw [hv5]; exact tNum_may 7
  have HO1 : Hid (∀ W', Fr No w4 W' → Calls Try.prog 20 #[.pointer (some ⟨m.wb, 0, none⟩), .int .i64 2, .agg #[.int .u8 4, .int .i64 0, .string ⟨#[]⟩, .slice none 0 0, .int .i64 5]] W' fun e w' => (∃ t' : T, e = .returned (.tuple #[t'.val, .int .i64 0]) ∧ t'.v = .mk 1 7 ⟨#[]⟩ [] 0) ∧ Fr No W' w') := hide (fun W' f => by
    rw [← hwb5]
    refine (Open_ok (hok5.no f) h2 rfl my2 h5 rfl my5).mono ?_
    rintro e w' ⟨q1, -, q3⟩
    obtain ⟨t', rfl, hv, -⟩ := q1 rfl
    exact ⟨⟨t', rfl, by rw [hv]; show t5.v = _; rw [hv5, tNum_v]⟩, q3⟩)
  have HO2' : Hid (∀ W', Fr No w4 W' → Calls Try.prog 20 #[.pointer (some ⟨m.wb, 0, none⟩), .int .i64 4, .agg #[.int .u8 4, .int .i64 0, .string ⟨#[]⟩, .slice none 0 0, .int .i64 5]] W' fun e w' => e = .returned (.tuple #[.agg #[.int .u8 0, .int .i64 0, .string ⟨#[]⟩, .slice none 0 0, .int .i64 0], .int .i64 91]) ∧ Fr No W' w') := hide (fun W' f => by
    rw [← hwb5]
    refine (Open_ok (hok5.no f) h4 rfl my4 h5 rfl my5).mono ?_
    rintro e w' ⟨-, q2, q3⟩
    exact ⟨q2 (by simp), q3⟩)
  have HSM : Hid (∀ W', Fr No w4 W' → Calls Try.prog 35 #[.pointer (some ⟨m.wb, 0, none⟩), .int .i64 2, .int .i64 5] W' fun e w' => e = .returned (.tuple #[.bool true, .int .i64 0]) ∧ Fr No W' w') := hide (fun W' f => by
    rw [← hwb5]
    refine (Same_w (hok5.no f) h2 (.inr (.inl rfl)) my2 (by simp [Th.pairOf]) (by simp [Th.pairOf]) h5 (.inr (.inr rfl)) my5 (by simp [Th.pairOf]) (by simp [Th.pairOf])).mono ?_
    rintro e w' ⟨rfl, q⟩
    exact ⟨by simp [Th.pairOf], q⟩)
  have HF5 := hide f5
  clear h2 h4 h5 hwb5 my2 my4 my5 hok5 hv5 f5 hm5 HSE
  go_wp2_with fail
  refine (HO1.out w4 (Fr.refl No w4)).mono ?_
  rintro e w5 ⟨⟨⟨k, n, s, A, cap, l, r⟩, rfl, hv⟩, fa⟩
  rw [T.v_mk] at hv
  injection hv with e1 e2 e3 e4 e5
  subst e1 e2 e3 e5
  rw [T.val_mk]
  have fb := fa.alloc (.cells #[.int .u8 1, .int .i64 7, .string ⟨#[]⟩, .slice A l.length cap, .int .i64 0] 37)
  have b11 := Blk.new w5 37 #[.int .u8 1, .int .i64 7, .string ⟨#[]⟩, .slice A l.length cap, .int .i64 0]
  have HB := hide b11
  have HFB := hide fb
  clear fa fb b11 e4 HO1
  go_wp2_with fail
  generalize hw6 : World.alloc w5 _ = w6 at *
  generalize hg11 : w5.heap.size = g11 at *
  refine (HO2'.out w6 HFB.out).mono ?_
  rintro e w7 ⟨rfl, fa⟩
  have fb := fa.alloc (.cells #[.int .u8 0, .int .i64 0, .string ⟨#[]⟩, .slice none 0 0, .int .i64 0] 37)
  have b11 := HB.out.fr fb fun h => h
  have HB7 := hide b11
  have HFB7 := hide (HFB.out.trans fb)
  clear fa fb b11 HO2' hw6 hg11
  go_wp2_with fail
  generalize World.alloc w7 _ = w8 at *
  refine (HSM.out w8 HFB7.out).mono ?_
  rintro e w9 ⟨rfl, fa⟩
  have b11 := HB7.out.fr fa fun h => h
  obtain ⟨d0, d1, d2, d3, d4, df⟩ := b11.cells5
  have dq := b11.lt
  have HFE := hide ((HF5.out.trans HFB7.out).trans fa)
  clear b11 fa HSM
  go_wp2_with fail
  go_ret
  exact ⟨rfl, HFE.out⟩

end Go.Proofs.Ytegbfcgbfhamdaa

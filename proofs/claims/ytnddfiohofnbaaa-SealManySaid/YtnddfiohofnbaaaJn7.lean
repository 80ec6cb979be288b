/- Texts joined: Wo23, Wo30, Wo25, Wo26, Wo27, Wo28. -/
import Derived.Test.YtnddfiohofnbaaaJn6
import Derived.WideLaws
/- posternlaw09.awake. -/
namespace Go.Proofs.Ytnddfiohofnbaaa
open Go.RowKit

/-- A whole number as a value. -/
def tNum (n : Int) : T := .mk 1 n ⟨#[]⟩ none 0 [] 0
theorem tNum_val (n : Int) : (tNum n).val = .agg #[.int .u8 1, .int .i64 n, .string ⟨#[]⟩, .slice none 0 0, .int .i64 0] := rfl
theorem tNum_v (n : Int) : (tNum n).v = .mk 1 n ⟨#[]⟩ [] 0 := by rw [tNum, T.v_mk]; rfl
theorem tNum_in {n : Int} (h0 : -100 ≤ n) (h1 : n ≤ 100) (w : World) (lo hi : Nat) : (tNum n).In w lo hi :=
  T.in_mk.2 ⟨⟨by decide, by decide, by omega, by omega, by decide, by decide, Nat.le_refl _, by decide, by decide⟩, fun h => absurd rfl h, by simp⟩
theorem tNum_may (n : Int) : (tNum n).v.may = true := by
  rw [tNum_v]
  simp [V.may, V.fits, V.ok_mk, V.size_mk, V.dep_mk, fok, toList0, top]
theorem tNum_refs (n : Int) : (tNum n).v.refs = [] := by
  unfold V.refs
  rw [if_pos (tNum_may n), tNum_v, V.walk_mk]
  simp [walkL, refsOf]

set_option maxRecDepth 100000 in
set_option maxHeartbeats 8000000 in
theorem awake9 (W : World) : Calls Try.prog 9 #[] W fun e w' => e = .returned (.bool true) ∧ Fr No W w' := by
  have HNew := hide (New_one W)
  go_enter Try.func9, Try.ntmps9
  go_wp2_with fail
  refine HNew.out.mono ?_
  rintro e w1 ⟨m, rfl, hok, hth, hmd, f1⟩
  have hs0 : 0 < m.made.length := by rw [hmd]; simp
  have hm0 : m.made[0] = 0 := by simp [hmd]
  have hl0 : m.th.length = 0 := by rw [hth]; rfl
  have hp := Pair_ok hok f1.size 0 hs0 (by omega) (by omega) (by rw [hth]; simp)
  have HP : Hid (Calls Try.prog 11 #[.pointer (some ⟨m.wb, 0, none⟩), .int .i64 0] w1 fun e w' => e = .returned (.tuple #[.int .i64 1, .int .i64 2, .int .i64 0]) ∧ ∃ g1 g2 t1 t2, t1.v = V.zero ∧ t2.v = V.zero ∧ (m.pair g1 g2 t1 t2 0).Ok W.heap.size w' ∧ Fr No W w') := hide (by
    refine hp.mono ?_
    rintro e w' ⟨rfl, g1, g2, t1, t2, h1, h2, h3, h4, -⟩
    rw [hl0]
    exact ⟨rfl, g1, g2, t1, t2, h1, h2, h3, f1.trans' h4 fun i hi hb => by have := (hok.lt i hb).1; omega⟩)
  have HL0 := hide hl0
  have HS0 := hide hs0
  have HM0 := hide hm0
  have HTH := hide hth
  clear hp f1 hok HNew hl0 hm0 hth hmd
  go_wp2_with fail
  refine HP.out.mono ?_
  rintro e w2 ⟨rfl, g1, g2, t1, t2, hv1, hv2, hok2, f2⟩
  have hl0 := HL0.out
  obtain ⟨m2, hm2⟩ : ∃ m2, m2 = m.pair g1 g2 t1 t2 0 := ⟨_, rfl⟩
  have hl2 : m2.th.length = 2 := by rw [hm2, pair_len, hl0]
  have hs2 : 0 < m2.made.length := by rw [hm2, pair_made]; exact hs0
  have hd2 : m2.made[0] = 2 := by
    have := pair_made_at (m := m) (g1 := g1) (g2 := g2) (t1 := t1) (t2 := t2) hs0
    rw [HM0.out] at this
    simpa [hm2] using this
  have hwb2 : m2.wb = m.wb := by rw [hm2]; rfl
  have hs1 : m2.get 1 = some (g1, ⟨5, 0, t1, 0, 0, 0, 0, 0, false⟩) := by
    have := pair_sealer (m := m) (g1 := g1) (g2 := g2) (t1 := t1) (t2 := t2) (s := 0)
    rw [hl0] at this
    rw [hm2]; exact this
  have ho2 : m2.get 2 = some (g2, ⟨6, 0, t2, 0, 0, 1, 0, 0, false⟩) := by
    have := pair_opener (m := m) (g1 := g1) (g2 := g2) (t1 := t1) (t2 := t2) (s := 0)
    rw [hl0] at this
    rw [hm2]; exact this
  have hof2 : ∀ x ∈ m2.th, x.2.ofr ≤ (m2.th.length : Int) := by rw [hm2]; exact pair_ofr (by rw [HTH.out]; simp)
  rw [← hm2] at hok2
  have hp2 := Pair_ok hok2 f2.size 0 hs2 (by rw [hd2]; omega) (by omega) hof2
  have HP2 : Hid (Calls Try.prog 11 #[.pointer (some ⟨m.wb, 0, none⟩), .int .i64 0] w2 fun e w' => e = .returned (.tuple #[.int .i64 3, .int .i64 4, .int .i64 0]) ∧ ∃ g3 g4 t3 t4, t3.v = V.zero ∧ t4.v = V.zero ∧ (m2.pair g3 g4 t3 t4 0).Ok W.heap.size w' ∧ Fr No W w') := hide (by
    rw [← hwb2]
    refine hp2.mono ?_
    rintro e w' ⟨rfl, g3, g4, t3, t4, h1, h2, h3, h4, -⟩
    rw [hl2]
    exact ⟨rfl, g3, g4, t3, t4, h1, h2, h3, f2.trans' h4 fun i hi hb => by have := (hok2.lt i hb).1; omega⟩)
  have HV1 := hide hv1
  have HV2 := hide hv2
  have HS1 := hide hs1
  have HO2 := hide ho2
  have HL2 := hide hl2
  have HD2 := hide hd2
  have HWB2 := hide hwb2
  have HOF2 := hide hof2
  clear hp2 hv1 hv2 hs1 ho2 hl2 hd2 hwb2 hof2 hok2 f2 hm2 hl0 HP
  go_wp2_with fail
  refine HP2.out.mono ?_
  rintro e w3 ⟨rfl, g3, g4, t3, t4, hv3, hv4, hok4, f4⟩
  have hl2 := HL2.out
  obtain ⟨m4, hm4⟩ : ∃ m4, m4 = m2.pair g3 g4 t3 t4 0 := ⟨_, rfl⟩
  have hl4 : m4.th.length = 4 := by rw [hm4, pair_len, hl2]
  have hs4 : 0 < m4.made.length := by rw [hm4, pair_made]; exact hs2
  have hd4 : m4.made[0] = 4 := by
    have := pair_made_at (m := m2) (g1 := g3) (g2 := g4) (t1 := t3) (t2 := t4) hs2
    rw [HD2.out] at this
    simpa [hm4] using this
  have hwb4 : m4.wb = m.wb := by rw [hm4, ← HWB2.out]; rfl
  have h1 : m4.get 1 = some (g1, ⟨5, 0, t1, 0, 0, 0, 0, 0, false⟩) := by rw [hm4]; exact pair_old HS1.out
  have h2 : m4.get 2 = some (g2, ⟨6, 0, t2, 0, 0, 1, 0, 0, false⟩) := by rw [hm4]; exact pair_old HO2.out
  have h4 : m4.get 4 = some (g4, ⟨6, 0, t4, 0, 0, 3, 0, 0, false⟩) := by
    have := pair_opener (m := m2) (g1 := g3) (g2 := g4) (t1 := t3) (t2 := t4) (s := 0)
    rw [hl2] at this
    rw [hm4]; exact this
  rw [← hm4] at hok4
  have hse := Seal_ok hok4 f4.size 0 hs4 (by rw [hd4]; omega) (by omega) h1 rfl rfl (tNum 7) w3.heap.size (tNum_in (by omega) (by omega) _ _ _) (Nat.le_refl _) (tNum_may 7) (by rw [tNum_refs]; simp) (by rw [tNum_refs]; rfl)
  rw [tNum_val] at hse
  have HSE : Hid (Calls Try.prog 13 #[.pointer (some ⟨m.wb, 0, none⟩), .int .i64 1, .agg #[.int .u8 1, .int .i64 7, .string ⟨#[]⟩, .slice none 0 0, .int .i64 0]] w3 fun e w' => e = .returned (.tuple #[.int .i64 5, .int .i64 0]) ∧ ∃ g t, t.v = (tNum 7).v ∧ (m4.add g ⟨7, 0, t, 0, 0, 1, 0, 0, false⟩ 0).Ok W.heap.size w' ∧ Fr No W w') := hide (by
    rw [← hwb4]
    refine hse.mono ?_
    rintro e w' ⟨rfl, g, t', q1, q2, q3, -⟩
    rw [hl4]
    exact ⟨rfl, g, t', q1, q2, f4.trans' q3 fun i hi hb => by have := (hok4.lt i hb).1; omega⟩)
  have HV4 := hide hv4
  have HG2 := hide h2
  have HG4 := hide h4
  have HL4 := hide hl4
  have HWB4 := hide hwb4
  clear hse hv3 hv4 h1 h2 h4 hl4 hwb4 hok4 f4 hm4 hl2 HP2 hd4
  go_wp2_with fail
  refine HSE.out.mono ?_
  rintro e w4 ⟨rfl, g5, t5, hv5, hok5, f5⟩
  obtain ⟨m5, hm5⟩ : ∃ m5, m5 = m4.add g5 ⟨7, 0, t5, 0, 0, 1, 0, 0, false⟩ 0 := ⟨_, rfl⟩
  have h2 : m5.get 2 = some (g2, ⟨6, 0, t2, 0, 0, 1, 0, 0, false⟩) := by rw [hm5]; exact add_get_old HG2.out
  have h4 : m5.get 4 = some (g4, ⟨6, 0, t4, 0, 0, 3, 0, 0, false⟩) := by rw [hm5]; exact add_get_old HG4.out
  have h5 : m5.get 5 = some (g5, ⟨7, 0, t5, 0, 0, 1, 0, 0, false⟩) := by
    have := add_get_new (m := m4) g5 0 ⟨7, 0, t5, 0, 0, 1, 0, 0, false⟩
    rw [HL4.out] at this
    rw [hm5]; exact this
  have hwb5 : m5.wb = m.wb := by rw [hm5, ← HWB4.out]; rfl
  rw [← hm5] at hok5
  have my2 : t2.v.may = true := by rw [HV2.out]; exact zero_may
  have my4 : t4.v.may = true := by rw [HV4.out]; exact zero_may
  have my5 : t5.v.may = true := by rw [hv5]; exact tNum_may 7
  have HO1 : Hid (∀ W', Fr No w4 W' → Calls Try.prog 20 #[.pointer (some ⟨m.wb, 0, none⟩), .int .i64 2, .agg #[.int .u8 4, .int .i64 0, .string ⟨#[]⟩, .slice none 0 0, .int .i64 5]] W' fun e w' => (∃ t' : T, e = .returned (.tuple #[t'.val, .int .i64 0]) ∧ t'.v = .mk 1 7 ⟨#[]⟩ [] 0) ∧ Fr No W' w') := hide (fun W' f => by
    rw [← hwb5]
    refine (Open_ok (hok5.no f) h2 rfl my2 h5 rfl my5).mono ?_
    rintro e w' ⟨q1, -, q3⟩
    obtain ⟨t', rfl, hv, -⟩ := q1 rfl
    exact ⟨⟨t', rfl, by rw [hv]; show t5.v = _; rw [hv5, tNum_v]⟩, q3⟩)
  have HO2' : Hid (∀ W', Fr No w4 W' → Calls Try.prog 20 #[.pointer (some ⟨m.wb, 0, none⟩), .int .i64 4, .agg #[.int .u8 4, .int .i64 0, .string ⟨#[]⟩, .slice none 0 0, .int .i64 5]] W' fun e w' => e = .returned (.tuple #[.agg #[.int .u8 0, .int .i64 0, .string ⟨#[]⟩, .slice none 0 0, .int .i64 0], .int .i64 91]) ∧ Fr No W' w') := hide (fun W' f => by
    rw [← hwb5]
    refine (Open_ok (hok5.no f) h4 rfl my4 h5 rfl my5).mono ?_
    rintro e w' ⟨-, q2, q3⟩
    exact ⟨q2 (by simp), q3⟩)
  have HSM : Hid (∀ W', Fr No w4 W' → Calls Try.prog 35 #[.pointer (some ⟨m.wb, 0, none⟩), .int .i64 2, .int .i64 5] W' fun e w' => e = .returned (.tuple #[.bool true, .int .i64 0]) ∧ Fr No W' w') := hide (fun W' f => by
    rw [← hwb5]
    refine (Same_w (hok5.no f) h2 (.inr (.inl rfl)) my2 (by simp [Th.pairOf]) (by simp [Th.pairOf]) h5 (.inr (.inr rfl)) my5 (by simp [Th.pairOf]) (by simp [Th.pairOf])).mono ?_
    rintro e w' ⟨rfl, q⟩
    exact ⟨by simp [Th.pairOf], q⟩)
  have HF5 := hide f5
  clear h2 h4 h5 hwb5 my2 my4 my5 hok5 hv5 f5 hm5 HSE
  go_wp2_with fail
  refine (HO1.out w4 (Fr.refl No w4)).mono ?_
  rintro e w5 ⟨⟨⟨k, n, s, A, cap, l, r⟩, rfl, hv⟩, fa⟩
  rw [T.v_mk] at hv
  injection hv with e1 e2 e3 e4 e5
  subst e1 e2 e3 e5
  rw [T.val_mk]
  have fb := fa.alloc (.cells #[.int .u8 1, .int .i64 7, .string ⟨#[]⟩, .slice A l.length cap, .int .i64 0] 37)
  have b11 := Blk.new w5 37 #[.int .u8 1, .int .i64 7, .string ⟨#[]⟩, .slice A l.length cap, .int .i64 0]
  have HB := hide b11
  have HFB := hide fb
  clear fa fb b11 e4 HO1
  go_wp2_with fail
  generalize hw6 : World.alloc w5 _ = w6 at *
  generalize hg11 : w5.heap.size = g11 at *
  refine (HO2'.out w6 HFB.out).mono ?_
  rintro e w7 ⟨rfl, fa⟩
  have fb := fa.alloc (.cells #[.int .u8 0, .int .i64 0, .string ⟨#[]⟩, .slice none 0 0, .int .i64 0] 37)
  have b11 := HB.out.fr fb fun h => h
  have HB7 := hide b11
  have HFB7 := hide (HFB.out.trans fb)
  clear fa fb b11 HO2' hw6 hg11
  go_wp2_with fail
  generalize World.alloc w7 _ = w8 at *
  refine (HSM.out w8 HFB7.out).mono ?_
  rintro e w9 ⟨rfl, fa⟩
  have b11 := HB7.out.fr fa fun h => h
  obtain ⟨d0, d1, d2, d3, d4, df⟩ := b11.cells5
  have dq := b11.lt
  have HFE := hide ((HF5.out.trans HFB7.out).trans fa)
  clear b11 fa HSM
  go_wp2_with fail
  go_ret
  exact ⟨rfl, HFE.out⟩

end Go.Proofs.Ytnddfiohofnbaaa

/- SealSealed: values whose references are brought into 1 to last, plain; what look finds, plain. -/
namespace Go.Proofs.Ytnddfiohofnbaaa
open Go.RowKit

theorem fr_grown {w w' : World} {row : Option Nat} (h : w.grownBy w' row) : Fr (fun i => some i = row) w w' := (Fr.refl _ w).grown h fun k hk _ => hk.symm

/-- A value whose references are brought into 1 to last. -/
def V.win (last : Int) : V → V
  | .mk k n s l r => .mk k n s (l.map (V.win last)) (if k = 4 ∧ last < r then r % last + 1 else r)
termination_by v => v

theorem V.win_mk (last k n : Int) (s : ByteArray) (l : List V) (r : Int) : (V.mk k n s l r).win last = .mk k n s (l.map (V.win last)) (if k = 4 ∧ last < r then r % last + 1 else r) := by
  rw [V.win]

theorem walkL_mem {fs : List (List Int → List (List Int × V))} {pl : List Int} {x : List Int × V} : ∀ {i : Nat}, x ∈ walkL fs i pl → ∃ f ∈ fs, ∃ q, x ∈ f q := by
  induction fs with
  | nil => intro i h; simp [walkL] at h
  | cons f fs ih =>
    intro i h
    rw [walkL, List.mem_append] at h
    rcases h with h | h
    · exact ⟨f, by simp, _, h⟩
    · obtain ⟨g, hg, q, hq⟩ := ih h
      exact ⟨g, by simp [hg], q, hq⟩

theorem refsOf_mem {r : Int} : ∀ {L : List (List Int × V)}, r ∈ refsOf L → ∃ p n s l, (p, V.mk 4 n s l r) ∈ L
  | [], h => by simp [refsOf] at h
  | (p, .mk k n s l r') :: L, h => by
    rw [refsOf] at h
    split at h
    · rename_i hk
      rcases List.mem_cons.1 h with rfl | h
      · subst hk; exact ⟨p, n, s, l, by simp⟩
      · obtain ⟨p2, n2, s2, l2, h2⟩ := refsOf_mem h
        exact ⟨p2, n2, s2, l2, by simp [h2]⟩
    · obtain ⟨p2, n2, s2, l2, h2⟩ := refsOf_mem h
      exact ⟨p2, n2, s2, l2, by simp [h2]⟩

theorem refsOf_len : ∀ (L : List (List Int × V)), (refsOf L).length ≤ L.length
  | [] => by simp [refsOf]
  | (p, .mk k n s l r) :: L => by
    have := refsOf_len L
    rw [refsOf]
    split <;> simp <;> omega

theorem refs_length (v : V) : v.refs.length ≤ 512 := by
  unfold V.refs
  split
  · rename_i h
    have h1 := refsOf_len (v.walk [])
    rw [walk_length] at h1
    simp [V.may, V.fits] at h
    omega
  · simp

theorem win_top {last : Int} (h1 : 1 ≤ last) (v : V) : ∀ (p : List Int), ∀ x ∈ (v.win last).walk p, ∀ n s l r, x.2 = V.mk 4 n s l r → r ≤ last := by
  induction v using V.ind with
  | h k n s l r ih =>
    intro p x hx n' s' l' r' e
    rw [V.win_mk, V.walk_mk] at hx
    rcases List.mem_cons.1 hx with rfl | hx
    · simp only [V.mk.injEq] at e
      obtain ⟨rfl, -, -, -, rfl⟩ := e
      have hm : r % last < last := Int.emod_lt_of_pos r (by omega)
      split <;> omega
    · obtain ⟨f, hf, q, hq⟩ := walkL_mem hx
      obtain ⟨y, hy, rfl⟩ := List.mem_map.1 hf
      obtain ⟨z, hz, rfl⟩ := List.mem_map.1 hy
      exact ih z hz q x hq n' s' l' r' e

theorem ok_low (v : V) : v.ok = true → ∀ (p : List Int), ∀ x ∈ v.walk p, ∀ n s l r, x.2 = V.mk 4 n s l r → 1 ≤ r := by
  induction v using V.ind with
  | h k n s l r ih =>
    intro ho p x hx n' s' l' r' e
    rw [V.ok_mk] at ho
    simp only [Bool.and_eq_true, List.all_eq_true] at ho
    obtain ⟨h1, h2⟩ := ho
    rw [V.walk_mk] at hx
    rcases List.mem_cons.1 hx with rfl | hx
    · simp only [V.mk.injEq] at e
      obtain ⟨rfl, rfl, rfl, rfl, rfl⟩ := e
      simp [fok] at h1
      omega
    · obtain ⟨f, hf, q, hq⟩ := walkL_mem hx
      obtain ⟨y, hy, rfl⟩ := List.mem_map.1 hf
      exact ih y hy (h2 y hy) q x hq n' s' l' r' e

theorem win_refs {last : Int} (h1 : 1 ≤ last) (v : V) : ∀ r ∈ (v.win last).refs, 1 ≤ r ∧ r ≤ last := by
  intro r hr
  unfold V.refs at hr
  split at hr
  · rename_i h
    obtain ⟨p, n, s, l, hm⟩ := refsOf_mem hr
    exact ⟨ok_low _ (may_ok h) _ _ hm _ _ _ _ rfl, win_top h1 v _ _ hm _ _ _ _ rfl⟩
  · simp at hr

/-- What look finds: -1, or how much is left. -/
def LookP (v : V) (left deep x : Int) : Prop := -1 ≤ x ∧ x ≤ 1000 ∧ (0 ≤ x → v.ok = true ∧ (v.dep : Int) ≤ deep ∧ x = left - (v.size : Int))

theorem look_may {v : V} {x : Int} (h : LookP v 512 16 x) (h0 : 0 ≤ x) : v.may = true := by
  obtain ⟨a, b, c⟩ := h.2.2 h0
  simp [V.may, V.fits, a]
  omega

/-- Where look's loop stands. -/
def LookI (l : List V) (left deep x : Int) (j : Nat) : Prop := 0 ≤ x ∧ (∀ y ∈ l.take j, y.ok = true ∧ (y.dep : Int) ≤ deep - 1) ∧ x = left - 1 - (sizeTo l j : Int)

theorem looki_step {l : List V} {left deep x y : Int} {j : Nat} (h : LookI l left deep x j) (hj : j < l.length) (hy : LookP l[j] x (deep - 1) y) (h0 : 0 ≤ y) : LookI l left deep y (j + 1) := by
  obtain ⟨a, b, c⟩ := hy.2.2 h0
  obtain ⟨h1, h2, h3⟩ := h
  refine ⟨h0, fun z hz => ?_, ?_⟩
  · rw [List.take_succ_eq_append_getElem hj, List.mem_append] at hz
    rcases hz with hz | hz
    · exact h2 z hz
    · simp at hz; subst hz; exact ⟨a, b⟩
  · rw [sizeTo_succ l j hj]
    omega

theorem looki_end {k n : Int} {s : ByteArray} {l : List V} {r left deep x : Int} (h : LookI l left deep x l.length) (hf : fok k n s l.length r = true) (hd : k = 3 → 1 ≤ deep) (hd0 : 0 ≤ deep) (hl : left ≤ 512) : LookP (.mk k n s l r) left deep x := by
  obtain ⟨h1, h2, h3⟩ := h
  rw [List.take_of_length_le (Nat.le_refl _)] at h2
  rw [sizeTo_all] at h3
  refine ⟨by omega, by omega, fun _ => ⟨?_, ?_, ?_⟩⟩
  · rw [V.ok_mk, hf, Bool.true_and, List.all_eq_true]
    exact fun y hy => (h2 y hy).1
  · rw [V.dep_mk]
    split
    · rename_i hk
      have := hd hk
      have : top (l.map V.dep) ≤ (deep - 1).toNat := top_le fun d hd => by
        obtain ⟨y, hy, rfl⟩ := List.mem_map.1 hd
        have := (h2 y hy).2
        omega
      omega
    · omega
  · rw [V.size_mk]; omega

end Go.Proofs.Ytnddfiohofnbaaa

/- world.New, of one parent. -/
namespace Go.Proofs.Ytnddfiohofnbaaa
open Go.RowKit

theorem side_info : (Try.prog.info? 27).map (fun i => (i.zero, i.size, i.bytes)) = some (some (.int .i64 0), 1, 8) := by kernel_rfl

set_option maxRecDepth 100000 in
/-- append([]Side{}, from...), one side. -/
theorem run_clone_side {b : Nat} (w : World) (h : w.cell? ⟨b, 0, none⟩ = some (.int .i64 0)) (hb : b < w.heap.size) (ty : TypeId) :
    ∃ A c w', (Builtin.append_ #[54, 54] ty #[.slice (some ⟨w.heap.size, 0, none⟩) 0 0, .slice (some ⟨b, 0, none⟩) 1 1]).run Try.prog (w.alloc (.cells #[] 27)) = .ok (.slice A 1 c) w' ∧ Fr No w w' := by
  obtain ⟨i0, hi0, hz0, hz1, hz2⟩ := info_parts side_info
  have fr := (Fr.refl No w).alloc (.cells #[] 27)
  have hown : (w.alloc (.cells #[] 27)).ownsRow w.heap.size 27 1 (.slice (some ⟨w.heap.size, 0, none⟩) 0 0) 0 [] :=
    ⟨rfl, .inr ⟨w.heap.size, 0, #[], rfl, Nat.le_refl _, heap_alloc_new w _, Nat.le_refl _, by unfold maxLen; omega, rfl, rfl⟩⟩
  obtain ⟨g, c, w', hrun, hown', hgr, hat, hlt⟩ := run_append_lies (P := Try.prog) (w.alloc (.cells #[] 27)) 54 ty w.heap.size 27 i0 _ 1 8 Try.underlying54 hi0 hz0 hz1 hz2 rfl (by omega) (.slice (some ⟨w.heap.size, 0, none⟩) 0 0) 0 [] hown ⟨b, 0, none⟩ 1 1 [.int .i64 0] rfl (fun j u hu => by
    obtain ⟨rfl, rfl⟩ : j = 0 ∧ u = .int .i64 0 := by
      cases j with
      | zero => simp at hu; exact ⟨rfl, hu.symm⟩
      | succ j => simp at hu
    rw [add_at, fr.cell (b := b) (by omega) (fun h => h)]
    exact h) (by simp [Value.oneCell']) (by omega) (by unfold maxLen; omega) (by omega) (by simp) _ rfl
  exact ⟨some ⟨g, 0, none⟩, c, w', by simpa using hrun, fr.trans' (fr_grown hgr) (fun i hi h => by simp [Value.ownBlock] at h; omega)⟩

set_option maxRecDepth 100000 in
theorem cloneS_one {b : Nat} (w : World) (h : w.cell? ⟨b, 0, none⟩ = some (.int .i64 0)) (hb : b < w.heap.size) :
    Calls Try.prog 36 #[.slice (some ⟨b, 0, none⟩) 1 1] w fun e w' => ∃ A c, e = .returned (.slice A 1 c) ∧ Fr No w w' := by
  have heq := fun (w : World) (A : Option Addr) (n c : Nat) => Lib.run_eql_slice_nil (P := Try.prog) w 54 27 A n c 0 0 Try.underlying54
  obtain ⟨A, c, w', hrun, hf⟩ := run_clone_side w h hb 54
  have HF := hide hf
  clear hf h
  go_enter Try.func36, Try.ntmps36
  go_wp2_with (at_builtin; (refine wpList_plain rfl fun K hK => ?_); unfold Oper.wp; simp [execOp, resolve, invoke, builtin, hrun, Result.andThen, Act.eval]; refine hK _ _ ?_)
  go_ret
  exact ⟨A, c, rfl, HF.out⟩

theorem mk2_bool : ∀ w : World, (Instr.makeSlice 72 (.int .i64 2) (.int .i64 2)).run Try.prog w = .ok (.slice (some ⟨w.heap.size, 0, none⟩) 2 2) (w.alloc (.cells #[.bool false, .bool false] 4)) := fun w => by
  have h := run_make_row' (P := Try.prog) 72 4 (.bool false) 1 Try.underlying72 (by kernel_rfl) rfl .i64 .i64 2 (by decide) (by decide) w
  have e : madeCells #[Value.bool false] 2 = #[Value.bool false, Value.bool false] := by kernel_rfl
  rw [e] at h
  exact h

theorem mk2_int : ∀ w : World, (Instr.makeSlice 43 (.int .i64 2) (.int .i64 2)).run Try.prog w = .ok (.slice (some ⟨w.heap.size, 0, none⟩) 2 2) (w.alloc (.cells #[.int .i64 0, .int .i64 0] 3)) := fun w => by
  have h := run_make_row' (P := Try.prog) 43 3 (.int .i64 0) 8 Try.underlying43 (by kernel_rfl) rfl .i64 .i64 2 (by decide) (by decide) w
  have e : madeCells #[Value.int .i64 0] 2 = #[Value.int .i64 0, Value.int .i64 0] := by kernel_rfl
  rw [e] at h
  exact h

def kE (av : Value) (pv : Value) (g : Nat → Nat) : Nat → Value
  | 0 => av
  | 1 => pv
  | 2 => .int .i64 2
  | 3 => .slice (some ⟨g 3, 0, none⟩) 2 2
  | 4 => .int .i64 2
  | 5 => .slice (some ⟨g 5, 0, none⟩) 2 2
  | 6 => .map (some (g 6))
  | 7 => .map (some (g 7))
  | 8 => .agg #[pv, .slice (some ⟨g 3, 0, none⟩) 2 2, .map (some (g 6)), .map (some (g 7)), .int .i64 0, .slice (some ⟨g 5, 0, none⟩) 2 2]
  | 9 => .pointer (some ⟨g 9, 0, none⟩)
  | 10 => .pointer (some ⟨g 9, 0, none⟩)
  | 11 => .int .i64 0
  | _ => undef

/-- What an operation has made. -/
def kB (pv : Value) (g : Nat → Nat) (w : World) : Nat → Prop
  | 3 => w.heap[g 3]? = some (.cells #[.bool false, .bool false] 4 (0, 0))
  | 5 => w.heap[g 5]? = some (.cells #[.int .i64 0, .int .i64 0] 3 (0, 0))
  | 6 => w.heap[g 6]? = some (.map #[] 0)
  | 7 => w.heap[g 7]? = some (.map #[] 0)
  | 9 => w.heap[g 9]? = some (.cells #[pv, .slice (some ⟨g 3, 0, none⟩) 2 2, .map (some (g 6)), .map (some (g 7)), .int .i64 0, .slice (some ⟨g 5, 0, none⟩) 2 2] 76 (0, 0))
  | _ => True

structure NK (av : Value) (W0 : World) (f : Nat → Bool) (x : List Value) (pv : Value) (g : Nat → Nat) (w : World) : Prop where
  fr : Fr No W0 w
  x : ∀ j, f j = true → x.getD j undef = kE av pv g j
  b : ∀ j, f j = true → kB pv g w j
  lo : ∀ j, f j = true → (j = 3 ∨ j = 5 ∨ j = 6 ∨ j = 7 ∨ j = 9) → W0.heap.size ≤ g j ∧ g j < w.heap.size
  ne : f 6 = true → f 7 = true → g 6 ≠ g 7
  c8 : f 8 = true → f 1 = true ∧ f 3 = true ∧ f 5 = true ∧ f 6 = true ∧ f 7 = true
  c9 : f 9 = true → f 8 = true
  c10 : f 10 = true → f 9 = true

theorem NK.begin (av pv : Value) (W0 : World) (x : List Value) : NK av W0 (fun _ => false) x pv (fun _ => 0) W0.drew :=
  ⟨(Fr.refl No W0).drew, nofun, nofun, nofun, nofun, nofun, nofun, nofun⟩

/-- An operation that makes nothing. -/
theorem NK.quiet {av pv : Value} {W0 w : World} {f : Nat → Bool} {x : List Value} {g : Nat → Nat} (h : NK av W0 f x pv g w) {i : Nat} (hi : i ≠ 1 ∧ i ≠ 3 ∧ i ≠ 5 ∧ i ≠ 6 ∧ i ≠ 7 ∧ i ≠ 9) (hx : i < x.length) (h8 : i = 8 → f 1 = true ∧ f 3 = true ∧ f 5 = true ∧ f 6 = true ∧ f 7 = true) (h10 : i = 10 → f 9 = true) : NK av W0 (upd f i) (x.set i (kE av pv g i)) pv g w := by
  have hu : ∀ j, upd f i j = true → j = i ∨ f j = true := fun j hj => by
    by_cases hji : j = i
    · exact .inl hji
    · exact .inr (by rwa [upd_ne hji] at hj)
  have hk : ∀ j, f j = true → upd f i j = true := fun j hj => by
    by_cases hji : j = i
    · rw [hji]; exact upd_eq
    · rwa [upd_ne hji]
  refine ⟨h.fr, fun j hj => ?_, fun j hj => ?_, fun j hj hjj => ?_, fun h6 h7 => ?_, fun h8' => ?_, fun h9' => ?_, fun h10' => ?_⟩
  · rcases hu j hj with rfl | hj
    · simp [List.getD_eq_getElem?_getD, hx]
    · by_cases hji : j = i
      · subst hji; simp [List.getD_eq_getElem?_getD, hx]
      · rw [← h.x j hj, List.getD_eq_getElem?_getD, List.getD_eq_getElem?_getD, List.getElem?_set_ne (fun e => hji e.symm)]
  · rcases hu j hj with rfl | hj
    · unfold kB
      split <;> first | trivial | omega
    · exact h.b j hj
  · rcases hu j hj with rfl | hj
    · omega
    · exact h.lo j hj hjj
  · rw [upd_ne (by omega)] at h6 h7
    exact h.ne h6 h7
  · rcases hu 8 h8' with hh | hh
    · obtain ⟨z, a, b, c, d⟩ := h8 hh.symm
      exact ⟨hk _ z, hk _ a, hk _ b, hk _ c, hk _ d⟩
    · obtain ⟨z, a, b, c, d⟩ := h.c8 hh
      exact ⟨hk _ z, hk _ a, hk _ b, hk _ c, hk _ d⟩
  · rw [upd_ne (by omega)] at h9'
    exact hk _ (h.c9 h9')
  · rcases hu 10 h10' with hh | hh
    · exact hk _ (h10 hh.symm)
    · exact hk _ (h.c10 hh)

theorem kB_alloc {pv : Value} {g : Nat → Nat} {w : World} {o : Obj} (j : Nat) (h : kB pv g w j) (hlt : (j = 3 ∨ j = 5 ∨ j = 6 ∨ j = 7 ∨ j = 9) → g j < w.heap.size) : kB pv g (w.alloc o) j := by
  unfold kB at h ⊢
  split
  · exact (Below.heap_alloc _ _ _ (hlt (by simp))).trans h
  · exact (Below.heap_alloc _ _ _ (hlt (by simp))).trans h
  · exact (Below.heap_alloc _ _ _ (hlt (by simp))).trans h
  · exact (Below.heap_alloc _ _ _ (hlt (by simp))).trans h
  · exact (Below.heap_alloc _ _ _ (hlt (by simp))).trans h
  · trivial

/-- An operation that makes a block. -/
theorem NK.make {av pv : Value} {W0 w : World} {f : Nat → Bool} {x : List Value} {g : Nat → Nat} (h : NK av W0 f x pv g w) {i : Nat} {o : Obj} (hi : i = 3 ∨ i = 5 ∨ i = 6 ∨ i = 7) (hf : f i = false) (hx : i < x.length) (ho : kB pv (gset g i w.heap.size) (w.alloc o) i) : NK av W0 (upd f i) (x.set i (kE av pv (gset g i w.heap.size) i)) pv (gset g i w.heap.size) (w.alloc o) := by
  have h8 : f 8 = false := by
    cases h8 : f 8 with
    | false => rfl
    | true =>
      obtain ⟨z, a, b, c, d⟩ := h.c8 h8
      rcases hi with rfl | rfl | rfl | rfl <;> simp_all
  have h9 : f 9 = false := by
    cases h9 : f 9 with
    | false => rfl
    | true => rw [h.c9 h9] at h8; cases h8
  have h10 : f 10 = false := by
    cases h10 : f 10 with
    | false => rfl
    | true => rw [h.c10 h10] at h9; cases h9
  have hs := h.fr.size
  have hu : ∀ j, upd f i j = true → j = i ∨ (j ≠ i ∧ f j = true) := fun j hj => by
    by_cases hji : j = i
    · exact .inl hji
    · exact .inr ⟨hji, by rwa [upd_ne hji] at hj⟩
  have hE : ∀ j, j ≠ i → f j = true → kE av pv (gset g i w.heap.size) j = kE av pv g j := fun j hji hj => by
    have j8 : j ≠ 8 := fun e => by subst e; rw [h8] at hj; cases hj
    have j9 : j ≠ 9 := fun e => by subst e; rw [h9] at hj; cases hj
    have j10 : j ≠ 10 := fun e => by subst e; rw [h10] at hj; cases hj
    unfold kE
    split <;> first | rfl | omega | (rw [gset_ne hji])
  have hBk : ∀ j, j ≠ i → f j = true → kB pv (gset g i w.heap.size) w j := fun j hji hj => by
    have hb := h.b j hj
    have j9 : j ≠ 9 := fun e => by subst e; rw [h9] at hj; cases hj
    unfold kB at hb ⊢
    split <;> first | trivial | omega | (rw [gset_ne hji]; exact hb)
  refine ⟨h.fr.alloc _, fun j hj => ?_, fun j hj => ?_, fun j hj hjj => ?_, fun h6 h7 => ?_, fun h8' => ?_, fun h9' => ?_, fun h10' => ?_⟩
  · rcases hu j hj with rfl | ⟨hji, hj⟩
    · simp [List.getD_eq_getElem?_getD, hx]
    · rw [hE j hji hj, ← h.x j hj, List.getD_eq_getElem?_getD, List.getD_eq_getElem?_getD, List.getElem?_set_ne (fun e => hji e.symm)]
  · rcases hu j hj with rfl | ⟨hji, hj⟩
    · exact ho
    · exact kB_alloc j (hBk j hji hj) fun hjj => by rw [gset_ne hji]; exact (h.lo j hj hjj).2
  · rcases hu j hj with rfl | ⟨hji, hj⟩
    · rw [gset_eq]; simp; omega
    · rw [gset_ne hji]
      have := h.lo j hj hjj
      simp; omega
  · rcases hu 6 h6 with e6 | ⟨n6, f6⟩ <;> rcases hu 7 h7 with e7 | ⟨n7, f7⟩
    · omega
    · subst e6
      rw [gset_eq, gset_ne n7]
      have := h.lo 7 f7 (by simp)
      omega
    · subst e7
      rw [gset_eq, gset_ne n6]
      have := h.lo 6 f6 (by simp)
      omega
    · rw [gset_ne n6, gset_ne n7]
      exact h.ne f6 f7
  · rcases hu 8 h8' with e | ⟨-, e⟩
    · omega
    · rw [h8] at e; cases e
  · rcases hu 9 h9' with e | ⟨-, e⟩
    · omega
    · rw [h9] at e; cases e
  · rcases hu 10 h10' with e | ⟨-, e⟩
    · omega
    · rw [h10] at e; cases e

theorem kB_fr {pv : Value} {g : Nat → Nat} {w w' : World} (f : Fr No w w') (j : Nat) (h : kB pv g w j) (hlt : (j = 3 ∨ j = 5 ∨ j = 6 ∨ j = 7 ∨ j = 9) → g j < w.heap.size) : kB pv g w' j := by
  unfold kB at h ⊢
  split
  · exact (f.block _ (hlt (by simp)) (fun h => h)).trans h
  · exact (f.block _ (hlt (by simp)) (fun h => h)).trans h
  · exact (f.block _ (hlt (by simp)) (fun h => h)).trans h
  · exact (f.block _ (hlt (by simp)) (fun h => h)).trans h
  · exact (f.block _ (hlt (by simp)) (fun h => h)).trans h
  · trivial

/-- The clone. -/
theorem NK.par {av pv : Value} {W0 w w' : World} {f : Nat → Bool} {x : List Value} {g : Nat → Nat} (h : NK av W0 f x pv g w) (hf : f 1 = false) (hx : 1 < x.length) (fr : Fr No w w') (pw : Value) : NK av W0 (upd f 1) (x.set 1 pw) pw g w' := by
  have h8 : f 8 = false := by
    cases h8 : f 8 with
    | false => rfl
    | true => rw [(h.c8 h8).1] at hf; cases hf
  have h9 : f 9 = false := by
    cases h9 : f 9 with
    | false => rfl
    | true => rw [h.c9 h9] at h8; cases h8
  have hu : ∀ j, upd f 1 j = true → j = 1 ∨ (j ≠ 1 ∧ f j = true) := fun j hj => by
    by_cases hji : j = 1
    · exact .inl hji
    · exact .inr ⟨hji, by rwa [upd_ne hji] at hj⟩
  have hk : ∀ j, f j = true → upd f 1 j = true := fun j hj => by
    by_cases hji : j = 1
    · rw [hji]; exact upd_eq
    · rwa [upd_ne hji]
  have hE : ∀ j, j ≠ 1 → f j = true → kE av pw g j = kE av pv g j := fun j hji hj => by
    have j8 : j ≠ 8 := fun e => by subst e; rw [h8] at hj; cases hj
    unfold kE
    split <;> first | rfl | omega
  have hBk : ∀ j, j ≠ 1 → f j = true → kB pw g w j := fun j hji hj => by
    have hb := h.b j hj
    have j9 : j ≠ 9 := fun e => by subst e; rw [h9] at hj; cases hj
    unfold kB at hb ⊢
    split <;> first | trivial | omega | exact hb
  refine ⟨h.fr.trans fr, fun j hj => ?_, fun j hj => ?_, fun j hj hjj => ?_, fun h6 h7 => ?_, fun h8' => ?_, fun h9' => ?_, fun h10' => ?_⟩
  · rcases hu j hj with rfl | ⟨hji, hj⟩
    · simp [List.getD_eq_getElem?_getD, hx, kE]
    · rw [hE j hji hj, ← h.x j hj, List.getD_eq_getElem?_getD, List.getD_eq_getElem?_getD, List.getElem?_set_ne (fun e => hji e.symm)]
  · rcases hu j hj with rfl | ⟨hji, hj⟩
    · trivial
    · exact kB_fr fr j (hBk j hji hj) fun hjj => (h.lo j hj hjj).2
  · rcases hu j hj with rfl | ⟨hji, hj⟩
    · omega
    · have := h.lo j hj hjj
      have := fr.size
      omega
  · rw [upd_ne (by omega)] at h6 h7
    exact h.ne h6 h7
  · rcases hu 8 h8' with e | ⟨-, e⟩
    · omega
    · rw [h8] at e; cases e
  · rcases hu 9 h9' with e | ⟨-, e⟩
    · omega
    · exact hk _ (h.c9 e)
  · rcases hu 10 h10' with e | ⟨-, e⟩
    · omega
    · exact hk _ (h.c10 e)

/-- The box. -/
theorem NK.box {av pv : Value} {W0 w : World} {f : Nat → Bool} {x : List Value} {g : Nat → Nat} (h : NK av W0 f x pv g w) {o : Obj} (h8 : f 8 = true) (hf : f 9 = false) (hx : 9 < x.length) (ho : kB pv (gset g 9 w.heap.size) (w.alloc o) 9) : NK av W0 (upd f 9) (x.set 9 (kE av pv (gset g 9 w.heap.size) 9)) pv (gset g 9 w.heap.size) (w.alloc o) := by
  have h10 : f 10 = false := by
    cases h10 : f 10 with
    | false => rfl
    | true => rw [h.c10 h10] at hf; cases hf
  have hs := h.fr.size
  have hu : ∀ j, upd f 9 j = true → j = 9 ∨ (j ≠ 9 ∧ f j = true) := fun j hj => by
    by_cases hji : j = 9
    · exact .inl hji
    · exact .inr ⟨hji, by rwa [upd_ne hji] at hj⟩
  have hk : ∀ j, f j = true → upd f 9 j = true := fun j hj => by
    by_cases hji : j = 9
    · rw [hji]; exact upd_eq
    · rwa [upd_ne hji]
  have hE : ∀ j, j ≠ 9 → f j = true → kE av pv (gset g 9 w.heap.size) j = kE av pv g j := fun j hji hj => by
    have j10 : j ≠ 10 := fun e => by subst e; rw [h10] at hj; cases hj
    unfold kE
    split <;> first | rfl | omega | (simp [gset])
  have hBk : ∀ j, j ≠ 9 → f j = true → kB pv (gset g 9 w.heap.size) w j := fun j hji hj => by
    have hb := h.b j hj
    unfold kB at hb ⊢
    split <;> first | trivial | omega | (rw [gset_ne hji]; exact hb)
  refine ⟨h.fr.alloc _, fun j hj => ?_, fun j hj => ?_, fun j hj hjj => ?_, fun h6 h7 => ?_, fun h8' => ?_, fun h9' => ?_, fun h10' => ?_⟩
  · rcases hu j hj with rfl | ⟨hji, hj⟩
    · simp [List.getD_eq_getElem?_getD, hx]
    · rw [hE j hji hj, ← h.x j hj, List.getD_eq_getElem?_getD, List.getD_eq_getElem?_getD, List.getElem?_set_ne (fun e => hji e.symm)]
  · rcases hu j hj with rfl | ⟨hji, hj⟩
    · exact ho
    · exact kB_alloc j (hBk j hji hj) fun hjj => by rw [gset_ne hji]; exact (h.lo j hj hjj).2
  · rcases hu j hj with rfl | ⟨hji, hj⟩
    · rw [gset_eq]; simp; omega
    · rw [gset_ne hji]
      have := h.lo j hj hjj
      simp; omega
  · rw [upd_ne (by omega)] at h6 h7
    rw [gset_ne (by omega), gset_ne (by omega)]
    exact h.ne h6 h7
  · obtain ⟨z, a, b, c, d⟩ := h.c8 h8
    exact ⟨hk _ z, hk _ a, hk _ b, hk _ c, hk _ d⟩
  · exact hk _ h8
  · exact upd_eq


set_option maxRecDepth 100000 in
set_option maxHeartbeats 4000000 in
theorem New_two {b : Nat} (W : World) (hc : W.cell? ⟨b, 0, none⟩ = some (.int .i64 0)) (hb : b < W.heap.size) : Calls Try.prog 10 #[.slice (some ⟨b, 0, none⟩) 1 1] W fun e w' => ∃ m : Wm, e = .returned (.tuple #[.pointer (some ⟨m.wb, 0, none⟩), .int .i64 0]) ∧ m.Ok W.heap.size w' ∧ m.th = [] ∧ m.made = [0, 0] ∧ (∃ g, m.D = some ⟨g, 0, none⟩ ∧ m.wb ≠ g) ∧ Fr No W w' := by
  have hmm := @run_makeMap Try.prog
  have hC := fun w (f : Fr No W w) => cloneS_one (b := b) w ((f.cell (b := b) hb (fun h => h)).trans hc) (Nat.lt_of_lt_of_le hb f.size)
  have HC := hide hC
  have hb1 := mk2_bool
  have hb2 := mk2_int
  clear hC
  go_enter Try.func10, Try.ntmps10
  go_wp2_with fail
  refine wp_loop_rounds 2 ?_
  rw [rounds_succ]
  go_wp2_with fail
  rw [rounds_succ]
  go_wp2_with fail
  clear hc
  refine wp_region_inv (I := fun a0 f a wx => ∃ y0 y1 y2 y3 y4 y5 y6 y7 y8 y9 y10 y11 A1 n1 c1 g, a = ((((((((((((a0.put (some 28) y0).put (some 29) y1).put (some 30) y2).put (some 31) y3).put (some 32) y4).put (some 33) y5).put (some 34) y6).put (some 35) y7).put (some 36) y8).put (some 37) y9).put (some 2) y10).put (some 3) y11) ∧ NK (.slice (some ⟨b, 0, none⟩) 1 1) W f [y0, y1, y2, y3, y4, y5, y6, y7, y8, y9, y10, y11] (.slice A1 n1 c1) g wx) (by kernel_rfl) (by kernel_rfl) ?st ?step ?en
  case st => exact ⟨_, _, _, _, _, _, _, _, _, _, _, _, _, _, _, _, by simp only [Act.put, List.setIfInBounds_toArray, List.set_cons_zero, List.set_cons_succ] <;> rfl, NK.begin _ (.slice none 0 0) W _⟩
  case step =>
    rintro i o f a wx ho hf hd ⟨y0, y1, y2, y3, y4, y5, y6, y7, y8, y9, y10, y11, A1, n1, c1, g, rfl, J⟩ K' hK
    have hi := (Array.getElem?_eq_some_iff.1 ho).1
    simp only [List.size_toArray, List.length_cons, List.length_nil] at hi
    have hid : i = 0 ∨ i = 1 ∨ i = 2 ∨ i = 3 ∨ i = 4 ∨ i = 5 ∨ i = 6 ∨ i = 7 ∨ i = 8 ∨ i = 9 ∨ i = 10 ∨ i = 11 := by omega
    simp only [Act.put, List.setIfInBounds_toArray, List.set_cons_zero, List.set_cons_succ]
    rcases hid with rfl | rfl | rfl | rfl | rfl | rfl | rfl | rfl | rfl | rfl | rfl | rfl
    · simp only [List.getElem?_toArray, List.getElem?_cons_succ, List.getElem?_cons_zero, Option.some.injEq] at ho; subst ho
      have HJ := hide J
      have HFI := hide hf
      clear J hd hf
      go_simp
      exact hK.out _ _ ⟨_, _, _, _, _, _, _, _, _, _, _, _, _, _, _, _, by simp only [Act.put, List.setIfInBounds_toArray, List.set_cons_zero, List.set_cons_succ] <;> rfl, HJ.out.quiet (i := 0) (by decide) (by simp) (nofun) (nofun)⟩
    · simp only [List.getElem?_toArray, List.getElem?_cons_succ, List.getElem?_cons_zero, Option.some.injEq] at ho; subst ho
      have b0 := hd ⟨0, .data⟩ (by simp) (by rfl)
      obtain rfl : y0 = .slice (some ⟨b, 0, none⟩) 1 1 := J.x 0 b0
      have HJ := hide J
      have B0 := hide b0
      have HFI := hide hf
      clear J hd hf b0
      go_simp
      refine (HC.out _ HJ.out.fr).mono ?_
      rintro e w' ⟨A2, c2, rfl, f2⟩
      have F2 := hide f2
      clear f2
      try go_simp
      exact hK.out _ _ ⟨_, _, _, _, _, _, _, _, _, _, _, _, _, _, _, _, by simp only [Act.put, List.setIfInBounds_toArray, List.set_cons_zero, List.set_cons_succ] <;> rfl, HJ.out.par HFI.out (by simp) F2.out (.slice A2 1 c2)⟩
    · simp only [List.getElem?_toArray, List.getElem?_cons_succ, List.getElem?_cons_zero, Option.some.injEq] at ho; subst ho
      have HJ := hide J
      have HFI := hide hf
      clear J hd hf
      go_simp
      exact hK.out _ _ ⟨_, _, _, _, _, _, _, _, _, _, _, _, _, _, _, _, by simp only [Act.put, List.setIfInBounds_toArray, List.set_cons_zero, List.set_cons_succ] <;> rfl, HJ.out.quiet (i := 2) (by decide) (by simp) (nofun) (nofun)⟩
    · simp only [List.getElem?_toArray, List.getElem?_cons_succ, List.getElem?_cons_zero, Option.some.injEq] at ho; subst ho
      have b2 := hd ⟨2, .data⟩ (by simp) (by rfl)
      obtain rfl : y2 = .int .i64 2 := J.x 2 b2
      have HJ := hide J
      have B2 := hide b2
      have HFI := hide hf
      clear J hd hf b2
      go_simp
      exact hK.out _ _ ⟨_, _, _, _, _, _, _, _, _, _, _, _, _, _, _, _, by simp only [Act.put, List.setIfInBounds_toArray, List.set_cons_zero, List.set_cons_succ] <;> rfl, HJ.out.make (i := 3) (by simp) HFI.out (by simp) (by show (World.alloc _ _).heap[gset g 3 wx.heap.size 3]? = _; rw [gset_eq]; exact World.alloc_heap_new _ _)⟩
    · simp only [List.getElem?_toArray, List.getElem?_cons_succ, List.getElem?_cons_zero, Option.some.injEq] at ho; subst ho
      have HJ := hide J
      have HFI := hide hf
      clear J hd hf
      go_simp
      exact hK.out _ _ ⟨_, _, _, _, _, _, _, _, _, _, _, _, _, _, _, _, by simp only [Act.put, List.setIfInBounds_toArray, List.set_cons_zero, List.set_cons_succ] <;> rfl, HJ.out.quiet (i := 4) (by decide) (by simp) (nofun) (nofun)⟩
    · simp only [List.getElem?_toArray, List.getElem?_cons_succ, List.getElem?_cons_zero, Option.some.injEq] at ho; subst ho
      have b4 := hd ⟨4, .data⟩ (by simp) (by rfl)
      obtain rfl : y4 = .int .i64 2 := J.x 4 b4
      have HJ := hide J
      have B4 := hide b4
      have HFI := hide hf
      clear J hd hf b4
      go_simp
      exact hK.out _ _ ⟨_, _, _, _, _, _, _, _, _, _, _, _, _, _, _, _, by simp only [Act.put, List.setIfInBounds_toArray, List.set_cons_zero, List.set_cons_succ] <;> rfl, HJ.out.make (i := 5) (by simp) HFI.out (by simp) (by show (World.alloc _ _).heap[gset g 5 wx.heap.size 5]? = _; rw [gset_eq]; exact World.alloc_heap_new _ _)⟩
    · simp only [List.getElem?_toArray, List.getElem?_cons_succ, List.getElem?_cons_zero, Option.some.injEq] at ho; subst ho
      have HJ := hide J
      have HFI := hide hf
      clear J hd hf
      go_simp
      exact hK.out _ _ ⟨_, _, _, _, _, _, _, _, _, _, _, _, _, _, _, _, by simp only [Act.put, List.setIfInBounds_toArray, List.set_cons_zero, List.set_cons_succ] <;> rfl, HJ.out.make (i := 6) (by simp) HFI.out (by simp) (by show (World.alloc _ _).heap[gset g 6 wx.heap.size 6]? = _; rw [gset_eq]; exact World.alloc_heap_new _ _)⟩
    · simp only [List.getElem?_toArray, List.getElem?_cons_succ, List.getElem?_cons_zero, Option.some.injEq] at ho; subst ho
      have HJ := hide J
      have HFI := hide hf
      clear J hd hf
      go_simp
      exact hK.out _ _ ⟨_, _, _, _, _, _, _, _, _, _, _, _, _, _, _, _, by simp only [Act.put, List.setIfInBounds_toArray, List.set_cons_zero, List.set_cons_succ] <;> rfl, HJ.out.make (i := 7) (by simp) HFI.out (by simp) (by show (World.alloc _ _).heap[gset g 7 wx.heap.size 7]? = _; rw [gset_eq]; exact World.alloc_heap_new _ _)⟩
    · simp only [List.getElem?_toArray, List.getElem?_cons_succ, List.getElem?_cons_zero, Option.some.injEq] at ho; subst ho
      have b1 := hd ⟨1, .data⟩ (by simp) (by rfl)
      obtain rfl : y1 = .slice A1 n1 c1 := J.x 1 b1
      have b3 := hd ⟨3, .data⟩ (by simp) (by rfl)
      obtain rfl : y3 = .slice (some ⟨g 3, 0, none⟩) 2 2 := J.x 3 b3
      have b5 := hd ⟨5, .data⟩ (by simp) (by rfl)
      obtain rfl : y5 = .slice (some ⟨g 5, 0, none⟩) 2 2 := J.x 5 b5
      have b6 := hd ⟨6, .data⟩ (by simp) (by rfl)
      obtain rfl : y6 = .map (some (g 6)) := J.x 6 b6
      have b7 := hd ⟨7, .data⟩ (by simp) (by rfl)
      obtain rfl : y7 = .map (some (g 7)) := J.x 7 b7
      have HJ := hide J
      have B1 := hide b1
      have B3 := hide b3
      have B5 := hide b5
      have B6 := hide b6
      have B7 := hide b7
      have HFI := hide hf
      clear J hd hf b1 b3 b5 b6 b7
      go_simp
      exact hK.out _ _ ⟨_, _, _, _, _, _, _, _, _, _, _, _, _, _, _, _, by simp only [Act.put, List.setIfInBounds_toArray, List.set_cons_zero, List.set_cons_succ] <;> rfl, HJ.out.quiet (i := 8) (by decide) (by simp) (fun _ => ⟨B1.out, B3.out, B5.out, B6.out, B7.out⟩) (nofun)⟩
    · simp only [List.getElem?_toArray, List.getElem?_cons_succ, List.getElem?_cons_zero, Option.some.injEq] at ho; subst ho
      have b8 := hd ⟨8, .data⟩ (by simp) (by rfl)
      obtain rfl : y8 = .agg #[.slice A1 n1 c1, .slice (some ⟨g 3, 0, none⟩) 2 2, .map (some (g 6)), .map (some (g 7)), .int .i64 0, .slice (some ⟨g 5, 0, none⟩) 2 2] := J.x 8 b8
      have HJ := hide J
      have B8 := hide b8
      have HFI := hide hf
      clear J hd hf b8
      go_simp
      exact hK.out _ _ ⟨_, _, _, _, _, _, _, _, _, _, _, _, _, _, _, _, by simp only [Act.put, List.setIfInBounds_toArray, List.set_cons_zero, List.set_cons_succ] <;> rfl, HJ.out.box B8.out HFI.out (by simp) (by show (World.alloc _ _).heap[gset g 9 wx.heap.size 9]? = _; rw [gset_eq]; exact World.alloc_heap_new _ _)⟩
    · simp only [List.getElem?_toArray, List.getElem?_cons_succ, List.getElem?_cons_zero, Option.some.injEq] at ho; subst ho
      have b9 := hd ⟨9, .data⟩ (by simp) (by rfl)
      obtain rfl : y9 = .pointer (some ⟨g 9, 0, none⟩) := J.x 9 b9
      have HJ := hide J
      have B9 := hide b9
      have HFI := hide hf
      clear J hd hf b9
      go_simp
      exact hK.out _ _ ⟨_, _, _, _, _, _, _, _, _, _, _, _, _, _, _, _, by simp only [Act.put, List.setIfInBounds_toArray, List.set_cons_zero, List.set_cons_succ] <;> rfl, HJ.out.quiet (i := 10) (by decide) (by simp) (nofun) (fun _ => B9.out)⟩
    · simp only [List.getElem?_toArray, List.getElem?_cons_succ, List.getElem?_cons_zero, Option.some.injEq] at ho; subst ho
      have HJ := hide J
      have HFI := hide hf
      clear J hd hf
      go_simp
      exact hK.out _ _ ⟨_, _, _, _, _, _, _, _, _, _, _, _, _, _, _, _, by simp only [Act.put, List.setIfInBounds_toArray, List.set_cons_zero, List.set_cons_succ] <;> rfl, HJ.out.quiet (i := 11) (by decide) (by simp) (nofun) (nofun)⟩
  case en =>
    rintro f a wx hall ⟨y0, y1, y2, y3, y4, y5, y6, y7, y8, y9, y10, y11, A1, n1, c1, g, rfl, J⟩
    simp only [Act.put, List.setIfInBounds_toArray, List.set_cons_zero, List.set_cons_succ]
    have ha : ∀ j, j < 12 → f j = true := fun j hj => hall j (by simpa using hj)
    obtain rfl : y10 = .pointer (some ⟨g 9, 0, none⟩) := J.x 10 (ha 10 (by omega))
    obtain rfl : y11 = .int .i64 0 := J.x 11 (ha 11 (by omega))
    have n3 : wx.heap[g 9]? = _ := J.b 9 (ha 9 (by omega))
    have n5 : wx.heap[g 5]? = _ := J.b 5 (ha 5 (by omega))
    have n6 : wx.heap[g 6]? = _ := J.b 6 (ha 6 (by omega))
    have n7 : wx.heap[g 7]? = _ := J.b 7 (ha 7 (by omega))
    have hne := J.ne (ha 6 (by omega)) (ha 7 (by omega))
    have l9 := J.lo 9 (ha 9 (by omega)) (by simp)
    have l5 := J.lo 5 (ha 5 (by omega)) (by simp)
    have l6 := J.lo 6 (ha 6 (by omega)) (by simp)
    have l7 := J.lo 7 (ha 7 (by omega)) (by simp)
    have hfr := J.fr
    have h95 : g 9 ≠ g 5 := fun e => by rw [e] at n3; rw [n5] at n3; simp at n3
    have H95 := hide h95
    have hok : (⟨g 9, g 6, g 7, A1, n1, c1, some ⟨g 3, 0, none⟩, 2, 2, some ⟨g 5, 0, none⟩, 2, [0, 0], [], []⟩ : Wm).Ok W.heap.size wx :=
      ⟨n3, ⟨#[], 0, n6, ⟨rfl, by simp⟩, by simp, by simp⟩, ⟨#[], 0, n7, rfl, by simp⟩, ⟨rfl, .inr ⟨g 5, 2, #[.int .i64 0, .int .i64 0], rfl, l5.1, n5, by simp, by simp [maxLen], rfl, rfl⟩⟩, by simp, by simp, ⟨l9.1, l6.1, l7.1, by simp⟩, hne, by simp, by simp, by simp, by simp⟩
    have HOK := hide hok
    have HFR := hide hfr
    clear h95 J hall ha n3 n5 n6 n7 hne l9 l5 l6 l7 hok hfr
    go_wp2_with fail
    go_ret2
    exact ⟨_, rfl, HOK.out, rfl, rfl, ⟨_, rfl, H95.out⟩, HFR.out⟩


end Go.Proofs.Ytnddfiohofnbaaa

/- Worlds: Make and Seal at the limit of a side; Len. -/
namespace Go.Proofs.Ytnddfiohofnbaaa
open Go.RowKit

set_option maxRecDepth 100000 in
set_option maxHeartbeats 8000000 in
theorem make7_lim {m : Wm} {lo : Nat} {W : World} (h : m.Ok lo W) (home : Nat) (k n : Int) (s : ByteArray) (A : Option Addr) (cap : Nat) (l : List T) (r : Int) (hs : home < m.made.length) (h512 : ¬ m.made[home] < 512) (hi : Nat) (ht : (T.mk k n s A cap l r).In W 0 hi) (hhi : hi ≤ W.heap.size) (hm : (T.mk k n s A cap l r).v.may = true) (hln : (T.mk k n s A cap l r).v.refs.length ≤ 140737488351232) (hare : m.are (T.mk k n s A cap l r).v.refs = true) (ofr : Int) {x : Nat × Th} (hg : m.get ofr = some x) (hk5 : x.2.kind = 5) (hxh : x.2.home = (home : Int)) :
    Calls Try.prog 39 #[.pointer (some ⟨m.wb, 0, none⟩), .agg (th16 7 (home : Int) k n s A l.length cap r 0 0 ofr 0 0 false)] W fun e w' => e = .returned (.tuple #[.int .i64 0, .int .i64 8]) ∧ Fr No W w' := by
  have hF := fun W' (f : Fr No W W') => form7 (h.no f) home k n s A cap l r ofr hi (ht.no f hhi) (Nat.le_trans hhi f.size) hm hs
  have hN := fun W' (f : Fr No W W') => names_w (h.no f) 7 (home : Int) k n s A cap l r 0 0 ofr 0 0 false hi (ht.no f hhi) (Nat.le_trans hhi f.size) hln
  rw [hare] at hN
  have hT := fun W' (f : Fr No W W') => fits7 (h.no f) (home : Int) k n s A l.length cap r 0 0 ofr 0 0 false hg hk5 hxh
  have hI := fun W' (f : Fr No W W') => Is_w (h.no f) ofr
  have hgi : (m.get ofr).isSome = true := by rw [hg]; rfl
  rw [hgi] at hI
  have hb0 := Blk.new W 83 (th16 7 (home : Int) k n s A l.length cap r 0 0 ofr 0 0 false)
  have hf0 := (Fr.refl No W).alloc (.cells (th16 7 (home : Int) k n s A l.length cap r 0 0 ofr 0 0 false) 83)
  have HOK := hide h
  have HF := hide hF
  have HN := hide hN
  have HT := hide hT
  have HI := hide hI
  have HB := hide hb0
  have HF0 := hide hf0
  unfold th16 at HF HN HT HB HF0 hb0 ⊢
  obtain ⟨d0, d1, d2, d3, d4, d5, d6, d7, d8, d9, d10, d11, d12, d13, d14, d15⟩ := hb0.cells16
  have dq := hb0.lt
  clear hF hN hT hb0 hf0 h hI hgi hg hk5 hxh ht hhi hm hln hare
  go_enter Try.func39, Try.ntmps39
  go_wp2_with fail
  generalize World.alloc W _ = W0 at *
  refine (none_w (HOK.out.no HF0.out)).mono ?_
  rintro e w' ⟨rfl, rfl⟩
  go_wp2_with fail
  refine (HF.out w' HF0.out).mono ?_
  rintro e w1 ⟨rfl, ff⟩
  have hb := HB.out.fr ff fun h => h
  replace HB := hide hb
  replace HF0 := hide (HF0.out.trans ff)
  clear d0 d1 d2 d3 d4 d5 d6 d7 d8 d9 d10 d11 d12 d13 d14 d15 dq ff
  obtain ⟨d0, d1, d2, d3, d4, d5, d6, d7, d8, d9, d10, d11, d12, d13, d14, d15⟩ := hb.cells16
  have dq := hb.lt
  clear hb
  go_wp2_with fail
  refine (HN.out w1 HF0.out).mono ?_
  rintro e w2 ⟨rfl, ff⟩
  have hb := HB.out.fr ff fun h => h
  replace HB := hide hb
  replace HF0 := hide (HF0.out.trans ff)
  clear d0 d1 d2 d3 d4 d5 d6 d7 d8 d9 d10 d11 d12 d13 d14 d15 dq ff
  obtain ⟨d0, d1, d2, d3, d4, d5, d6, d7, d8, d9, d10, d11, d12, d13, d14, d15⟩ := hb.cells16
  have dq := hb.lt
  clear hb
  go_wp2_with fail
  refine (asks7 w2).mono ?_
  rintro e w3 ⟨rfl, rfl⟩
  go_wp2_with fail
  refine (HI.out w3 HF0.out).mono ?_
  rintro e w4 ⟨rfl, rfl⟩
  go_wp2_with fail
  refine (by5 7 (by simp) w4).mono ?_
  rintro e w5 ⟨rfl, rfl⟩
  go_wp2_with fail
  refine (HT.out w5 HF0.out).mono ?_
  rintro e w6 ⟨rfl, ff⟩
  have hb := HB.out.fr ff fun h => h
  replace HB := hide hb
  replace HF0 := hide (HF0.out.trans ff)
  clear d0 d1 d2 d3 d4 d5 d6 d7 d8 d9 d10 d11 d12 d13 d14 d15 dq ff
  obtain ⟨d0, d1, d2, d3, d4, d5, d6, d7, d8, d9, d10, d11, d12, d13, d14, d15⟩ := hb.cells16
  have dq := hb.lt
  clear hb
  go_wp2_with fail
  have hok6 := HOK.out.no HF0.out
  have hz : 0 < m.made.length := by omega
  obtain ⟨gD, c, hA2, hg0, hg1⟩ := hok6.made.form hz
  simp only [Value.slice.injEq, true_and] at hA2
  have hcell : w6.cell? ⟨gD, home, none⟩ = some (.int .i64 (m.made[home] : Int)) := by
    have := World.ownsRow.cells hok6.made (g := gD) (by rw [hA2.1]; rfl) home (.int .i64 (m.made[home] : Int)) (by simp [hs])
    rwa [add_at, Nat.zero_add] at this
  have x5 : w6.cell? ⟨m.wb, 5, none⟩ = some (.slice m.D m.made.length m.dc) := by
    have := hok6.blk.cell 5
    simpa [Wm.cells] using this
  rw [hA2.1] at x5
  have xq := hok6.blk.lt
  have hlt5 : decide ((m.made[home] : Int) ≥ 512) = true := by simp; omega
  generalize hmd : m.made[home] = mv at *
  clear hok6 hz hA2
  go_region
  all_goals
    go_simp
    go_wp2_with fail
    go_ret2
    exact ⟨rfl, HF0.out.drew⟩

section
variable {m : Wm} {lo : Nat} {W : World}

set_option maxRecDepth 100000 in
set_option maxHeartbeats 4000000 in
theorem Seal_lim (h : m.Ok lo W) (home : Nat) (hs : home < m.made.length) (h512 : ¬ m.made[home] < 512) {sr : Int} {x : Nat × Th} (hg : m.get sr = some x) (hk5 : x.2.kind = 5) (hxh : x.2.home = (home : Int))
    (t : T) (hi : Nat) (ht : t.In W 0 hi) (hhi : hi ≤ W.heap.size) (hm : t.v.may = true) (hln : t.v.refs.length ≤ 140737488351232) (hare : m.are t.v.refs = true) :
    Calls Try.prog 13 #[.pointer (some ⟨m.wb, 0, none⟩), .int .i64 sr, t.val] W fun e w' => e = .returned (.tuple #[.int .i64 0, .int .i64 8]) ∧ Fr No W w' := by
  have hM := fun W' (f : Fr No W W') => may_any t W' 0 hi (ht.no f hhi) (Nat.le_trans hhi f.size)
  have hR := fun W' (f : Fr No W W') => srefs_yes (h.no f) t hi (ht.no f hhi) (Nat.le_trans hhi f.size) hln hare
  have hI := fun W' (f : Fr No W W') => Is_w (h.no f) sr
  have hK := fun W' (f : Fr No W W') => Kind_w (h.no f) sr
  have hH := fun W' (f : Fr No W W') => Home_w (h.no f) hg (by rw [hk5]; decide)
  have hgi : (m.get sr).isSome = true := by rw [hg]; rfl
  have hgk : m.kind sr = 5 := by unfold Wm.kind; rw [hg, ← hk5]; rfl
  rw [hgi] at hI
  rw [hgk] at hK
  rw [hxh] at hH
  rw [hm] at hM
  obtain ⟨k, n, s, A, cap, l, r⟩ := t
  have hmk := fun W' (f : Fr No W W') => make7_lim (h.no f) home k n s A cap l r hs h512 hi (ht.no f hhi) (Nat.le_trans hhi f.size) hm hln hare sr hg hk5 hxh
  unfold th16 at hmk
  rw [T.val_mk] at *
  generalize (T.mk k n s A cap l r).v = u at *
  have HTh := hide fun W' (f : Fr No W W') => there_w (h.no f)
  have HM := hide hM
  have HR := hide hR
  have HI := hide hI
  have HK := hide hK
  have HH := hide hH
  have HMK := hide hmk
  have hb0 := Blk.new W 37 #[.int .u8 k, .int .i64 n, .string s, .slice A l.length cap, .int .i64 r]
  have hf0 := (Fr.refl No W).alloc (.cells #[.int .u8 k, .int .i64 n, .string s, .slice A l.length cap, .int .i64 r] 37)
  obtain ⟨e0, e1, e2, e3, e4, ef⟩ := hb0.cells5
  have eq_ := hb0.lt
  have HB := hide hb0
  have HF := hide hf0
  clear hM hR hI hK hH hmk hb0 hf0 hgi hgk h ht hhi hm hln hare hg hk5 hxh
  go_enter Try.func13, Try.ntmps13
  go_wp2_with fail
  generalize World.alloc W _ = W0 at *
  refine (HTh.out W0 HF.out).mono ?_
  rintro e w' ⟨rfl, rfl⟩
  go_wp2_with fail
  refine (HM.out w' HF.out).mono ?_
  rintro e w1 ⟨rfl, ff⟩
  have hb := HB.out.fr ff fun h => h
  replace HB := hide hb
  replace HF := hide (HF.out.trans ff)
  clear e0 e1 e2 e3 e4 ef eq_ ff
  obtain ⟨e0, e1, e2, e3, e4, ef⟩ := hb.cells5
  have eq_ := hb.lt
  clear hb
  go_wp2_with fail
  refine (HI.out w1 HF.out).mono ?_
  rintro e w2 ⟨rfl, rfl⟩
  go_wp2_with fail
  refine (HR.out w2 HF.out).mono ?_
  rintro e w3 ⟨rfl, ff⟩
  have hb := HB.out.fr ff fun h => h
  replace HB := hide hb
  replace HF := hide (HF.out.trans ff)
  clear e0 e1 e2 e3 e4 ef eq_ ff
  obtain ⟨e0, e1, e2, e3, e4, ef⟩ := hb.cells5
  have eq_ := hb.lt
  clear hb
  go_wp2_with fail
  refine (HK.out w3 HF.out).mono ?_
  rintro e w4 ⟨rfl, rfl⟩
  go_wp2_with fail
  refine (HH.out w4 HF.out).mono ?_
  rintro e w5 ⟨rfl, rfl⟩
  go_wp2_with fail
  refine (HMK.out w5 HF.out).mono ?_
  rintro e w6 ⟨rfl, fr⟩
  have HFR := hide (HF.out.trans fr)
  clear fr e0 e1 e2 e3 e4 ef eq_
  go_wp2_with fail
  go_ret2
  exact ⟨rfl, HFR.out⟩

set_option maxRecDepth 100000 in
theorem Len_w (h : m.Ok lo W) : Calls Try.prog 14 #[.pointer (some ⟨m.wb, 0, none⟩)] W fun e w' => e = .returned (.int .i64 (m.th.length : Int)) ∧ w' = W := by
  have hN := none_w h
  have c0 := h.blk.cell 2
  simp only [Wm.cells, List.getElem?_toArray, List.getElem?_cons_zero, List.getElem?_cons_succ] at c0
  obtain ⟨es, cl, hm, he, -⟩ := h.things
  have hl : es.size = m.th.length := by rw [← he.1]; simp
  rw [← hl]
  have hrun := fun ty => run_len_map (P := Try.prog) (w := W) 73 ty m.M es cl (by kernel_rfl) hm
  clear h he hl
  go_enter Try.func14, Try.ntmps14
  go_wp2_with fail
  refine hN.mono ?_
  rintro e w' ⟨rfl, rfl⟩
  go_wp2
  go_ret
  exact ⟨rfl, rfl⟩
end

end Go.Proofs.Ytnddfiohofnbaaa

/- SealMany: a world of two sides, whose first side gets box after box. -/
namespace Go.Proofs.Ytnddfiohofnbaaa
open Go.RowKit

/-- A world of two sides, with k things on its first one, of which the first is a sealer. -/
structure SM (m : Wm) (wb gD g1 : Nat) (t1 : T) (k : Nat) : Prop where
  wb : m.wb = wb
  D : m.D = some ⟨gD, 0, none⟩
  made : m.made = [k, 0]
  th : m.th.length = k
  get1 : m.get 1 = some (g1, ⟨5, 0, t1, 0, 0, 0, 0, 0, false⟩)
  ofr : ∀ x ∈ m.th, x.2.ofr ≤ (m.th.length : Int)

section
variable {m : Wm} {wb gD g1 k lo : Nat} {t1 : T} {W : World}

theorem SM.add (h : SM m wb gD g1 t1 k) (hk : 1 ≤ k) (g : Nat) (t' : T) : SM (m.add g ⟨7, 0, t', 0, 0, 1, 0, 0, false⟩ 0) wb gD g1 t1 (k + 1) := by
  refine ⟨h.wb, h.D, by simp [Wm.add, h.made], by rw [add_len, h.th], add_get_old h.get1, fun x hx => ?_⟩
  rw [add_len]
  rcases List.mem_append.1 hx with hx | hx
  · have := h.ofr x hx
    omega
  · simp only [List.mem_singleton] at hx
    subst hx
    simp
    omega

theorem SM.pair (h : m.wb = wb) (hD : m.D = some ⟨gD, 0, none⟩) (hm : m.made = [0, 0]) (ht : m.th = []) (g1 g2 : Nat) (t1 t2 : T) : SM (m.pair g1 g2 t1 t2 0) wb gD g1 t1 2 := by
  refine ⟨h, hD, by simp [Wm.pair, Wm.add, hm], by rw [pair_len, ht]; rfl, ?_, pair_ofr (by rw [ht]; simp)⟩
  have := pair_sealer (m := m) (g1 := g1) (g2 := g2) (t1 := t1) (t2 := t2) (s := 0)
  rw [ht] at this
  exact this

theorem SM.cell (h : SM m wb gD g1 t1 k) (hok : m.Ok lo W) : W.cell? ⟨gD, 0, none⟩ = some (.int .i64 (k : Int)) := by
  have := World.ownsRow.cells hok.made (g := gD) (by rw [h.D]; rfl) 0 (.int .i64 (k : Int)) (by simp [h.made])
  rwa [add_at, Nat.zero_add] at this

theorem SM.made_w (h : SM m wb gD g1 t1 k) (hok : m.Ok lo W) : Calls Try.prog 12 #[.pointer (some ⟨wb, 0, none⟩), .int .i64 0] W fun e w' => e = .returned (.int .i64 (k : Int)) ∧ w' = W := by
  obtain rfl := h.wb
  have := Made_w hok (s := 0) (by rw [h.made]; simp)
  simpa [h.made] using this

theorem SM.len_w (h : SM m wb gD g1 t1 k) (hok : m.Ok lo W) : Calls Try.prog 14 #[.pointer (some ⟨wb, 0, none⟩)] W fun e w' => e = .returned (.int .i64 (k : Int)) ∧ w' = W := by
  obtain rfl := h.wb
  have := Len_w hok
  rwa [h.th] at this

theorem zeroV_val : T.zero.val = .agg #[.int .u8 0, .int .i64 0, .string ⟨#[]⟩, .slice none 0 0, .int .i64 0] := rfl

theorem SM.seal_w (h : SM m wb gD g1 t1 k) (hk : 1 ≤ k) (hk2 : k < 512) (hok : m.Ok lo W) (hlo : lo ≤ W.heap.size) :
    Calls Try.prog 13 #[.pointer (some ⟨wb, 0, none⟩), .int .i64 1, .agg #[.int .u8 0, .int .i64 0, .string ⟨#[]⟩, .slice none 0 0, .int .i64 0]] W fun e w' => (∃ r, e = .returned (.tuple #[.int .i64 r, .int .i64 0])) ∧ ∃ m', SM m' wb gD g1 t1 (k + 1) ∧ m'.Ok lo w' ∧ Fr (fun i => lo ≤ i) W w' := by
  obtain rfl := h.wb
  have hzv : T.zero.v.may = true := by rw [T.zero_v, zero_may]
  have hs : 0 < m.made.length := by rw [h.made]; simp
  have hm0 : m.made[0] = k := by simp [h.made]
  have := Seal_ok hok hlo 0 hs (by rw [hm0]; exact hk2) (by rw [h.th]; omega) h.get1 rfl rfl T.zero W.heap.size (T.zero_ow W 0 W.heap.size).inn (Nat.le_refl _) hzv (by rw [T.zero_v, zero_refs]; simp) (by rw [T.zero_v, zero_refs]; rfl)
  rw [zeroV_val] at this
  refine this.mono ?_
  rintro e w' ⟨rfl, g, t', -, q2, q3, -⟩
  exact ⟨⟨_, rfl⟩, _, h.add hk g t', q2, q3.mono fun i _ hi => (hok.lt i hi).1⟩

theorem SM.seal_lim (h : SM m wb gD g1 t1 k) (hk2 : ¬ k < 512) (hok : m.Ok lo W) :
    Calls Try.prog 13 #[.pointer (some ⟨wb, 0, none⟩), .int .i64 1, .agg #[.int .u8 0, .int .i64 0, .string ⟨#[]⟩, .slice none 0 0, .int .i64 0]] W fun e w' => e = .returned (.tuple #[.int .i64 0, .int .i64 8]) ∧ Fr No W w' := by
  obtain rfl := h.wb
  have hzv : T.zero.v.may = true := by rw [T.zero_v, zero_may]
  have hs : 0 < m.made.length := by rw [h.made]; simp
  have hm0 : m.made[0] = k := by simp [h.made]
  have := Seal_lim hok 0 hs (by rw [hm0]; exact hk2) h.get1 rfl rfl T.zero W.heap.size (T.zero_ow W 0 W.heap.size).inn (Nat.le_refl _) hzv (by rw [T.zero_v, zero_refs]; simp) (by rw [T.zero_v, zero_refs]; rfl)
  rwa [zeroV_val] at this

theorem SM.pair_lim (h : SM m wb gD g1 t1 k) (hk2 : 510 < k) (hok : m.Ok lo W) :
    Calls Try.prog 11 #[.pointer (some ⟨wb, 0, none⟩), .int .i64 0] W fun e w' => e = .returned (.tuple #[.int .i64 0, .int .i64 0, .int .i64 8]) ∧ w' = W := by
  obtain rfl := h.wb
  have hs : 0 < m.made.length := by rw [h.made]; simp
  have hm0 : m.made[0] = k := by simp [h.made]
  exact Pair_limit hok 0 hs (by rw [hm0]; omega)

theorem SM.pair_w (h : SM m wb gD g1 t1 k) (hk : k ≤ 600) (hok : m.Ok lo W) (hlo : lo ≤ W.heap.size) :
    Calls Try.prog 11 #[.pointer (some ⟨wb, 0, none⟩), .int .i64 1] W fun e w' => (∃ a b, e = .returned (.tuple #[.int .i64 a, .int .i64 b, .int .i64 0])) ∧ Fr (fun i => lo ≤ i) W w' := by
  obtain rfl := h.wb
  have hs : 1 < m.made.length := by rw [h.made]; simp
  have hm0 : m.made[1] = 0 := by simp [h.made]
  refine (Pair_ok hok hlo 1 hs (by rw [hm0]; omega) (by rw [h.th]; omega) h.ofr).mono ?_
  rintro e w' ⟨rfl, g1, g2, t1, t2, h1, h2, h3, h4, -⟩
  exact ⟨⟨_, _, rfl⟩, h4.mono fun i _ hi => (hok.lt i hi).1⟩
end

end Go.Proofs.Ytnddfiohofnbaaa

/- SealMany: its walk. -/
namespace Go.Proofs.Ytnddfiohofnbaaa
open Go.RowKit

/-- Where its loop stands. -/
def SMAt (W : World) (lo wb gD : Nat) (k : Nat) (wr : World) : Prop := ∃ m g1 t1, SM m wb gD g1 t1 k ∧ 2 ≤ k ∧ k ≤ 512 ∧ m.Ok lo wr ∧ Fr No W wr

section
variable {W wr : World} {lo wb gD k : Nat}

theorem SMAt.made (h : SMAt W lo wb gD k wr) : Calls Try.prog 12 #[.pointer (some ⟨wb, 0, none⟩), .int .i64 0] wr fun e w' => e = .returned (.int .i64 (k : Int)) ∧ w' = wr := by
  obtain ⟨m, g1, t1, hs, h1, h2, hok, f⟩ := h
  exact hs.made_w hok

theorem SMAt.cell (h : SMAt W lo wb gD k wr) : wr.cell? ⟨gD, 0, none⟩ = some (.int .i64 (k : Int)) := by
  obtain ⟨m, g1, t1, hs, h1, h2, hok, f⟩ := h
  exact hs.cell hok

theorem SMAt.seal_ (h : SMAt W lo wb gD k wr) (hk : k < 512) (hlo : lo = W.heap.size + 1) (hlw : lo ≤ wr.heap.size) : Calls Try.prog 13 #[.pointer (some ⟨wb, 0, none⟩), .int .i64 1, .agg #[.int .u8 0, .int .i64 0, .string ⟨#[]⟩, .slice none 0 0, .int .i64 0]] wr fun e w' => (∃ r, e = .returned (.tuple #[.int .i64 r, .int .i64 0])) ∧ SMAt W lo wb gD (k + 1) w' ∧ lo ≤ w'.heap.size := by
  obtain ⟨m, g1, t1, hs, h1, h2, hok, f⟩ := h
  refine (hs.seal_w (by omega) hk hok hlw).mono ?_
  rintro e w' ⟨⟨r, rfl⟩, m', hs', hok', f'⟩
  exact ⟨⟨r, rfl⟩, ⟨m', g1, t1, hs', by omega, by omega, hok', f.trans' f' fun i hi hb => by have : lo ≤ i := hb; omega⟩, Nat.le_trans hlw f'.size⟩

theorem SMAt.no {wn : World} (h : SMAt W lo wb gD k wr) (f : Fr No wr wn) : SMAt W lo wb gD k wn := by
  obtain ⟨m, g1, t1, hs, h1, h2, hok, f0⟩ := h
  exact ⟨m, g1, t1, hs, h1, h2, hok.no f, f0.trans f⟩

theorem SMAt.seal_lim (h : SMAt W lo wb gD 512 wr) : Calls Try.prog 13 #[.pointer (some ⟨wb, 0, none⟩), .int .i64 1, .agg #[.int .u8 0, .int .i64 0, .string ⟨#[]⟩, .slice none 0 0, .int .i64 0]] wr fun e w' => e = .returned (.tuple #[.int .i64 0, .int .i64 8]) ∧ Fr No wr w' := by
  obtain ⟨m, g1, t1, hs, h1, h2, hok, f⟩ := h
  exact hs.seal_lim (by omega) hok

theorem SMAt.pair_lim (h : SMAt W lo wb gD 511 wr) : Calls Try.prog 11 #[.pointer (some ⟨wb, 0, none⟩), .int .i64 0] wr fun e w' => e = .returned (.tuple #[.int .i64 0, .int .i64 0, .int .i64 8]) ∧ w' = wr := by
  obtain ⟨m, g1, t1, hs, h1, h2, hok, f⟩ := h
  exact hs.pair_lim (by omega) hok

theorem SMAt.len (h : SMAt W lo wb gD k wr) : Calls Try.prog 14 #[.pointer (some ⟨wb, 0, none⟩)] wr fun e w' => e = .returned (.int .i64 (k : Int)) ∧ w' = wr := by
  obtain ⟨m, g1, t1, hs, h1, h2, hok, f⟩ := h
  exact hs.len_w hok

theorem SMAt.pair1 (h : SMAt W lo wb gD k wr) (hlo : lo = W.heap.size + 1) (hlw : lo ≤ wr.heap.size) : Calls Try.prog 11 #[.pointer (some ⟨wb, 0, none⟩), .int .i64 1] wr fun e w' => (∃ a b, e = .returned (.tuple #[.int .i64 a, .int .i64 b, .int .i64 0])) ∧ Fr No W w' := by
  obtain ⟨m, g1, t1, hs, h1, h2, hok, f⟩ := h
  refine (hs.pair_w (by omega) hok hlw).mono ?_
  rintro e w' ⟨⟨a, b, rfl⟩, f'⟩
  exact ⟨⟨a, b, rfl⟩, f.trans' f' fun i hi hb => by have : lo ≤ i := hb; omega⟩
end

set_option maxRecDepth 100000 in
set_option maxHeartbeats 8000000 in
theorem many_any (W : World) : Calls Try.prog 4 #[] W fun e w' => e = .returned (.bool true) ∧ Fr No W w' := by
  have HNew := hide (fun (b : Nat) (W : World) (hc : W.cell? ⟨b, 0, none⟩ = some (.int .i64 0)) (hb : b < W.heap.size) => New_two W hc hb)
  have HAw := hide awake9
  go_enter Try.func4, Try.ntmps4
  go_wp2_with fail
  refine (HNew.out W.heap.size _ (by simp [World.cell?_alloc_new]) (by simp)).mono ?_
  rintro e w1 ⟨m, rfl, hok, hth, hmd, ⟨gD, hD, hne⟩, f1⟩
  have f0 : Fr No W w1 := ((Fr.refl No W).alloc _).trans f1
  have hz1 : W.heap.size + 1 ≤ w1.heap.size := by have := f1.size; simpa using this
  have hs0 : 0 < m.made.length := by rw [hmd]; simp
  have hp := Pair_ok hok f1.size 0 hs0 (by simp [hmd]) (by rw [hth]; simp) (by rw [hth]; simp)
  have HP : Hid (Calls Try.prog 11 #[.pointer (some ⟨m.wb, 0, none⟩), .int .i64 0] w1 fun e w' => e = .returned (.tuple #[.int .i64 1, .int .i64 2, .int .i64 0]) ∧ SMAt W (W.heap.size + 1) m.wb gD 2 w' ∧ W.heap.size + 1 ≤ w'.heap.size) := hide (by
    refine hp.mono ?_
    rintro e w' ⟨rfl, g1, g2, t1, t2, h1, h2, h3, h4, -⟩
    rw [hth]
    refine ⟨rfl, ⟨m.pair g1 g2 t1 t2 0, g1, t1, SM.pair rfl hD hmd hth g1 g2 t1 t2, by omega, by omega, ?_, f0.trans' h4 fun i hi hb => ?_⟩, Nat.le_trans hz1 h4.size⟩
    · have : (World.alloc W (.cells #[.int .i64 0] 27)).heap.size = W.heap.size + 1 := by simp
      rw [this] at h3
      unfold Wm.pair
      exact h3
    · have := (hok.lt i hb).1
      simp at this
      omega)
  generalize m.wb = wb at *
  clear hp f0 hz1 hs0 hok hth hmd hD hne f1 HNew
  go_wp2_with fail
  refine HP.out.mono ?_
  rintro e w2 ⟨rfl, hst, hsz⟩
  clear HP
  go_wp2_with fail
  go_loopw [6] (fun _ wr => ∃ k : Nat, SMAt W (W.heap.size + 1) wb gD k wr ∧ k ≤ 511 ∧ W.heap.size + 1 ≤ wr.heap.size) (fun _ wr => 512 - (intOf ((wr.cell? ⟨gD, 0, none⟩).getD undef)).toNat)
  case atStart => exact ⟨2, hst, by omega, hsz⟩
  case round =>
    obtain ⟨k, hat, hk, hlw⟩ := hrel
    have HM := hide hat.made
    by_cases hlt : k < 511
    · have hd : decide ((k : Int) < 511) = true := by simp; omega
      have hw : IntKind.i64.wrap ((k : Int) + 1) = (k : Int) + 1 := IntWalk.i64_in _ (by omega)
      have HS := hide (hat.seal_ (by omega) rfl hlw)
      have HC := hide hat.cell
      clear hat hst hsz
      go_wp2_with fail
      refine HM.out.mono ?_
      rintro e w' ⟨rfl, rfl⟩
      go_wp2_with fail
      refine HM.out.mono ?_
      rintro e w' ⟨rfl, rfl⟩
      go_wp2_with fail
      refine HS.out.mono ?_
      rintro e w3 ⟨⟨r, rfl⟩, hat3, hlw3⟩
      have HM3 := hide hat3.made
      have HAT3 := hide hat3
      have HC3 := hide hat3.cell
      have hcst : ((k + 1 : Nat) : Int) = (k : Int) + 1 := by omega
      rw [hcst] at HM3
      clear hat3 HM HS
      go_wp2_with fail
      refine HM3.out.mono ?_
      rintro e w' ⟨rfl, rfl⟩
      go_wp2_with fail
      go_roundw
      case rel => exact ⟨k + 1, HAT3.out, by omega, hlw3⟩
      case measure => rw [HC.out, HC3.out]; simp [intOf]; omega
    · obtain rfl : 511 = k := by omega
      have HP5 := hide hat.pair_lim
      have HL5 := hide hat.len
      have HS5 := hide (hat.seal_ (by omega) rfl hlw)
      clear hat hst hsz
      go_wp2_with fail
      refine HM.out.mono ?_
      rintro e w' ⟨rfl, rfl⟩
      go_wp2_with fail
      refine HP5.out.mono ?_
      rintro e w' ⟨rfl, rfl⟩
      go_wp2_with fail
      refine HM.out.mono ?_
      rintro e w' ⟨rfl, rfl⟩
      go_wp2_with fail
      refine HL5.out.mono ?_
      rintro e w' ⟨rfl, rfl⟩
      go_wp2_with fail
      refine HS5.out.mono ?_
      rintro e w3 ⟨⟨r, rfl⟩, hat3, hlw3⟩
      have HS6 := hide hat3.seal_lim
      have HAT3 := hide hat3
      clear hat3 HS5 HM HP5 HL5
      go_wp2_with fail
      refine HS6.out.mono ?_
      rintro e w4 ⟨rfl, f4⟩
      have HP7 := hide ((HAT3.out.no f4).pair1 rfl (Nat.le_trans hlw3 f4.size))
      clear f4 HS6
      go_wp2_with fail
      refine HP7.out.mono ?_
      rintro e w5 ⟨⟨a, b, rfl⟩, f5⟩
      have HF5 := hide f5
      clear f5 HP7
      go_wp2_with fail
      refine (HAw.out w5).mono ?_
      rintro e w6 ⟨rfl, f6⟩
      go_wp2
      go_ret
      exact ⟨rfl, HF5.out.trans f6⟩

end Go.Proofs.Ytnddfiohofnbaaa

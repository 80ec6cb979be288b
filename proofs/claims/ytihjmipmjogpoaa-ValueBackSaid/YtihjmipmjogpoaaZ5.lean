/- Chapter 2: awake: its calls, each at its closed data. -/
import Derived.Test.YtihjmipmjogpoaaQ1
import Derived.Test.YtihjmipmjogpoaaW4
namespace Go.Proofs.Ytihjmipmjogpoaa
open Go.RowKit

/-- A value without a list, in memory. -/
def lf (k n : Int) (s : ByteArray) (r : Int) : T := .mk k n s none 0 [] r

theorem lf_v (k n : Int) (s : ByteArray) (r : Int) : (lf k n s r).v = .mk k n s [] r := by rw [lf, T.v_mk]; rfl
theorem lf_val (k n : Int) (s : ByteArray) (r : Int) : (lf k n s r).val = .agg #[.int .u8 k, .int .i64 n, .string s, .slice none 0 0, .int .i64 r] := rfl
theorem lf_in {k n r : Int} (w : World) (lo hi : Nat) (h0 : 0 ≤ k) (h1 : k < 256) (h2 : -100 ≤ n) (h3 : n ≤ 100) (h4 : -100 ≤ r) (h5 : r ≤ 100) : (lf k n ⟨#[]⟩ r).In w lo hi := by
  rw [lf, T.in_mk]; exact ⟨⟨h0, h1, by omega, by omega, by decide, by decide, Nat.le_refl _, by omega, by omega⟩, fun h => absurd rfl h, by simp⟩

def awC1 : Array Value := #[.int .u8 4, .int .i64 0, .string ⟨#[]⟩, .slice none 0 0, .int .i64 7]
def awC2 (g : Nat) : Array Value := #[.int .u8 1, .int .i64 1, .string ⟨#[]⟩, .slice none 0 0, .int .i64 0, .int .u8 3, .int .i64 0, .string ⟨#[]⟩, .slice (some ⟨g, 0, none⟩) 1 1, .int .i64 0]

/-- The value that awake builds, as it lies in memory. -/
def awT (g1 g2 : Nat) : T := .mk 3 0 ⟨#[]⟩ (some ⟨g2, 0, none⟩) 2 [lf 1 1 ⟨#[]⟩ 0, .mk 3 0 ⟨#[]⟩ (some ⟨g1, 0, none⟩) 1 [lf 4 0 ⟨#[]⟩ 7] 0] 0

theorem awT_v (g1 g2 : Nat) : (awT g1 g2).v = awV := by
  rw [awT, T.v_mk]; simp [lf_v, T.v_mk, awV]
theorem awT_val (g1 g2 : Nat) : (awT g1 g2).val = .agg #[.int .u8 3, .int .i64 0, .string ⟨#[]⟩, .slice (some ⟨g2, 0, none⟩) 2 2, .int .i64 0] := rfl

theorem fit3 (n : Nat) (h : n ≤ 100) : Fit 3 0 ⟨#[]⟩ n n 0 := ⟨by decide, by decide, by decide, by decide, by decide, by omega, Nat.le_refl _, by decide, by decide⟩

theorem five_cells (x : T) (c : Nat) (u : Value) (h : x.cells[c]? = some u) : c < 5 := by
  rcases Nat.lt_or_ge c 5 with hlt | hge
  · exact hlt
  · rw [List.getElem?_eq_none (by rw [T.cells_length]; exact hge)] at h; cases h

theorem awT_in {w : World} {g1 g2 lo hi : Nat} (h1 : Blk w g1 27 awC1) (h2 : Blk w g2 27 (awC2 g1)) (a : lo ≤ g1) (b : g1 < hi) (c : lo ≤ g2) (d : g2 < hi) : (awT g1 g2).In w lo hi := by
  rw [awT, T.in_mk]
  refine ⟨fit3 2 (by decide), fun _ => ⟨g2, 0, rfl, c, d, fun i x hx j u hu => ?_⟩, ?_⟩
  · have hj := five_cells x j u hu
    rw [h2.cell]
    match i, hx with
    | 0, hx =>
      simp at hx; subst hx
      match j, hu with
      | 0, hu => exact hu
      | 1, hu => exact hu
      | 2, hu => exact hu
      | 3, hu => exact hu
      | 4, hu => exact hu
      | c + 5, hu => omega
    | 1, hx =>
      simp at hx; subst hx
      match j, hu with
      | 0, hu => exact hu
      | 1, hu => exact hu
      | 2, hu => exact hu
      | 3, hu => exact hu
      | 4, hu => exact hu
      | c + 5, hu => omega
    | i + 2, hx => simp at hx
  · intro x hx
    simp at hx
    rcases hx with rfl | rfl
    · exact lf_in _ _ _ (by decide) (by decide) (by decide) (by decide) (by decide) (by decide)
    · rw [T.in_mk]
      refine ⟨fit3 1 (by decide), fun _ => ⟨g1, 0, rfl, a, b, fun i x hx j u hu => ?_⟩, ?_⟩
      · have hj := five_cells x j u hu
        rw [h1.cell]
        match i, hx with
        | 0, hx =>
          simp at hx; subst hx
          match j, hu with
          | 0, hu => exact hu
          | 1, hu => exact hu
          | 2, hu => exact hu
          | 3, hu => exact hu
          | 4, hu => exact hu
          | c + 5, hu => omega
        | i + 1, hx => simp at hx
      · intro x hx
        simp at hx
        subst hx
        exact lf_in _ _ _ (by decide) (by decide) (by decide) (by decide) (by decide) (by decide)

theorem toL0 : (⟨#[]⟩ : ByteArray).toList = [] := by rw [ByteArray.toList_eq]

theorem aw_may : awV.may = true := by simp [awV, V.may, V.fits, V.ok_mk, V.size_mk, V.dep_mk, fok, toL0, top]
theorem aw_size : awV.size = 4 := by simp [awV, V.size_mk]
theorem aw_dep : awV.dep = 2 := by simp [awV, V.dep_mk, top]
theorem aw_low : awV.low = true := by simp [awV, V.low_mk]
theorem aw_has : awV.hasBytes := (hasBytes_iff _).2 ⟨aw_may, aw_low⟩
theorem aw_encS : awV.encS = awS := by rw [encS_eq, aw_enc]; rfl
theorem aw_at : atOf awV [1, 0] = (.mk 4 0 ⟨#[]⟩ [] 7, 0) := by
  unfold atOf; rw [if_pos aw_may]; rfl

section
variable {w : World} {g1 g2 : Nat} (h1 : Blk w g1 27 awC1) (h2 : Blk w g2 27 (awC2 g1))
include h1 h2
theorem aw_in : (awT g1 g2).In w 0 w.heap.size := awT_in h1 h2 (Nat.zero_le _) h1.lt (Nat.zero_le _) h2.lt

theorem aw_bytes : Calls Try.prog 46 #[.agg #[.int .u8 3, .int .i64 0, .string ⟨#[]⟩, .slice (some ⟨g2, 0, none⟩) 2 2, .int .i64 0]] w fun e w' => e = .returned (.tuple #[.string awS, .int .i64 0]) ∧ Fr No w w' := by
  have h := Bytes_any (awT g1 g2) w 0 w.heap.size (aw_in h1 h2) (Nat.le_refl _)
  rw [awT_v, awT_val] at h
  refine h.mono fun e w' hp => ⟨?_, hp.1⟩
  rw [hp.2.1 aw_has, aw_encS]

theorem aw_atc {g : Nat} (hp : Blk w g 3 #[.int .i64 1, .int .i64 0]) : Calls Try.prog 68 #[.agg #[.int .u8 3, .int .i64 0, .string ⟨#[]⟩, .slice (some ⟨g2, 0, none⟩) 2 2, .int .i64 0], .slice (some ⟨g, 0, none⟩) 2 2] w
    fun e w' => (∃ A cap, e = .returned (.tuple #[.agg #[.int .u8 4, .int .i64 0, .string ⟨#[]⟩, .slice A 0 cap, .int .i64 7], .int .i64 0])) ∧ Fr No w w' := by
  have hI : Ints w 0 w.heap.size (some ⟨g, 0, none⟩) 2 [1, 0] := by
    refine ⟨by decide, by decide, fun _ => ⟨g, 0, rfl, Nat.zero_le _, hp.lt, fun i x hx => ?_⟩, ?_⟩
    · rw [hp.cell]
      match i, hx with
      | 0, hx => simp at hx; subst hx; rfl
      | 1, hx => simp at hx; subst hx; rfl
      | i + 2, hx => simp at hx
    · intro x hx; simp at hx; rcases hx with rfl | rfl <;> decide
  have h := At_any (awT g1 g2) w 0 w.heap.size (aw_in h1 h2) (Nat.le_refl _) (some ⟨g, 0, none⟩) 2 [1, 0] 0 w.heap.size hI (Nat.le_refl _)
  rw [awT_v, awT_val, aw_at] at h
  refine h.mono fun e w' ⟨t', he, hv, _, hf⟩ => ⟨?_, hf⟩
  obtain ⟨k, n, s, A, cap, l, r⟩ := t'
  rw [T.v_mk] at hv
  injection hv with q1 q2 q3 q4 q5
  subst q1 q2 q3 q5
  obtain rfl : l = [] := by simpa using q4
  exact ⟨A, cap, he⟩

theorem aw_same {t : T} (ht : t.v = awV) (hin : t.In w 0 w.heap.size) : Calls Try.prog 54 #[t.val, .agg #[.int .u8 3, .int .i64 0, .string ⟨#[]⟩, .slice (some ⟨g2, 0, none⟩) 2 2, .int .i64 0]] w fun e w' => e = .returned (.bool true) ∧ Fr No w w' := by
  have h := vsame_any t (awT g1 g2) w 0 w.heap.size hin (aw_in h1 h2) (Nat.le_refl _)
  rw [awT_v, ht, same2_self aw_may] at h
  exact h

theorem aw_parts : Calls Try.prog 56 #[.agg #[.int .u8 3, .int .i64 0, .string ⟨#[]⟩, .slice (some ⟨g2, 0, none⟩) 2 2, .int .i64 0]] w fun e w' => e = .returned (.int .i64 4) ∧ Fr No w w' := by
  have h := Parts_any (awT g1 g2) w 0 w.heap.size (aw_in h1 h2) (Nat.le_refl _)
  rw [awT_v] at h
  have e : awV.meas = 4 := by simp [V.meas, aw_may, aw_size]
  rw [e] at h
  exact h

theorem aw_deep : Calls Try.prog 57 #[.agg #[.int .u8 3, .int .i64 0, .string ⟨#[]⟩, .slice (some ⟨g2, 0, none⟩) 2 2, .int .i64 0]] w fun e w' => e = .returned (.int .i64 2) ∧ Fr No w w' := by
  have h := Deep_any (awT g1 g2) w 0 w.heap.size (aw_in h1 h2) (Nat.le_refl _)
  rw [awT_v, if_pos aw_may, aw_dep] at h
  exact h

theorem aw_mayc : Calls Try.prog 58 #[.agg #[.int .u8 3, .int .i64 0, .string ⟨#[]⟩, .slice (some ⟨g2, 0, none⟩) 2 2, .int .i64 0]] w fun e w' => e = .returned (.bool true) ∧ Fr No w w' := by
  have h := may_any (awT g1 g2) w 0 w.heap.size (aw_in h1 h2) (Nat.le_refl _)
  rw [awT_v, aw_may] at h
  exact h

theorem aw_each : Calls Try.prog 41 #[.agg #[.int .u8 3, .int .i64 0, .string ⟨#[]⟩, .slice (some ⟨g2, 0, none⟩) 2 2, .int .i64 0]] w fun e w' => e = .returned (.func (.func 105) #[] #[.pointer (some ⟨w.heap.size, 0, none⟩)]) ∧ Fr No w w' := by
  have h := Each_yes (awT g1 g2) w 0 w.heap.size (aw_in h1 h2) (Nat.le_refl _) (by rw [awT_v]; exact aw_may)
  rw [awT_v] at h
  refine h.mono fun e w' hp => ⟨?_, hp.fr⟩
  obtain ⟨_, _, _, _, _, _, _, he, _⟩ := hp.yes aw_may
  exact he
end

theorem aw_read (w : World) : Calls Try.prog 48 #[.string awS] w fun e w' => (∃ t : T, t.v = awV ∧ e = .returned (.tuple #[t.val, .int .i64 0]) ∧ t.In w' 0 w'.heap.size) ∧ Fr No w w' := by
  refine (Read_any awS w).mono fun e w' hp => ⟨?_, hp.fr⟩
  obtain ⟨t, h1, h2, h3⟩ := hp.yes awV 508 (by decide) aw_parse
  exact ⟨t, h1, h2, T.In.more (Nat.zero_le _) (Nat.le_refl _) _ h3⟩

theorem aw_order (w : World) : Calls Try.prog 55 #[.agg #[.int .u8 1, .int .i64 1, .string ⟨#[]⟩, .slice none 0 0, .int .i64 0], .agg #[.int .u8 1, .int .i64 2, .string ⟨#[]⟩, .slice none 0 0, .int .i64 0]] w fun e w' => e = .returned (.tuple #[.int .i64 (-1), .int .i64 0]) ∧ Fr No w w' := by
  have h := vorder_any (lf 1 1 ⟨#[]⟩ 0) (lf 1 2 ⟨#[]⟩ 0) w 0 0 (lf_in _ _ _ (by decide) (by decide) (by decide) (by decide) (by decide) (by decide)) (lf_in _ _ _ (by decide) (by decide) (by decide) (by decide) (by decide) (by decide)) (Nat.zero_le _)
  have m1 : (V.mk 1 1 ⟨#[]⟩ [] 0).may = true := by simp [V.may, V.fits, V.ok_mk, V.size_mk, V.dep_mk, fok, toL0]
  have m2 : (V.mk 1 2 ⟨#[]⟩ [] 0).may = true := by simp [V.may, V.fits, V.ok_mk, V.size_mk, V.dep_mk, fok, toL0]
  have o : (V.mk 1 1 ⟨#[]⟩ [] 0).ord (V.mk 1 2 ⟨#[]⟩ [] 0) = -1 := by rw [V.ord_mk]; rfl
  rw [lf_v, lf_v, m1, m2, o] at h
  exact h

end Go.Proofs.Ytihjmipmjogpoaa

/- Chapter 2: the reader's values, all of them. -/
import Derived.Test.YtihjmipmjogpoaaY6
namespace Go.Proofs.Ytihjmipmjogpoaa
open Go.RowKit

theorem cutN_le {s s' : ByteArray} {n x : Nat} (h : cutN s n = some (x, s')) : s'.size ≤ s.size := by
  unfold cutN at h
  split at h
  · injection h with h
    injection h with _ h
    rw [← h, ByteArray.size_extract]
    omega
  · cases h

theorem parseL_le {g : ByteArray → Nat → Got} (hg : ∀ s n u s' n', g s n = some (u, s', n') → s'.size ≤ s.size ∧ n' ≤ n) : ∀ (c : Nat) (s : ByteArray) (n : Nat) (l : List V) (s' : ByteArray) (n' : Nat), parseL g c s n = some (l, s', n') → s'.size ≤ s.size ∧ n' ≤ n := by
  intro c
  induction c with
  | zero => intro s n l s' n' h; simp [parseL] at h; obtain ⟨_, rfl, rfl⟩ := h; omega
  | succ c ih =>
    intro s n l s' n' h
    cases hq : g s n with
    | none => rw [parseL_none g c s n hq] at h; cases h
    | some q =>
      obtain ⟨u, s1, n1⟩ := q
      rw [parseL_step g c s n _ hq] at h
      cases hp : parseL g c s1 n1 with
      | none => simp [hp] at h
      | some y =>
        obtain ⟨l2, s2, n2⟩ := y
        simp [hp] at h
        obtain ⟨_, rfl, rfl⟩ := h
        have h1 := hg _ _ _ _ _ hq
        have h2 := ih _ _ _ _ _ hp
        omega

theorem parseG_le {g : Option (ByteArray → Nat → Got)} (hg : ∀ g', g = some g' → ∀ s n u s' n', g' s n = some (u, s', n') → s'.size ≤ s.size ∧ n' ≤ n) (s : ByteArray) (n : Nat) (u : V) (s' : ByteArray) (n' : Nat) (h : parseG g s n = some (u, s', n')) : s'.size ≤ s.size ∧ n' ≤ n := by
  by_cases h0 : s.size < 1 ∨ n = 0
  · unfold parseG at h; rw [if_pos h0] at h; cases h
  rw [parseG_eq g s n h0] at h
  have hs : (s.extract 1 s.size).size ≤ s.size := by rw [ByteArray.size_extract]; omega
  generalize s.extract 1 s.size = s1 at *
  generalize hdB s = k at *
  unfold parseK at h
  split at h
  · injection h with h; cases h; omega
  split at h
  · cases hc : cutN s1 8 with
    | none => simp [hc] at h
    | some q => obtain ⟨x, s2⟩ := q; have := cutN_le hc; simp [hc] at h; obtain ⟨_, rfl, rfl⟩ := h; omega
  split at h
  · cases hc : cutN s1 4 with
    | none => simp [hc] at h
    | some q => obtain ⟨x, s2⟩ := q; have := cutN_le hc; simp [hc] at h; obtain ⟨_, _, rfl, rfl⟩ := h; omega
  split at h
  · cases hc : cutN s1 2 with
    | none => simp [hc] at h
    | some q =>
      obtain ⟨x, s2⟩ := q
      have := cutN_le hc
      simp [hc] at h
      obtain ⟨_, _, rfl, rfl⟩ := h
      rw [ByteArray.size_extract]
      omega
  split at h
  · cases hc : cutN s1 2 with
    | none => simp [hc] at h
    | some q =>
      obtain ⟨x, s2⟩ := q
      have := cutN_le hc
      cases g with
      | none => simp [hc] at h
      | some g' =>
        simp [hc] at h
        obtain ⟨_, l, hp, _⟩ := h
        have := parseL_le (hg g' rfl) _ _ _ _ _ _ hp
        omega
  · cases h

theorem parse_le (d : Nat) : ∀ (s : ByteArray) (n : Nat) (u : V) (s' : ByteArray) (n' : Nat), parse d s n = some (u, s', n') → s'.size ≤ s.size ∧ n' ≤ n := by
  induction d with
  | zero => exact parseG_le (g := none) (fun _ h => by cases h)
  | succ d ih => exact parseG_le (g := some (parse d)) (fun g' h => by injection h with h; subst h; exact ih)

theorem hdB_pos {s : ByteArray} (h : hdB s = 3) : 1 ≤ s.size := by
  rcases Nat.lt_or_ge s.size 1 with h0 | h0
  · have h1 : s.data.toList = [] := List.eq_nil_of_length_eq_zero (by rw [Array.length_toList]; exact Nat.lt_one_iff.1 h0)
    simp [hdB, h1] at h
  · exact h0

theorem value_any (d : Nat) : d ≤ 16 → ∀ (s : ByteArray) (n b r : Nat) (w : World), n ≤ 512 → s.size ≤ 4000000 → Rdr w b r s n d → Calls Try.prog 116 #[.pointer (some ⟨r, 0, none⟩)] w (ValP b r (parse d s n) d w) := by
  induction d with
  | zero =>
    intro _ s n b r w hn hs h
    by_cases h3 : n = 0 ∨ hdB s ≠ 3
    · exact value_leaf none b r s n _ w hn (by decide) (by decide) hs h h3
    · have h4 : hdB s = 3 := by omega
      exact value_list none b r s n 0 w hn (by decide) hs (hdB_pos h4) (by omega) h h4 (.inl ⟨rfl, rfl⟩)
  | succ d ih =>
    intro hd s n b r w hn hs h
    by_cases h3 : n = 0 ∨ hdB s ≠ 3
    · exact value_leaf (some (parse d)) b r s n _ w hn (by omega) (by omega) hs h h3
    · have h4 : hdB s = 3 := by omega
      exact value_list (some (parse d)) b r s n (d + 1) w hn hd hs (hdB_pos h4) (by omega) h h4 (.inr ⟨parse d, d, rfl, rfl, ih (by omega), parse_le d⟩)

end Go.Proofs.Ytihjmipmjogpoaa

/- What the document's answer counts of a value: plain laws. No program in sight. -/
import Derived.Test.YtihjmipmjogpoaaV2
namespace Go.Proofs.Ytihjmipmjogpoaa
open Go.RowKit

/-- The greatest of some numbers, and one more; 0 of none. -/
def top1 : List Nat → Nat
  | [] => 0
  | x :: l => max (x + 1) (top1 l)

/-- How deep its lists of parts go, whatever its kind. -/
def V.ht : V → Nat
  | .mk _ _ _ l _ => top1 (l.map V.ht)
termination_by v => v

theorem V.ht_mk (k n : Int) (s : ByteArray) (l : List V) (r : Int) : (V.mk k n s l r).ht = top1 (l.map V.ht) := by rw [V.ht]

theorem lt_top1 {l : List Nat} {x : Nat} (h : x ∈ l) : x + 1 ≤ top1 l := by
  induction l with
  | nil => simp at h
  | cons y l ih =>
    rcases List.mem_cons.1 h with rfl | h
    · simp [top1]; omega
    · have := ih h; simp [top1]; omega

theorem top1_le {l : List Nat} {n : Nat} (h : ∀ x ∈ l, x + 1 ≤ n) : top1 l ≤ n := by
  induction l with
  | nil => simp [top1]
  | cons y l ih =>
    have h1 := h y (by simp)
    have h2 := ih fun x hx => h x (by simp [hx])
    simp [top1]; omega

theorem ht_child {k n : Int} {s : ByteArray} {l : List V} {r : Int} {x : V} (h : x ∈ l) : x.ht + 1 ≤ (V.mk k n s l r).ht := by
  rw [V.ht_mk]; exact lt_top1 (List.mem_map_of_mem h)

theorem dep_le_ht (v : V) : v.dep ≤ v.ht + 1 := by
  induction v using V.ind with
  | h k n s l r ih =>
    rw [V.dep_mk]
    by_cases h3 : k = 3
    · rw [if_pos h3]
      have : top (l.map V.dep) ≤ (V.mk k n s l r).ht := top_le fun d hd => by
        obtain ⟨x, hx, rfl⟩ := List.mem_map.1 hd
        have h1 := ih x hx
        have h2 := ht_child (k := k) (n := n) (s := s) (r := r) hx
        omega
      omega
    · rw [if_neg h3]; omega

theorem ht_le_dep (v : V) : v.ok = true → v.ht ≤ v.dep := by
  induction v using V.ind with
  | h k n s l r ih =>
    intro h
    rw [V.ok_mk, Bool.and_eq_true] at h
    rw [V.ht_mk, V.dep_mk]
    by_cases h3 : k = 3
    · rw [if_pos h3]
      refine top1_le fun x hx => ?_
      obtain ⟨y, hy, rfl⟩ := List.mem_map.1 hx
      have h1 := ih y hy (List.all_eq_true.1 h.2 y hy)
      have h2 : y.dep ≤ top (l.map V.dep) := le_top (List.mem_map_of_mem hy)
      omega
    · have := List.eq_nil_of_length_eq_zero (fok_len h3 h.1)
      subst this
      simp [top1]

/-- What 'parts' comes to, at the depth d. -/
def PartsIs (v : V) (d z : Nat) : Prop := 1 ≤ z ∧ z ≤ 513 + 512 * (17 - d) ∧ (z ≤ 512 → z = v.size ∧ v.ht + d ≤ 16) ∧ (v.size ≤ 512 → v.ht + d ≤ 16 → z = v.size)

/-- Where the loop of 'parts' stands. -/
structure PInv (l : List V) (d j n : Nat) : Prop where
  pos : 1 ≤ n
  le : n ≤ 513 + 512 * (17 - d)
  few : n ≤ 512 → n = 1 + sizeTo l j ∧ ∀ i (h : i < l.length), i < j → l[i].ht + (d + 1) ≤ 16
  same : 1 + sizeTo l j ≤ 512 → (∀ i (h : i < l.length), i < j → l[i].ht + (d + 1) ≤ 16) → n = 1 + sizeTo l j

theorem PInv.zero (l : List V) (d : Nat) : PInv l d 0 1 :=
  ⟨by omega, by omega, fun _ => ⟨by rw [sizeTo_zero], fun i h hi => absurd hi (by omega)⟩, fun _ _ => by rw [sizeTo_zero]⟩

theorem PInv.succ {l : List V} {d j n z : Nat} (h : PInv l d j n) (hn : n ≤ 512) (hj : j < l.length) (hz : PartsIs l[j] (d + 1) z) (hd : d ≤ 16) : PInv l d (j + 1) (n + z) := by
  obtain ⟨z1, z2, z3, z4⟩ := hz
  have h1 := h.pos
  have h2 := sizeTo_succ l j hj
  refine ⟨by omega, by omega, fun hs => ?_, fun hs ha => ?_⟩
  · obtain ⟨e1, e2⟩ := z3 (by omega)
    obtain ⟨e3, e4⟩ := h.few hn
    refine ⟨by omega, fun i hi hij => ?_⟩
    rcases Nat.lt_or_ge i j with hlt | hge
    · exact e4 i hi hlt
    · obtain rfl : i = j := by omega
      exact e2
  · have e1 := h.same (by omega) fun i hi hij => ha i hi (by omega)
    have e2 := z4 (by omega) (ha j hj (by omega))
    omega

theorem PInv.done {l : List V} {d n : Nat} {k m : Int} {s : ByteArray} {r : Int} (h : PInv l d l.length n) (hd : d ≤ 16) : PartsIs (V.mk k m s l r) d n := by
  have hsz : (V.mk k m s l r).size = 1 + sizeTo l l.length := by rw [V.size_mk, sizeTo_all]
  refine ⟨h.pos, h.le, fun hn => ?_, fun hs ht => ?_⟩
  · obtain ⟨e1, e2⟩ := h.few hn
    refine ⟨by omega, ?_⟩
    have : (V.mk k m s l r).ht ≤ 16 - d := by
      rw [V.ht_mk]
      refine top1_le fun x hx => ?_
      obtain ⟨y, hy, rfl⟩ := List.mem_map.1 hx
      obtain ⟨i, hi, rfl⟩ := List.mem_iff_getElem.1 hy
      have := e2 i hi hi
      omega
    omega
  · rw [hsz]
    refine h.same (by omega) fun i hi _ => ?_
    have := ht_child (k := k) (n := m) (s := s) (r := r) (List.getElem_mem hi)
    omega

theorem PInv.over {l : List V} {d j n : Nat} {k m : Int} {s : ByteArray} {r : Int} (h : PInv l d j n) (hn : 512 < n) : PartsIs (V.mk k m s l r) d n := by
  refine ⟨h.pos, h.le, fun hn' => absurd hn' (by omega), fun hs ht => ?_⟩
  exfalso
  have hsz : (V.mk k m s l r).size = 1 + (l.map V.size).sum := V.size_mk _ _ _ _ _
  have h1 := sizeTo_le l j
  have := h.same (by omega) fun i hi _ => by
    have := ht_child (k := k) (n := m) (s := s) (r := r) (List.getElem_mem hi)
    omega
  omega

theorem PartsIs.deep (v : V) : PartsIs v 17 513 := ⟨by omega, by omega, fun h => absurd h (by omega), fun _ h => absurd h (by omega)⟩

/-- The document's answer to 'may a value be?' is the program's. -/
theorem may_iff {v : V} {z : Nat} (h : PartsIs v 0 z) : v.may = (decide (z ≤ 512) && (decide (v.dep ≤ 16) && v.ok)) := by
  obtain ⟨z1, z2, z3, z4⟩ := h
  rw [Bool.eq_iff_iff]
  simp only [V.may, V.fits, Bool.and_eq_true, decide_eq_true_eq]
  constructor
  · rintro ⟨⟨h1, h2⟩, h3⟩
    have := ht_le_dep v h1
    have := z4 h2 (by omega)
    exact ⟨by omega, h3, h1⟩
  · rintro ⟨h1, h2, h3⟩
    have := z3 h1
    exact ⟨⟨h3, by omega⟩, h2⟩

end Go.Proofs.Ytihjmipmjogpoaa

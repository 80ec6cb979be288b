/- Plain functions on values: how many parts, how deep, whether a value may be. No program in sight. -/
import Derived.Test.YtihjmipmjogpoaaT
namespace Go.Proofs.Ytihjmipmjogpoaa
open Go.RowKit

/-- How many parts. -/
def V.size : V → Nat
  | .mk _ _ _ l _ => 1 + (l.map V.size).sum
termination_by v => v

theorem V.size_mk (k n : Int) (s : ByteArray) (l : List V) (r : Int) : (V.mk k n s l r).size = 1 + (l.map V.size).sum := by rw [V.size]

/-- The greatest of some numbers. -/
def top : List Nat → Nat
  | [] => 0
  | x :: l => max x (top l)

/-- How deep it is nested. -/
def V.dep : V → Nat
  | .mk k _ _ l _ => if k = 3 then 1 + top (l.map V.dep) else 0
termination_by v => v

theorem V.dep_mk (k n : Int) (s : ByteArray) (l : List V) (r : Int) : (V.mk k n s l r).dep = if k = 3 then 1 + top (l.map V.dep) else 0 := by rw [V.dep]

/-- Are the fields that a kind does not name zero, and the named one in its bounds? -/
def fok (k n : Int) (s : ByteArray) (len : Nat) (r : Int) : Bool :=
  if k = 0 then decide (n = 0) && decide (s.toList = []) && decide (r = 0) && decide (len = 0)
  else if k = 1 then decide (s.toList = []) && decide (r = 0) && decide (len = 0)
  else if k = 2 then decide (s.size ≤ 256) && decide (n = 0) && decide (r = 0) && decide (len = 0)
  else if k = 3 then decide (n = 0) && decide (s.toList = []) && decide (r = 0)
  else if k = 4 then decide (1 ≤ r) && decide (n = 0) && decide (s.toList = []) && decide (len = 0)
  else false

def V.ok : V → Bool
  | .mk k n s l r => fok k n s l.length r && (l.map V.ok).all id
termination_by v => v

theorem V.ok_mk (k n : Int) (s : ByteArray) (l : List V) (r : Int) : (V.mk k n s l r).ok = (fok k n s l.length r && l.all V.ok) := by
  rw [V.ok, List.all_map]; rfl

/-- May a value be, with so many parts and lists within lists at most? -/
def V.fits (v : V) (p q : Nat) : Bool := v.ok && decide (v.size ≤ p) && decide (v.dep ≤ q)

def V.may (v : V) : Bool := v.fits 512 16

theorem V.size_pos (v : V) : 1 ≤ v.size := by cases v; rw [V.size_mk]; omega

theorem sum_take_le (l : List Nat) (i : Nat) : (l.take i).sum ≤ l.sum := by
  induction l generalizing i with
  | nil => simp
  | cons x l ih => cases i <;> simp; exact ih _

theorem sum_take_succ (l : List Nat) (i : Nat) (h : i < l.length) : (l.take (i + 1)).sum = (l.take i).sum + l[i] := by
  rw [List.take_succ_eq_append_getElem h, List.sum_append_nat]; simp

theorem le_top {l : List Nat} {x : Nat} (h : x ∈ l) : x ≤ top l := by
  induction l with
  | nil => cases h
  | cons y l ih =>
    rcases List.mem_cons.1 h with rfl | h
    · simp [top]; omega
    · have := ih h; simp [top]; omega

theorem top_le {l : List Nat} {n : Nat} (h : ∀ x ∈ l, x ≤ n) : top l ≤ n := by
  induction l with
  | nil => simp [top]
  | cons y l ih =>
    have h1 := h y (by simp)
    have h2 := ih fun x hx => h x (by simp [hx])
    simp [top]; omega

theorem len_beq (n : Nat) : ((n : Int) == 0) = decide (n = 0) := by
  rw [Bool.eq_iff_iff]; simp

theorem fok_len {k n : Int} {s : ByteArray} {len : Nat} {r : Int} (hk : k ≠ 3) (h : fok k n s len r = true) : len = 0 := by
  unfold fok at h
  by_cases h0 : k = 0
  · simp [h0] at h; omega
  · by_cases h1 : k = 1
    · simp [h1] at h; omega
    · by_cases h2 : k = 2
      · simp [h2] at h; omega
      · by_cases h4 : k = 4
        · simp [h4] at h; omega
        · simp [h0, h1, h2, hk, h4] at h

theorem fits_leaf {k n : Int} {s : ByteArray} {l : List V} {r : Int} {p q : Nat} (hk : k ≠ 3) (hp : 1 ≤ p) :
    (V.mk k n s l r).fits p q = fok k n s l.length r ∧ (fok k n s l.length r = true → (V.mk k n s l r).size = 1) := by
  by_cases h : fok k n s l.length r = true
  · have hl : l = [] := List.eq_nil_of_length_eq_zero (fok_len hk h)
    subst hl
    refine ⟨?_, fun _ => by simp [V.size_mk]⟩
    simp [V.fits, V.ok_mk, V.size_mk, V.dep_mk, hk, hp]
  · simp at h
    refine ⟨by simp [V.fits, V.ok_mk, h], fun h' => by rw [h] at h'; cases h'⟩

theorem fits_zero (v : V) (q : Nat) : v.fits 0 q = false := by
  have := v.size_pos
  simp [V.fits]; omega

/-- How much the first j parts of a list take; whether they may be. -/
def fitsTo (l : List V) (q j : Nat) : Prop := ∀ x ∈ l.take j, x.ok = true ∧ x.dep ≤ q
def sizeTo (l : List V) (j : Nat) : Nat := ((l.map V.size).take j).sum

theorem sizeTo_zero (l : List V) : sizeTo l 0 = 0 := by simp [sizeTo]
theorem sizeTo_succ (l : List V) (j : Nat) (h : j < l.length) : sizeTo l (j + 1) = sizeTo l j + l[j].size := by
  unfold sizeTo; rw [sum_take_succ _ _ (by simpa using h)]; simp
theorem sizeTo_all (l : List V) : sizeTo l l.length = (l.map V.size).sum := by
  unfold sizeTo; rw [List.take_of_length_le (by simp)]
theorem sizeTo_le (l : List V) (j : Nat) : sizeTo l j ≤ (l.map V.size).sum := sum_take_le _ _
theorem sizeTo_mono (l : List V) {i j : Nat} (h : i ≤ j) : sizeTo l i ≤ sizeTo l j := by
  unfold sizeTo
  have := sum_take_le ((l.map V.size).take j) i
  rwa [List.take_take, Nat.min_eq_left h] at this
theorem fitsTo_zero (l : List V) (q : Nat) : fitsTo l q 0 := fun x hx => by simp at hx
theorem fitsTo_succ {l : List V} {q j : Nat} (h : fitsTo l q j) (hj : j < l.length) (ho : l[j].ok = true) (hd : l[j].dep ≤ q) : fitsTo l q (j + 1) := fun x hx => by
  rw [List.take_succ_eq_append_getElem hj, List.mem_append] at hx
  rcases hx with hx | hx
  · exact h x hx
  · simp at hx; subst hx; exact ⟨ho, hd⟩

/-- A list whose first j parts are within bounds, and the next one isn't. -/
theorem fits_stop {n : Int} {s : ByteArray} {l : List V} {r : Int} {p q j : Nat} (hj : j < l.length) (hq : 1 ≤ q) (h : l[j].fits (p - 1 - sizeTo l j) (q - 1) = false) :
    (V.mk 3 n s l r).fits p q = false := by
  cases hf : (V.mk 3 n s l r).fits p q with
  | false => rfl
  | true =>
    exfalso
    simp [V.fits, V.ok_mk, V.size_mk, V.dep_mk] at hf
    obtain ⟨⟨⟨_, h1⟩, h2⟩, h3⟩ := hf
    have ho := h1 l[j] (List.getElem_mem hj)
    have hd : l[j].dep ≤ top (l.map V.dep) := le_top (List.mem_map_of_mem (List.getElem_mem hj))
    have h4 := sizeTo_succ l j hj
    have h5 := sizeTo_le l (j + 1)
    simp [V.fits, ho] at h
    have := h (by omega)
    omega

theorem fits_short {n : Int} {s : ByteArray} {l : List V} {r : Int} {p q : Nat} (h : p < 1 + l.length ∨ q = 0) : (V.mk 3 n s l r).fits p q = false := by
  have h1 : l.length ≤ (l.map V.size).sum := by
    clear h
    induction l with
    | nil => simp
    | cons x l ih => have := x.size_pos; simp; omega
  rcases h with h | h
  · simp [V.fits, V.size_mk]; omega
  · simp [V.fits, V.dep_mk]; omega

theorem fits_done {n : Int} {s : ByteArray} {l : List V} {r : Int} {p q : Nat} (hs : sizeTo l l.length ≤ p - 1) (hp : 1 ≤ p) (hq : 1 ≤ q) (h : fitsTo l (q - 1) l.length) :
    (V.mk 3 n s l r).fits p q = fok 3 n s l.length r ∧ (V.mk 3 n s l r).size = 1 + sizeTo l l.length := by
  rw [sizeTo_all] at *
  have hall : ∀ x ∈ l, x.ok = true ∧ x.dep ≤ q - 1 := by
    intro x hx; exact h x (by rw [List.take_of_length_le (Nat.le_refl _)]; exact hx)
  have ht : top (l.map V.dep) ≤ q - 1 := top_le fun d hd => by
    obtain ⟨x, hx, rfl⟩ := List.mem_map.1 hd
    exact (hall x hx).2
  refine ⟨?_, V.size_mk _ _ _ _ _⟩
  have ha : l.all V.ok = true := List.all_eq_true.2 fun x hx => (hall x hx).1
  simp only [V.fits, V.ok_mk, V.size_mk, V.dep_mk, ha, if_pos, Bool.and_true]
  rw [decide_eq_true (by omega), decide_eq_true (by omega)]
  simp

end Go.Proofs.Ytihjmipmjogpoaa

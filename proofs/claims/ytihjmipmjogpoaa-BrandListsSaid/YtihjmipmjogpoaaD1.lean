/- BrandLists: what the table and the keys that were met say of the first calls. -/
import Derived.Test.YtihjmipmjogpoaaPut4
namespace Go.Proofs.Ytihjmipmjogpoaa
open Go.RowKit

/-- What the table's entries and the keys that were met say of the first i calls of Put. -/
structure Says (ks vs : List T) (i : Nat) (l : List Ent) (met : List T) : Prop where
  same : met.map T.v = l.map fun e => e.k.v
  mem : ∀ x ∈ met, x ∈ ks
  last : ∀ e ∈ l, ∃ (k : Nat) (x y : T), k < i ∧ ks[k]? = some x ∧ vs[k]? = some y ∧ x.v = e.k.v ∧ y.v = e.v.v ∧ y.v.may = true ∧
    ∀ (k' : Nat) (x' y' : T), k < k' → k' < i → ks[k']? = some x' → vs[k']? = some y' → x'.v = e.k.v → y'.v.may = false

theorem Says.zero (ks vs : List T) : Says ks vs 0 [] [] := ⟨rfl, by simp, by simp⟩

theorem Says.len {ks vs : List T} {i : Nat} {l : List Ent} {met : List T} (h : Says ks vs i l met) : met.length = l.length := by
  simpa using congrArg List.length h.same

/-- One call more, that changed nothing of an entry. -/
theorem Says.keep {ks vs : List T} {i : Nat} {e : Ent} {a b : T} (hk : ks[i]? = some a) (hv : vs[i]? = some b) (hne : a.v = e.k.v → b.v.may = false)
    (h : ∃ (k : Nat) (x y : T), k < i ∧ ks[k]? = some x ∧ vs[k]? = some y ∧ x.v = e.k.v ∧ y.v = e.v.v ∧ y.v.may = true ∧ ∀ (k' : Nat) (x' y' : T), k < k' → k' < i → ks[k']? = some x' → vs[k']? = some y' → x'.v = e.k.v → y'.v.may = false) :
    ∃ (k : Nat) (x y : T), k < i + 1 ∧ ks[k]? = some x ∧ vs[k]? = some y ∧ x.v = e.k.v ∧ y.v = e.v.v ∧ y.v.may = true ∧ ∀ (k' : Nat) (x' y' : T), k < k' → k' < i + 1 → ks[k']? = some x' → vs[k']? = some y' → x'.v = e.k.v → y'.v.may = false := by
  obtain ⟨k, x, y, h0, h1, h2, h3, h4, h5, h6⟩ := h
  refine ⟨k, x, y, by omega, h1, h2, h3, h4, h5, fun k' x' y' q0 q1 q2 q3 q4 => ?_⟩
  rcases Nat.lt_or_ge k' i with h | h
  · exact h6 k' x' y' q0 h q2 q3 q4
  · obtain rfl : k' = i := by omega
    rw [hk] at q2
    rw [hv] at q3
    injection q2 with q2
    injection q3 with q3
    subst q2 q3
    exact hne q4

theorem Says.err {ks vs : List T} {i : Nat} {l : List Ent} {met : List T} (h : Says ks vs i l met) {a b : T} (hk : ks[i]? = some a) (hv : vs[i]? = some b) (he : putErr a.v b.v ≠ 0) (hm : ∀ e ∈ l, e.k.v.may = true ∧ e.k.v.keys = true) :
    Says ks vs (i + 1) l met := by
  refine ⟨h.same, h.mem, fun e hel => Says.keep hk hv (fun hq => ?_) (h.last e hel)⟩
  obtain ⟨m1, m2⟩ := hm e hel
  rw [← hq] at m1 m2
  cases hb : b.v.may with
  | false => rfl
  | true => exact absurd (by simp [putErr, m1, m2, hb]) he

theorem Says.new {ks vs : List T} {i : Nat} {l : List Ent} {met : List T} (h : Says ks vs i l met) {a b : T} (hk : ks[i]? = some a) (hv : vs[i]? = some b) (he : putErr a.v b.v = 0) (hm : ∀ e ∈ l, e.k.v.may = true ∧ e.k.v.keys = true)
    (hp : pos a.v (l.map fun e => e.k.v) = none) {x : Ent} (hx : x.k.v = a.v) (hy : x.v.v = b.v) : Says ks vs (i + 1) (l ++ [x]) (met ++ [a]) := by
  obtain ⟨ma, mb, mk⟩ := putErr_zero he
  have hn := pos_none ma mk (fun v hv => by obtain ⟨e, he, rfl⟩ := List.mem_map.1 hv; exact (hm e he).1) hp
  refine ⟨by simp [h.same, hx], fun y hy => ?_, fun e hel => ?_⟩
  · rcases List.mem_append.1 hy with hy | hy
    · exact h.mem y hy
    · simp at hy; subst hy; exact List.mem_of_getElem? hk
  · rcases List.mem_append.1 hel with hel | hel
    · exact Says.keep hk hv (fun hq => absurd (by rw [hq]; exact List.mem_map_of_mem (f := fun e : Ent => e.k.v) hel) hn) (h.last e hel)
    · simp at hel; subst hel
      exact ⟨i, a, b, by omega, hk, hv, hx.symm, hy.symm, mb, fun k' x' y' h1 h2 => by omega⟩

theorem Says.old {ks vs : List T} {i : Nat} {l : List Ent} {met : List T} (h : Says ks vs i l met) {a b : T} (hk : ks[i]? = some a) (hv : vs[i]? = some b) (he : putErr a.v b.v = 0) (hm : ∀ e ∈ l, e.k.v.may = true ∧ e.k.v.keys = true)
    (hd : l.Pairwise fun a b => a.k.v ≠ b.k.v) {j : Nat} {x : Ent} {v' : T} (hp : pos a.v (l.map fun e => e.k.v) = some j) (hx : l[j]? = some x) (hy : v'.v = b.v) : Says ks vs (i + 1) (l.set j ⟨x.k, v', x.c⟩) met := by
  obtain ⟨ma, mb, mk⟩ := putErr_zero he
  have hkx := pos_some ma mk (fun v hv => by obtain ⟨e, he, rfl⟩ := List.mem_map.1 hv; exact (hm e he).1) hp
  rw [List.getElem?_map, hx] at hkx
  simp at hkx
  obtain ⟨l1, l2, rfl, rfl⟩ := split_at hx
  have hset : (l1 ++ x :: l2).set l1.length ⟨x.k, v', x.c⟩ = l1 ++ ⟨x.k, v', x.c⟩ :: l2 := by simp
  rw [hset]
  have hne : ∀ e, e ∈ l1 ∨ e ∈ l2 → e.k.v ≠ x.k.v := by
    rw [List.pairwise_append, List.pairwise_cons] at hd
    intro e he
    rcases he with he | he
    · exact hd.2.2 e he x (by simp)
    · exact (hd.2.1.1 e he).symm
  refine ⟨by rw [h.same]; simp, h.mem, fun e hel => ?_⟩
  have hold : ∀ e, e ∈ l1 ∨ e ∈ l2 → _ := fun e he => Says.keep (e := e) hk hv (fun hq => absurd (hq.symm.trans hkx.symm) (hne e he)) (h.last e (by rcases he with he | he <;> simp [he]))
  rcases List.mem_append.1 hel with hel | hel
  · exact hold e (.inl hel)
  · rcases List.mem_cons.1 hel with rfl | hel
    · exact ⟨i, a, b, by omega, hk, hv, hkx.symm, hy.symm, mb, fun k' x' y' h1 h2 => by omega⟩
    · exact hold e (.inr hel)

/-- Was the key met? -/
theorem Says.was {ks vs : List T} {i : Nat} {l : List Ent} {met : List T} (h : Says ks vs i l met) {a : T} (hm : ∀ e ∈ l, e.k.v.may = true) (ma : a.v.may = true) (mk : a.v.keys = true) :
    (pos a.v (l.map fun e => e.k.v)).isSome = true ↔ ∃ (k : Nat) (x : T), met[k]? = some x ∧ x.v = a.v := by
  cases hp : pos a.v (l.map fun e => e.k.v) with
  | none =>
    have hn := pos_none ma mk (fun v hv => by obtain ⟨e, he, rfl⟩ := List.mem_map.1 hv; exact hm e he) hp
    simp only [Option.isSome_none, Bool.false_eq_true, false_iff]
    rintro ⟨k, x, hx, hv⟩
    rw [← h.same] at hn
    exact hn (by rw [← hv]; exact List.mem_map_of_mem (List.mem_of_getElem? hx))
  | some j =>
    have hkx := pos_some ma mk (fun v hv => by obtain ⟨e, he, rfl⟩ := List.mem_map.1 hv; exact hm e he) hp
    rw [← h.same, List.getElem?_map] at hkx
    simp only [Option.isSome_some, true_iff]
    cases hx : met[j]? with
    | none => rw [hx] at hkx; cases hkx
    | some x => rw [hx] at hkx; simp at hkx; exact ⟨j, x, hx, hkx⟩

/-- Where a value stands among unlike ones. -/
theorem pos_of {v : V} (hm : v.may = true) (hk : v.keys = true) : ∀ {us : List V} {j : Nat}, (∀ u ∈ us, u.may = true) → us.Pairwise (· ≠ ·) → us[j]? = some v → pos v us = some j
  | [], j, _, _, h => by simp at h
  | u :: us, 0, _, _, h => by
    simp at h; subst h
    unfold pos
    rw [if_pos ((cmp_iff hm hm hk).2 rfl)]
  | u :: us, j + 1, h0, h1, h => by
    simp at h
    rw [List.pairwise_cons] at h1
    have hne : ¬ v.cmp u = 1 := fun hc => h1.1 v (List.mem_of_getElem? h) ((cmp_iff hm (h0 u (by simp)) hk).1 hc).symm
    unfold pos
    rw [if_neg hne, pos_of hm hk (fun u hu => h0 u (by simp [hu])) h1.2 h]
    rfl

/-- The last call that put something under a key: what is got. -/
theorem Says.got {ks vs : List T} {n : Nat} {l : List Ent} {met : List T} (h : Says ks vs n l met) (hm : ∀ e ∈ l, e.k.v.may = true ∧ e.k.v.keys = true) (hd : l.Pairwise fun a b => a.k.v ≠ b.k.v) {i : Nat} {a : T} (ha : met[i]? = some a) :
    ∃ e, l[i]? = some e ∧ e.k.v = a.v ∧ a.v.may = true ∧ a.v.keys = true ∧ pos a.v (l.map fun e => e.k.v) = some i := by
  have h1 : (l.map fun e => e.k.v)[i]? = some a.v := by rw [← h.same, List.getElem?_map, ha]; rfl
  have h2 := h1
  rw [List.getElem?_map] at h2
  cases hx : l[i]? with
  | none => rw [hx] at h2; cases h2
  | some e =>
    rw [hx] at h2; simp at h2
    obtain ⟨m1, m2⟩ := hm e (List.mem_of_getElem? hx)
    rw [h2] at m1 m2
    exact ⟨e, rfl, h2, m1, m2, pos_of m1 m2 (fun v hv => by obtain ⟨e, he, rfl⟩ := List.mem_map.1 hv; exact (hm e he).1) (by rw [List.pairwise_map]; exact hd) h1⟩

/-- The last of the first k calls that put something under a key. -/
def LastP (ks vs : List T) (a : V) (k : Nat) (z : Int) : Prop :=
  (z = -1 ∧ ∀ (k' : Nat) (x' y' : T), k' < k → ks[k']? = some x' → vs[k']? = some y' → x'.v = a → y'.v.may = false) ∨
  ∃ (k0 : Nat) (x y : T), z = (k0 : Int) ∧ k0 < k ∧ ks[k0]? = some x ∧ vs[k0]? = some y ∧ x.v = a ∧ y.v.may = true ∧ ∀ (k' : Nat) (x' y' : T), k0 < k' → k' < k → ks[k']? = some x' → vs[k']? = some y' → x'.v = a → y'.v.may = false

theorem LastP.zero (ks vs : List T) (a : V) : LastP ks vs a 0 (-1) := .inl ⟨rfl, fun k' x' y' h => by omega⟩

theorem LastP.bd {ks vs : List T} {a : V} {k : Nat} {z : Int} (h : LastP ks vs a k z) : -1 ≤ z ∧ z < k := by
  rcases h with ⟨rfl, _⟩ | ⟨k0, x, y, rfl, h, _⟩ <;> omega

theorem LastP.take {ks vs : List T} {a : V} {k : Nat} {x y : T} (hx : ks[k]? = some x) (hy : vs[k]? = some y) (ha : x.v = a) (hm : y.v.may = true) : LastP ks vs a (k + 1) (k : Int) :=
  .inr ⟨k, x, y, rfl, by omega, hx, hy, ha, hm, fun k' x' y' h1 h2 => by omega⟩

theorem LastP.pass {ks vs : List T} {a : V} {k : Nat} {z : Int} (h : LastP ks vs a k z) {x y : T} (hx : ks[k]? = some x) (hy : vs[k]? = some y) (hn : x.v = a → y.v.may = false) : LastP ks vs a (k + 1) z := by
  have hk : ∀ (k' : Nat) (x' y' : T), k' = k → ks[k']? = some x' → vs[k']? = some y' → x'.v = a → y'.v.may = false := by
    rintro k' x' y' rfl h1 h2 h3
    rw [hx] at h1
    rw [hy] at h2
    injection h1 with h1
    injection h2 with h2
    subst h1 h2
    exact hn h3
  rcases h with ⟨rfl, h⟩ | ⟨k0, x0, y0, rfl, h0, h1, h2, h3, h4, h⟩
  · refine .inl ⟨rfl, fun k' x' y' q0 q1 q2 q3 => ?_⟩
    rcases Nat.lt_or_ge k' k with hlt | hge
    · exact h k' x' y' hlt q1 q2 q3
    · exact hk k' x' y' (by omega) q1 q2 q3
  · refine .inr ⟨k0, x0, y0, rfl, by omega, h1, h2, h3, h4, fun k' x' y' p0 q0 q1 q2 q3 => ?_⟩
    rcases Nat.lt_or_ge k' k with hlt | hge
    · exact h k' x' y' p0 hlt q1 q2 q3
    · exact hk k' x' y' (by omega) q1 q2 q3

theorem LastP.got {ks vs : List T} {a : V} {n : Nat} {z : Int} {l : List Ent} {met : List T} (h : LastP ks vs a n z) (hs : Says ks vs n l met) {e : Ent} (he : e ∈ l) (ha : e.k.v = a) : ∃ (k0 : Nat) (y : T), z = (k0 : Int) ∧ k0 < n ∧ vs[k0]? = some y ∧ y.v = e.v.v := by
  obtain ⟨k, x, y, h0, h1, h2, h3, h4, h5, h6⟩ := hs.last e he
  rcases h with ⟨_, h⟩ | ⟨k0, x0, y0, rfl, q0, q1, q2, q3, q4, h⟩
  · have := h k x y h0 h1 h2 (h3.trans ha)
    rw [h5] at this; cases this
  · rcases Nat.lt_trichotomy k0 k with hlt | rfl | hlt
    · have := h k x y hlt h0 h1 h2 (h3.trans ha)
      rw [h5] at this; cases this
    · exact ⟨k0, y, rfl, h0, h2, h4⟩
    · have := h6 k0 x0 y0 hlt q0 q1 q2 (q3.trans ha.symm)
      rw [q4] at this; cases this

theorem putErr_or (a b : V) : putErr a b = 0 ∨ putErr a b = 2 ∨ putErr a b = 40 := by
  unfold putErr
  split
  · split <;> simp
  · simp

end Go.Proofs.Ytihjmipmjogpoaa

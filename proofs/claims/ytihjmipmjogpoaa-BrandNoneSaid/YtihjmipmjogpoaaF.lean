/- Forests: turned round, parted. -/
import Derived.Test.YtihjmipmjogpoaaPut2
namespace Go.Proofs.Ytihjmipmjogpoaa
open Go.RowKit

theorem perm_flatten {l l' : List (List Nat)} (h : l.Perm l') : l.flatten.Perm l'.flatten := by
  induction h with
  | nil => exact .refl _
  | cons x _ ih => simp only [List.flatten_cons]; exact ih.append_left x
  | swap x y l => simp only [List.flatten_cons, ← List.append_assoc]; exact (List.perm_append_comm).append_right _
  | trans _ _ ih1 ih2 => exact ih1.trans ih2

section
variable {w : World} {lo hi : Nat} {l l' : List T}
theorem Forest.perm (h : Forest w lo hi l) (p : l.Perm l') : Forest w lo hi l' :=
  ⟨fun x hx => h.inn x (p.mem_iff.2 hx), (perm_flatten (p.map T.blocks)).nodup_iff.1 h.nodup, fun b hb => h.free b ((perm_flatten (p.map T.blocks)).mem_iff.2 hb)⟩

theorem Forest.left (h : Forest w lo hi (l ++ l')) : Forest w lo hi l := by
  have hn := h.nodup
  rw [List.map_append, List.flatten_append, List.nodup_append] at hn
  exact ⟨fun x hx => h.inn x (List.mem_append_left _ hx), hn.1, fun b hb => h.free b (by rw [List.map_append, List.flatten_append]; exact List.mem_append_left _ hb)⟩

theorem Forest.right (h : Forest w lo hi (l ++ l')) : Forest w lo hi l' := by
  have hn := h.nodup
  rw [List.map_append, List.flatten_append, List.nodup_append] at hn
  exact ⟨fun x hx => h.inn x (List.mem_append_right _ hx), hn.2.1, fun b hb => h.free b (by rw [List.map_append, List.flatten_append]; exact List.mem_append_right _ hb)⟩

theorem Forest.apart (h : Forest w lo hi (l ++ l')) : ∀ b ∈ (l.map T.blocks).flatten, b ∉ (l'.map T.blocks).flatten := by
  have hn := h.nodup
  rw [List.map_append, List.flatten_append, List.nodup_append] at hn
  exact fun b hb hb' => hn.2.2 b hb b hb' rfl

theorem Forest.one {t : T} : Forest w lo hi [t] ↔ t.Ow w lo hi := by
  constructor
  · intro h
    exact ⟨h.inn t (by simp), by simpa using h.nodup, fun b hb => h.free b (by simpa using hb)⟩
  · intro h
    exact ⟨by simpa using h.inn, by simpa using h.nodup, by simpa using h.free⟩
end

theorem split_at {l : List Ent} {i : Nat} {x : Ent} (h : l[i]? = some x) : ∃ l1 l2, l = l1 ++ x :: l2 ∧ l1.length = i := by
  obtain ⟨hi, hx⟩ := List.getElem?_eq_some_iff.1 h
  refine ⟨l.take i, l.drop (i + 1), ?_, by simp; omega⟩
  rw [← hx, ← List.drop_eq_getElem_cons hi, List.take_append_drop]

theorem trees_append (l l' : List Ent) : trees (l ++ l') = trees l ++ trees l' := by simp [trees]
theorem trees_cons (x : Ent) (l : List Ent) : trees (x :: l) = [x.k, x.v] ++ trees l := by simp [trees]

theorem trees_perm (l1 l2 : List Ent) (x : Ent) : (trees (l1 ++ x :: l2)).Perm ((trees l1 ++ [x.k] ++ trees l2) ++ [x.v]) := by
  rw [trees_append, trees_cons]
  have h : ([x.k, x.v] ++ trees l2).Perm ([x.k] ++ trees l2 ++ [x.v]) := by
    simp only [List.cons_append, List.nil_append]
    exact (List.perm_append_singleton x.v (trees l2)).symm.cons x.k
  simpa only [List.append_assoc] using h.append_left (trees l1)

end Go.Proofs.Ytihjmipmjogpoaa

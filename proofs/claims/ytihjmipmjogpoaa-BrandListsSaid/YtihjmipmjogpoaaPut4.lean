/- (*Table).Put, whatever the key and the value. -/
import Derived.Test.YtihjmipmjogpoaaG1
namespace Go.Proofs.Ytihjmipmjogpoaa
open Go.RowKit

/-- What the table holds behind Put, what was there, whether there was one. -/
inductive PutSays (a b : V) (l : List Ent) (came : Nat) : List Ent → Nat → V → Bool → Prop where
  | err (h : putErr a b ≠ 0) : PutSays a b l came l came V.zero false
  | new (x : Ent) (h : putErr a b = 0) (hp : pos a (l.map fun e => e.k.v) = none) (hk : x.k.v = a) (hv : x.v.v = b) (hc : x.c = came + 1) : PutSays a b l came (l ++ [x]) (came + 1) V.zero false
  | old (i : Nat) (x : Ent) (v' : T) (h : putErr a b = 0) (hp : pos a (l.map fun e => e.k.v) = some i) (hx : l[i]? = some x) (hv : v'.v = b) : PutSays a b l came (l.set i ⟨x.k, v', x.c⟩) came x.v.v true

def PutRes (a b : V) (lo tb M O : Nat) (l : List Ent) (came : Nat) (w : World) (e : Ending) (w' : World) : Prop :=
  ∃ (old : T) (had : Bool) (l' : List Ent) (came' : Nat), e = .returned (.tuple #[old.val, .bool had, .int .i64 (putErr a b)]) ∧ old.In w' 0 w'.heap.size ∧ Tab w' lo w'.heap.size tb M O l' came' ∧ Fr (fun i => i = tb ∨ i = M ∨ i = O) w w' ∧
    (∀ i, tabBlocks tb M O l' i → i < w.heap.size → tabBlocks tb M O l i) ∧ PutSays a b l came l' came' old.v had

theorem putErr_zero {a b : V} (h : putErr a b = 0) : a.may = true ∧ b.may = true ∧ a.keys = true := by
  unfold putErr at h
  split at h
  · rename_i h1
    simp at h1
    split at h
    · rename_i h2; exact ⟨h1.1, h1.2, h2⟩
    · cases h
  · cases h

theorem trees_mem {l : List Ent} {b : Nat} : b ∈ ((trees l).map T.blocks).flatten ↔ ∃ e ∈ l, b ∈ e.k.blocks ∨ b ∈ e.v.blocks := by
  constructor
  · intro h
    obtain ⟨bs, hbs, hb⟩ := List.mem_flatten.1 h
    obtain ⟨t, ht, rfl⟩ := List.mem_map.1 hbs
    obtain ⟨e, he, ht⟩ := List.mem_flatMap.1 ht
    simp at ht
    rcases ht with rfl | rfl
    · exact ⟨e, he, .inl hb⟩
    · exact ⟨e, he, .inr hb⟩
  · rintro ⟨e, he, h⟩
    rcases h with h | h
    · exact List.mem_flatten.2 ⟨_, List.mem_map_of_mem (List.mem_flatMap.2 ⟨e, he, by simp⟩), h⟩
    · exact List.mem_flatten.2 ⟨_, List.mem_map_of_mem (List.mem_flatMap.2 ⟨e, he, by simp⟩), h⟩

theorem Put_any (a b : T) (w : World) (alo ahi : Nat) (ha : a.In w alo ahi) (hb : b.In w alo ahi) (hh : ahi ≤ w.heap.size) (lo tb M O : Nat) (l : List Ent) (came : Nat) (hT : Tab w lo w.heap.size tb M O l came)
    (hap : ∀ i, i ∈ a.blocks ∨ i ∈ b.blocks → i ≠ tb ∧ i ≠ M ∧ i ≠ O) (hc : came < 1000000) :
    Calls Try.prog 26 #[.pointer (some ⟨tb, 0, none⟩), a.val, b.val] w (PutRes a.v b.v lo tb M O l came w) := by
  by_cases he : putErr a.v b.v = 0
  · obtain ⟨hma, hmb, hk⟩ := putErr_zero he
    cases hp : pos a.v (l.map fun e => e.k.v) with
    | none =>
      refine (Put_new a b w alo ahi ha hb hh lo tb M O l came hT hap hma hmb hk hp hc).mono ?_
      rintro e w' ⟨rfl, x, h1, h2, h3, h4, h5, h6⟩
      refine ⟨T.zero, false, _, _, by rw [he]; rfl, (T.zero_ow _ _ _).inn, h4, h5, fun i hi hlt => ?_, by rw [T.zero_v]; exact .new x he hp h1 h2 h3⟩
      rcases hi with hi | hi | hi | hi
      · exact .inl hi
      · exact .inr (.inl hi)
      · exact .inr (.inr (.inl hi))
      · obtain ⟨e, he, hb⟩ := trees_mem.1 hi
        rcases List.mem_append.1 he with he | he
        · exact .inr (.inr (.inr (trees_mem.2 ⟨e, he, hb⟩)))
        · simp at he; subst he
          have := h6 i hb
          omega
    | some i =>
      have hkx := pos_some hma hk (fun v hv => by obtain ⟨e, he, rfl⟩ := List.mem_map.1 hv; exact (hT.may e he).1) hp
      rw [List.getElem?_map] at hkx
      cases hx : l[i]? with
      | none => rw [hx] at hkx; cases hkx
      | some x =>
        refine (Put_old a b w alo ahi ha hb hh lo tb M O l came hT hap hma hmb hk hp hx).mono ?_
        rintro e w' ⟨rfl, v', h1, h2, h3, h4, h5, h6⟩
        refine ⟨x.v, true, _, _, by rw [he], T.In.more (Nat.zero_le _) (Nat.le_refl _) _ h3.inn, h2, h5.mono fun i _ h => .inr (.inl h), fun j hj hlt => ?_, .old i x v' he hp hx h1⟩
        rcases hj with hj | hj | hj | hj
        · exact .inl hj
        · exact .inr (.inl hj)
        · exact .inr (.inr (.inl hj))
        · obtain ⟨e, he, hb⟩ := trees_mem.1 hj
          rcases List.mem_or_eq_of_mem_set he with he | rfl
          · exact .inr (.inr (.inr (trees_mem.2 ⟨e, he, hb⟩)))
          · rcases hb with hb | hb
            · exact .inr (.inr (.inr (trees_mem.2 ⟨x, List.mem_of_getElem? hx, .inl hb⟩)))
            · have := h6 j hb
              omega
  · refine (Put_err a b w alo ahi ha hb hh tb M O came hT.blk he).mono ?_
    rintro e w' ⟨rfl, fr⟩
    exact ⟨T.zero, false, l, came, rfl, (T.zero_ow _ _ _).inn, (hT.no fr (Nat.le_refl _)).more (Nat.le_refl _) fr.size, fr.no, fun i hi _ => hi, by rw [T.zero_v]; exact .err he⟩

end Go.Proofs.Ytihjmipmjogpoaa

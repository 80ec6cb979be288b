/- Rows of values in memory: what came in, what was appended. -/
import Derived.Test.YtihjmipmjogpoaaO1
import Derived.Deep.AppendLies
namespace Go.Proofs.Ytihjmipmjogpoaa
open Go.Joins Go.ChangeShapes Go.WideShapes Go.RowKit Go.Deep

/-- Some values that lie one behind the other. -/
def T.row (A : Option Addr) (cap : Nat) (l : List T) : T := .mk 3 0 ⟨#[]⟩ A cap l 0

/-- The cells of some values. -/
def rowCells (l : List T) : List Value := l.flatMap T.cells

theorem rowCells_length (l : List T) : (rowCells l).length = l.length * 5 := by
  induction l with
  | nil => rfl
  | cons x l ih => simp only [rowCells, List.flatMap_cons, List.length_append] at ih ⊢; rw [T.cells_length, ih]; simp only [List.length_cons]; omega

theorem rowCells_get : ∀ (l : List T) (i c : Nat) (x : T) (u : Value), l[i]? = some x → x.cells[c]? = some u → (rowCells l)[i * 5 + c]? = some u
  | [], i, c, x, u, h, _ => by simp at h
  | y :: l, 0, c, x, u, h, hu => by
    simp at h; subst h
    simp only [rowCells, List.flatMap_cons, Nat.zero_mul, Nat.zero_add]
    rw [List.getElem?_append_left]
    · exact hu
    · exact (List.getElem?_eq_some_iff.1 hu).1
  | y :: l, i + 1, c, x, u, h, hu => by
    simp only [List.getElem?_cons_succ] at h
    have := rowCells_get l i c x u h hu
    simp only [rowCells, List.flatMap_cons] at this ⊢
    rw [List.getElem?_append_right (by rw [T.cells_length]; omega), T.cells_length, show (i + 1) * 5 + c - 5 = i * 5 + c by omega]
    exact this

theorem rowCells_snoc (l : List T) (x : T) : rowCells (l ++ [x]) = rowCells l ++ x.cells := by simp [rowCells]

theorem cells_one (x : T) : ∀ u ∈ x.cells, u.oneCell' = true := by
  cases x; simp [T.cells, Value.oneCell']

theorem owns_form {w : World} {base : Nat} {e : TypeId} {size : Nat} {v : Value} {n : Nat} {xs : List Value} (h : w.ownsRow base e size v n xs) : ∃ A cap, v = .slice A n cap := by
  rcases h.2 with ⟨rfl, rfl⟩ | ⟨g, cap, cur, rfl, _⟩
  · exact ⟨_, _, rfl⟩
  · exact ⟨_, _, rfl⟩

/-- A row that the call itself owns, as a row of values. -/
theorem owns_row {w : World} {base : Nat} {A : Option Addr} {cap : Nat} {l : List T} {lo hi : Nat} (h : w.ownsRow base 27 5 (.slice A l.length cap) l.length (rowCells l)) (hl : ∀ x ∈ l, x.In w lo hi) (hlen : l.length * 64 ≤ 140737488351232) (hlo : lo ≤ base) (hhi : hi ≤ w.heap.size) :
    (T.row A cap l).In w lo w.heap.size := by
  rcases h.2 with ⟨hs, h0⟩ | ⟨g, cap', cur, hs, hb, hg, hc, hm, hsz, hx⟩
  · obtain rfl : l = [] := List.eq_nil_of_length_eq_zero h0
    simp at hs
    obtain ⟨rfl, rfl⟩ := hs
    exact T.in_mk.2 ⟨⟨by decide, by decide, by decide, by decide, by decide, by decide, Nat.le_refl _, by decide, by decide⟩, fun h => absurd rfl h, by simp⟩
  · simp at hs
    obtain ⟨rfl, rfl⟩ := hs
    refine T.in_mk.2 ⟨⟨by decide, by decide, by decide, by decide, by decide, hlen, hc, by decide, by decide⟩, fun _ => ⟨g, 0, rfl, by omega, ?_, fun i x hi' c u hu => ?_⟩, fun x hx => T.In.more (Nat.le_refl _) hhi _ (hl x hx)⟩
    · rcases Nat.lt_or_ge g w.heap.size with hlt | hge
      · exact hlt
      · rw [Array.getElem?_eq_none hge] at hg; cases hg
    · have hcell : w.cell? ⟨g, 0 + i * 5 + c, none⟩ = cur[0 + i * 5 + c]? := cell_of_row w g _ cur 27 (0, 0) hg
      rw [hcell, Nat.zero_add]
      have h1 := rowCells_get l i c x u hi' hu
      rw [← hx, List.getElem?_take] at h1
      split at h1
      · simpa using h1
      · cases h1

theorem owns_lt {w : World} {base : Nat} {e : TypeId} {size : Nat} {v : Value} {n : Nat} {xs : List Value} (h : w.ownsRow base e size v n xs) : ∀ g, v.ownBlock = some g → base ≤ g ∧ g < w.heap.size := by
  intro g hg
  rcases h.2 with ⟨rfl, h0⟩ | ⟨g', cap', cur, rfl, hb, hh, _⟩
  · cases hg
  · simp [Value.ownBlock] at hg
    subst hg
    refine ⟨hb, ?_⟩
    rcases Nat.lt_or_ge g' w.heap.size with hlt | hge
    · exact hlt
    · rw [Array.getElem?_eq_none hge] at hh; cases hh

theorem owns_fr {S : Nat → Prop} {a w : World} {base : Nat} {e : TypeId} {size : Nat} {v : Value} {n : Nat} {xs : List Value} (h : a.ownsRow base e size v n xs) (hf : Fr S a w) (hn : ∀ g, v.ownBlock = some g → ¬ S g) : w.ownsRow base e size v n xs := by
  have hl := owns_lt h
  refine ⟨h.1, ?_⟩
  rcases h.2 with h0 | ⟨g, cap, cur, rfl, hb, hg, hr⟩
  · exact .inl h0
  · exact .inr ⟨g, cap, cur, rfl, hb, (hf.block g (hl g rfl).2 (hn g rfl)).trans hg, hr⟩

/-- The cells of one of a row's values. -/
theorem T.cells_at {w : World} {lo hi b o : Nat} {k n : Int} {s : ByteArray} {cap : Nat} {l : List T} {r : Int} (h : (T.mk k n s (some ⟨b, o, none⟩) cap l r).In w lo hi) {j : Nat} (hj : j < l.length) {k1 n1 : Int} {s1 : ByteArray} {A1 : Option Addr} {cap1 : Nat} {l1 : List T} {r1 : Int}
    (hx : l[j] = T.mk k1 n1 s1 A1 cap1 l1 r1) :
    w.cell? ⟨b, o + j * 5, none⟩ = some (.int .u8 k1) ∧ w.cell? ⟨b, o + j * 5 + 1, none⟩ = some (.int .i64 n1) ∧ w.cell? ⟨b, o + j * 5 + 2, none⟩ = some (.string s1) ∧
      w.cell? ⟨b, o + j * 5 + 3, none⟩ = some (.slice A1 l1.length cap1) ∧ w.cell? ⟨b, o + j * 5 + 4, none⟩ = some (.int .i64 r1) := by
  obtain ⟨b', o', k2, n2, s2, A2, cap2, l2, r2, hbb, _, _, hx', _, e0, e1, e2, e3, e4⟩ := T.elem h hj
  simp only [Option.some.injEq, Addr.mk.injEq, and_true] at hbb
  obtain ⟨rfl, rfl⟩ := hbb
  rw [hx] at hx'
  injection hx' with q1 q2 q3 q4 q5 q6 q7
  subst q1 q2 q3 q4 q5 q6 q7
  exact ⟨e0, e1, e2, e3, e4⟩

theorem value_row : (Try.prog.info? 27).map (fun i => (i.zero, i.size, i.bytes)) = some (some (.agg #[.int .u8 0, .int .i64 0, .string ⟨#[]⟩, .slice none 0 0, .int .i64 0]), 5, 64) := by kernel_rfl

section
variable {H : Type} {enc : TypeId × Value → H}

set_option maxRecDepth 100000 in
/-- An argument of the type []Value. -/
theorem open_vals {W : World} {b0 : Nat} {v : Value} {d : DataW H} {p : List MemPlace} (hv : Value.okWide Try.prog W .any b0 24 v) (h : DataW.Trod enc Try.prog W 0 (fun _ => true) true 24 v d p) (hw : ∀ m ∈ d.weights Try.prog 24, m ≤ reachBytes) :
    ∃ A cap l, v = .slice A l.length cap ∧ (T.row A cap l).In W 0 W.heap.size := by
  obtain ⟨A, len, cap, rfl⟩ := okWide_slice Try.underlying24 hv
  obtain ⟨fuel, hf⟩ := h
  have hcs : Value.cells (.slice A len cap) = #[.slice A len cap] := rfl
  rw [hcs] at hf
  rcases DataW.trod_slice Try.underlying24 hf with ⟨e3, -⟩ | ⟨a, len', cap', elems, rest, n', rfl, e3, e5, -, hcap, hmax, hel, hat, hsp, -⟩
  · simp at e3
    obtain ⟨rfl, rfl, rfl⟩ := e3
    exact ⟨none, 0, [], rfl, T.in_mk.2 ⟨⟨by decide, by decide, by decide, by decide, by decide, by decide, Nat.le_refl _, by decide, by decide⟩, fun h => absurd rfl h, by simp⟩⟩
  · simp at e3
    obtain ⟨rfl, rfl, rfl⟩ := e3
    simp only [Prod.mk.injEq] at e5
    obtain ⟨rfl, -⟩ := e5
    have hlen1 : len * 64 ≤ 140737488351232 := by
      have := hw ((elems.length + rest.length) * 64) (by rw [weights24]; simp)
      rw [reach_eq, hel] at this
      omega
    rw [cells27] at hat
    have hone : ∀ i, i < len → ∃ t : T, (∀ j u, t.cells[j]? = some u → W.cell? ((a.add (i * 5)).add j) = some u) ∧ t.In W 0 W.heap.size := by
      intro i hi
      have h1 := hat i hi
      have h2 : elems[i]? = some (elems[i]'(by omega)) := List.getElem?_eq_getElem (by omega)
      rw [h2] at h1
      obtain ⟨cs', hc, ht'⟩ := Option.bind_eq_some_iff.1 h1
      obtain ⟨t, rfl, hin⟩ := open_tree W n' cs' _ ht' (fun m hm => hw m (by
        rw [weights24]
        refine List.mem_cons_of_mem _ (List.mem_append_left _ ?_)
        exact mem_weightsAll (List.mem_map_of_mem (List.getElem_mem _)) hm))
      obtain ⟨-, hcl, hcell⟩ := World.cells?_some hc
      refine ⟨t, fun j u hu => ?_, hin⟩
      have hj : j < 5 := by
        rcases Nat.lt_or_ge j 5 with h | h
        · exact h
        · rw [List.getElem?_eq_none (by rw [T.cells_length]; exact h)] at hu; cases hu
      rw [hcell j hj, hu]
    obtain ⟨l, hl, hq⟩ := choose_list len hone
    subst hl
    obtain ⟨b, o, sp⟩ := a
    refine ⟨some ⟨b, o, sp⟩, cap, l, rfl, T.in_mk.2 ⟨⟨by decide, by decide, by decide, by decide, by decide, hlen1, hcap, by decide, by decide⟩, fun hne => ?_, fun x hx => ?_⟩⟩
    · have hlp : 0 < l.length := List.length_pos_iff.2 hne
      obtain ⟨hc0, -⟩ := hq 0 _ (List.getElem?_eq_getElem hlp)
      have hcc := hc0 0 _ (List.getElem?_eq_getElem (by rw [T.cells_length]; omega))
      have hspot : sp = none := by simpa [Addr.add] using World.cell?_spot hcc
      subst hspot
      have hlt := cell_lt hcc
      refine ⟨b, o, rfl, Nat.zero_le _, by simpa [Addr.add] using hlt, fun i x hx j u hu => ?_⟩
      have := (hq i x hx).1 j u hu
      rw [add_at, add_at] at this
      exact this
    · obtain ⟨i, hi, rfl⟩ := List.mem_iff_getElem.1 hx
      exact (hq i _ (List.getElem?_eq_getElem hi)).2
end

end Go.Proofs.Ytihjmipmjogpoaa

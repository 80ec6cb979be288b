/- A value that came in, as a tree in memory. -/
import Derived.Test.YtihjmipmjogpoaaProg
import Derived.Test.YtihjmipmjogpoaaT
import Derived.Lib.SmallJoins
import Derived.Deep.Slices
import Derived.Deep.Fields
import Derived.ChangeSame
import Derived.SizedLaws
namespace Go.Proofs.Ytihjmipmjogpoaa
open Go.Joins Go.ChangeShapes Go.WideShapes Go.RowKit Go.Deep

theorem choose_list {α : Type} {Q : Nat → α → Prop} : ∀ (n : Nat), (∀ i, i < n → ∃ x, Q i x) → ∃ l : List α, l.length = n ∧ ∀ i x, l[i]? = some x → Q i x
  | 0, _ => ⟨[], rfl, fun i x h => by simp at h⟩
  | n + 1, h => by
    obtain ⟨l, hl, hq⟩ := choose_list n fun i hi => h i (by omega)
    obtain ⟨x, hx⟩ := h n (by omega)
    refine ⟨l ++ [x], by simp [hl], fun i y hy => ?_⟩
    rcases Nat.lt_trichotomy i n with hi | rfl | hi
    · rw [List.getElem?_append_left (by omega)] at hy
      exact hq i y hy
    · rw [List.getElem?_append_right (by omega), hl] at hy
      simp at hy; subst hy; exact hx
    · rw [List.getElem?_eq_none (by simp; omega)] at hy; cases hy

theorem cell_lt {w : World} {a : Addr} {v : Value} (h : w.cell? a = some v) : a.block < w.heap.size := by
  rcases Nat.lt_or_ge a.block w.heap.size with hlt | hge
  · exact hlt
  · unfold World.cell? at h
    rw [Array.getElem?_eq_none hge] at h
    simp at h

section
variable {H : Type} {enc : TypeId × Value → H}

theorem wf_u8 {n : Int} (h : (Lit.int .u8 n).wf = true) : 0 ≤ n ∧ n < 256 := by
  obtain ⟨h0, h1⟩ : IntKind.u8.min ≤ n ∧ n ≤ IntKind.u8.max := by simpa [Lit.wf] using h
  have e0 : IntKind.u8.min = 0 := by decide
  have e1 : IntKind.u8.max = 255 := by decide
  omega

theorem wf_i64 {n : Int} (h : (Lit.int .i64 n).wf = true) : -9223372036854775808 ≤ n ∧ n ≤ 9223372036854775807 := by
  obtain ⟨h0, h1⟩ : IntKind.i64.min ≤ n ∧ n ≤ IntKind.i64.max := by simpa [Lit.wf] using h
  have e0 : IntKind.i64.min = -9223372036854775808 := by decide
  have e1 : IntKind.i64.max = 9223372036854775807 := by decide
  omega

theorem reach_eq : reachBytes = 140737488351232 := rfl
theorem cells27 : Try.prog.cellsOf 27 = 5 := by kernel_rfl
theorem bytes27 : Try.prog.bytesOf 27 = 64 := by kernel_rfl
theorem add_at (b o n : Nat) : (⟨b, o, none⟩ : Addr).add n = ⟨b, o + n, none⟩ := by
  unfold Addr.add; split <;> simp_all

theorem weights27 (ds : List (DataW H)) : (DataW.agg ds).weights Try.prog 27 = DataW.weightsEach Try.prog [23, 2, 9, 24, 25] ds := by
  rw [DataW.weights, Try.underlying27]; rfl

theorem weights24 (es rs : List (DataW H)) : (DataW.slice es rs).weights Try.prog 24 = (es.length + rs.length) * 64 :: (DataW.weightsAll Try.prog 27 es ++ DataW.weightsAll Try.prog 27 rs) := by
  rw [DataW.weights, Try.underlying24]; simp only [bytes27]

theorem weights9 (bs : List UInt8) : (DataW.lit (H := H) (.string bs)).weights Try.prog 9 = [bs.length] := by rw [DataW.weights]

theorem mem_weightsAll {P : Program} {e : TypeId} {m : Nat} : ∀ {ds : List (DataW H)} {d : DataW H}, d ∈ ds → m ∈ d.weights P e → m ∈ DataW.weightsAll P e ds
  | [], _, h, _ => by simp at h
  | d0 :: ds, d, h, hm => by
    rw [DataW.weightsAll, List.mem_append]
    rcases List.mem_cons.1 h with rfl | h
    · exact .inl hm
    · exact .inr (mem_weightsAll h hm)

set_option maxRecDepth 100000 in
set_option maxHeartbeats 1000000 in
theorem open_tree (W : World) (fuel : Nat) : ∀ (cs : List Value) (x : DataW H × List MemPlace), DataW.trod enc Try.prog W 0 (fun _ => true) true fuel 27 cs = some x → (∀ m ∈ x.1.weights Try.prog 27, m ≤ reachBytes) →
    ∃ t : T, cs = t.cells ∧ t.In W 0 W.heap.size := by
  induction fuel using Nat.strongRecOn with
  | ind fuel IH =>
    intro cs x h hw
    obtain ⟨xs, n, rfl, rfl, hlen, hxs, hg⟩ := DataW.trod_struct Try.underlying27 h
    rw [cells27] at hlen
    match cs, hlen, xs, hxs with
    | [c0, c1, c2, c3, c4], _, [y0, y1, y2, y3, y4], _ =>
      have g0 : DataW.trod enc Try.prog W 0 (fun _ => true) true n 23 [c0] = some y0 := hg 0 _ rfl
      have g1 : DataW.trod enc Try.prog W 0 (fun _ => true) true n 2 [c1] = some y1 := hg 1 _ rfl
      have g2 : DataW.trod enc Try.prog W 0 (fun _ => true) true n 9 [c2] = some y2 := hg 2 _ rfl
      have g3 : DataW.trod enc Try.prog W 0 (fun _ => true) true n 24 [c3] = some y3 := hg 3 _ rfl
      have g4 : DataW.trod enc Try.prog W 0 (fun _ => true) true n 25 [c4] = some y4 := hg 4 _ rfl
      obtain ⟨k, e0, rfl, wk⟩ := DataW.trod_int Try.underlying23 g0
      obtain ⟨m1, e1, rfl, wn⟩ := DataW.trod_int Try.underlying2 g1
      obtain ⟨s, e2, rfl, ws⟩ := DataW.trod_string Try.underlying9 g2
      obtain ⟨r, e4, rfl, wr⟩ := DataW.trod_int Try.underlying25 g4
      simp only [List.cons.injEq, and_true] at e0 e1 e2 e4
      subst e0 e1 e2 e4
      have hW : ∀ m, m ∈ (y3.1.weights Try.prog 24) ∨ m = s.data.toList.length → m ≤ reachBytes := by
        intro m hm
        refine hw m ?_
        rw [List.map_cons, List.map_cons, List.map_cons, List.map_cons, List.map_cons, weights27, DataW.weightsEach, DataW.weightsEach, DataW.weightsEach, DataW.weightsEach, weights9]
        rcases hm with hm | hm
        · exact List.mem_append_right _ (List.mem_append_right _ (List.mem_append_right _ (List.mem_append_left _ hm)))
        · exact List.mem_append_right _ (List.mem_append_right _ (List.mem_append_left _ (by rw [hm]; exact List.mem_singleton.2 rfl)))
      have hs : s.size ≤ 140737488351232 := by
        have := hW _ (.inr rfl)
        rw [reach_eq, Array.length_toList] at this
        exact this
      obtain ⟨k0, k1⟩ := wf_u8 wk
      obtain ⟨n0, n1⟩ := wf_i64 wn
      obtain ⟨r0, r1⟩ := wf_i64 wr
      rcases DataW.trod_slice Try.underlying24 g3 with ⟨e3, -⟩ | ⟨a, len, cap, elems, rest, n', rfl, e3, rfl, -, hcap, hmax, hel, hat, hsp, -⟩
      · simp only [List.cons.injEq, and_true] at e3
        subst e3
        exact ⟨T.mk k m1 s none 0 [] r, rfl, T.in_mk.2 ⟨⟨k0, k1, n0, n1, hs, by simp, Nat.le_refl _, r0, r1⟩, fun h => absurd rfl h, by simp⟩⟩
      · simp only [List.cons.injEq, and_true] at e3
        subst e3
        have hlen1 : len * 64 ≤ 140737488351232 := by
          have := hW ((elems.length + rest.length) * 64) (.inl (by rw [weights24]; simp))
          rw [reach_eq, hel] at this
          omega
        rw [cells27] at hat
        have hone : ∀ i, i < len → ∃ t : T, (∀ j u, t.cells[j]? = some u → W.cell? ((a.add (i * 5)).add j) = some u) ∧ t.In W 0 W.heap.size := by
          intro i hi
          have h1 := hat i hi
          have h2 : elems[i]? = some (elems[i]'(by omega)) := List.getElem?_eq_getElem (by omega)
          rw [h2] at h1
          obtain ⟨cs', hc, ht'⟩ := Option.bind_eq_some_iff.1 h1
          obtain ⟨t, rfl, hin⟩ := IH n' (by omega) cs' _ ht' (fun m hm => hW m (.inl (by
            rw [weights24]
            refine List.mem_cons_of_mem _ (List.mem_append_left _ ?_)
            exact mem_weightsAll (List.mem_map_of_mem (List.getElem_mem _)) hm)))
          obtain ⟨-, hcl, hcell⟩ := World.cells?_some hc
          refine ⟨t, fun j u hu => ?_, hin⟩
          have hj : j < 5 := by
            rcases Nat.lt_or_ge j 5 with h | h
            · exact h
            · rw [List.getElem?_eq_none (by rw [T.cells_length]; exact h)] at hu; cases hu
          rw [hcell j hj, hu]
        obtain ⟨l, hl, hq⟩ := choose_list len hone
        subst hl
        obtain ⟨b, o, sp⟩ := a
        refine ⟨T.mk k m1 s (some ⟨b, o, sp⟩) cap l r, rfl, T.in_mk.2 ⟨⟨k0, k1, n0, n1, hs, hlen1, hcap, r0, r1⟩, fun hne => ?_, fun x hx => ?_⟩⟩
        · have hlp : 0 < l.length := List.length_pos_iff.2 hne
          obtain ⟨hc0, -⟩ := hq 0 _ (List.getElem?_eq_getElem hlp)
          have hcc := hc0 0 _ (List.getElem?_eq_getElem (by rw [T.cells_length]; omega))
          have hspot : sp = none := by simpa [Addr.add] using World.cell?_spot hcc
          subst hspot
          have hlt := cell_lt hcc
          refine ⟨b, o, rfl, Nat.zero_le _, by simpa [Addr.add] using hlt, fun i x hx j u hu => ?_⟩
          have := (hq i x hx).1 j u hu
          rw [add_at, add_at] at this
          exact this
        · obtain ⟨i, hi, rfl⟩ := List.mem_iff_getElem.1 hx
          exact (hq i _ (List.getElem?_eq_getElem hi)).2

set_option maxRecDepth 100000 in
/-- An argument of the type Value. -/
theorem open_val {W : World} {b0 : Nat} {v : Value} {d : DataW H} {p : List MemPlace} (hv : Value.okWide Try.prog W .any b0 27 v) (h : DataW.Trod enc Try.prog W 0 (fun _ => true) true 27 v d p) (hw : ∀ m ∈ d.weights Try.prog 27, m ≤ reachBytes) :
    ∃ t : T, v = t.val ∧ t.In W 0 W.heap.size := by
  obtain ⟨cs, rfl, hsz⟩ := okWide_struct Try.underlying27 hv
  obtain ⟨fuel, hf⟩ := h
  obtain ⟨t, ht, hin⟩ := open_tree W fuel _ _ hf hw
  refine ⟨t, ?_, hin⟩
  cases t with
  | mk k n s A cap l r =>
    obtain ⟨cs⟩ := cs
    have ht' : cs = (T.mk k n s A cap l r).cells := ht
    rw [ht']
    rfl
end

end Go.Proofs.Ytihjmipmjogpoaa

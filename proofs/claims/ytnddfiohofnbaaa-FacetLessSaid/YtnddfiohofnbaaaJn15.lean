/- Texts joined: Gr, Gy, Ge, Gh, Gh2, Gq6. -/
import Derived.Test.YtnddfiohofnbaaaJn4
import Derived.Test.YtnddfiohofnbaaaJn6
import Derived.Test.YtnddfiohofnbaaaJn7
import Derived.Test.YtnddfiohofnbaaaJn14
import Derived.LoopN
import Derived.Deep.Cut
import Derived.Deep.CutRange
import Derived.Deep.RegionHeld3
import Derived.Deep.AppendLies
import Derived.Deep.Upon
/- Rows of one's own whose parts are of several cells: one part stored anew; a row of trees. -/
namespace Go.Proofs.Ytnddfiohofnbaaa
open Go.RowKit

/-- Some cells stored one behind the other. -/
def setRow (w : World) (g : Nat) : Nat → List Value → World
  | _, [] => w
  | o, u :: us => setRow (w.setCell ⟨g, o, none⟩ u) g (o + 1) us

theorem setRow_fr {S : Nat → Prop} {a : World} {g : Nat} (hg : g < a.heap.size → S g) : ∀ (us : List Value) (o : Nat) (w : World), Fr S a w → Fr S a (setRow w g o us)
  | [], _, _, h => h
  | u :: us, o, _w, h => setRow_fr hg us (o + 1) _ (h.set hg u)

theorem setRow_size (g : Nat) : ∀ (us : List Value) (o : Nat) (w : World), (setRow w g o us).heap.size = w.heap.size
  | [], _, _ => rfl
  | u :: us, o, w => (setRow_size g us (o + 1) _).trans (by simp [World.setCell])

theorem list_chunk : ∀ (us : List Value) (o : Nat) (xs : List Value), o + us.length ≤ xs.length → (xs.take o ++ us ++ xs.drop (o + us.length)).length = xs.length
  | us, o, xs, h => by simp; omega

theorem chunk_succ {u : Value} {us xs : List Value} {o : Nat} (h : o + (us.length + 1) ≤ xs.length) : (xs.set o u).take (o + 1) ++ us ++ (xs.set o u).drop (o + 1 + us.length) = xs.take o ++ (u :: us) ++ xs.drop (o + (us.length + 1)) := by
  have h1 : (xs.set o u).take (o + 1) = xs.take o ++ [u] := by
    rw [List.take_succ_eq_append_getElem (by simp; omega)]
    simp [List.take_set_of_le]
  have h2 : (xs.set o u).drop (o + 1 + us.length) = xs.drop (o + (us.length + 1)) := by
    rw [List.drop_set_of_lt (by omega)]
    congr 1
    omega
  rw [h1, h2]
  simp

theorem owns_putK {w : World} {base e size g n cap i : Nat} {xs : List Value} {u : Value} (h : w.ownsRow base e size (.slice (some ⟨g, 0, none⟩) n cap) n xs) : (w.setCell ⟨g, i, none⟩ u).ownsRow base e size (.slice (some ⟨g, 0, none⟩) n cap) n (xs.set i u) := by
  refine ⟨by simp [h.1], ?_⟩
  rcases h.2 with ⟨h1, _⟩ | ⟨g', cap', cur, h1, hb, hg, hc, hm, hsz, hx⟩
  · cases h1
  · simp only [Value.slice.injEq, Option.some.injEq, Addr.mk.injEq, and_true, true_and] at h1
    obtain ⟨rfl, rfl⟩ := h1
    refine .inr ⟨g, cap, cur.setIfInBounds i u, rfl, hb, ?_, hc, hm, by simp [hsz], ?_⟩
    · have : Blk (w.setCell ⟨g, i, none⟩ u) g e (cur.setIfInBounds i u) := Blk.set_ hg i u
      exact this
    · rw [← hx, Array.toList_setIfInBounds, List.take_set]

theorem owns_chunk {base : Nat} {e : TypeId} {size g n cap : Nat} : ∀ (us : List Value) (o : Nat) (w : World) (xs : List Value), w.ownsRow base e size (.slice (some ⟨g, 0, none⟩) n cap) n xs → o + us.length ≤ xs.length →
    (setRow w g o us).ownsRow base e size (.slice (some ⟨g, 0, none⟩) n cap) n (xs.take o ++ us ++ xs.drop (o + us.length))
  | [], o, w, xs, h, _ => by simpa [setRow] using h
  | u :: us, o, w, xs, h, hl => by
    have h1 := owns_putK (i := o) (u := u) h
    have h2 := owns_chunk us (o + 1) _ _ h1 (by simp at hl ⊢; omega)
    rw [setRow]
    rw [chunk_succ (by simpa using hl)] at h2
    exact h2

/-- A row of trees of one's own. -/
theorem row_of_owns {w : World} {base lo hi : Nat} {e : TypeId} {size : Nat} {A : Option Addr} {cap : Nat} {l : List G} (_hs : 0 < size) (h : w.ownsRow base e size (.slice A l.length cap) l.length (gCells l)) (hc : ∀ x ∈ l, x.c.length = size) (hin : ∀ x ∈ l, x.In w lo hi) (hb : lo ≤ base) (hh : w.heap.size ≤ hi) : (G.row A l).In w lo hi := by
  refine G.row_in.2 ⟨fun hne => ?_, hin⟩
  obtain ⟨g, c, hA, hg0, hg1⟩ := h.form (List.length_pos_iff.2 hne)
  simp only [Value.slice.injEq, true_and] at hA
  obtain ⟨rfl, rfl⟩ := hA
  refine ⟨g, 0, rfl, by omega, by omega, fun i x hx j u hu => ?_⟩
  have hxl := hc x (List.mem_of_getElem? hx)
  have := World.ownsRow.cells h (g := g) rfl _ _ (gCells_get hc hx hu)
  rw [add_at, ← Nat.add_assoc] at this
  rw [hxl]
  exact this

theorem row_td {w : World} {base : Nat} {e : TypeId} {size : Nat} {A : Option Addr} {cap n : Nat} {xs : List Value} {l : List G} (he : e = 37 ∨ e = 167 ∨ e = 170 ∨ e = 139 ∨ e = 9) (h : w.ownsRow base e size (.slice A n cap) n xs) (hn : n = l.length) (ht : ∀ x ∈ l, x.Td w) : (G.row A l).Td w := by
  subst hn
  intro b hb
  rcases G.row_has hb with ⟨a, rfl, hl, rfl⟩ | ⟨x, hx, hh⟩
  · rcases h.2 with ⟨h0, -⟩ | ⟨g, cap', cur, h1, -, hg, -⟩
    · cases h0
    · simp only [Value.slice.injEq, Option.some.injEq, true_and] at h1
      obtain ⟨rfl, rfl⟩ := h1
      exact ⟨e, cur, he, hg⟩
  · exact ht x hx b hh

/-- The part of a row, replaced. -/
theorem gCells_chunk {l1 l2 : List G} {x y : G} {size : Nat} (h1 : ∀ z ∈ l1, z.c.length = size) (hx : x.c.length = size) (hy : y.c.length = size) :
    (gCells (l1 ++ x :: l2)).take (l1.length * size) ++ y.c ++ (gCells (l1 ++ x :: l2)).drop (l1.length * size + y.c.length) = gCells ((l1 ++ [y]) ++ l2) := by
  have e1 : (gCells l1).length = l1.length * size := gCells_length h1
  have e2 : gCells (l1 ++ x :: l2) = gCells l1 ++ (x.c ++ gCells l2) := by simp [gCells]
  rw [e2, ← e1, List.take_left, hy, ← List.drop_drop, List.drop_left, ← hx, List.drop_left]
  simp [gCells]

/-- A row that came in, its cells. -/
theorem lies_row {w : World} {lo hi : Nat} {A : Option Addr} {l : List G} {size : Nat} (h : (G.row A l).In w lo hi) (hc : ∀ x ∈ l, x.c.length = size) (h1 : ∀ x ∈ l, ∀ u ∈ x.c, u.oneCell' = true) (hs : 0 < size) : Lies w lo hi A l.length size (gCells l) := by
  refine ⟨gCells_length hc, fun u hu => ?_, fun hn => ?_⟩
  · obtain ⟨x, hx, hu⟩ := List.mem_flatMap.1 hu
    exact h1 x hx u hu
  · obtain ⟨b, o, rfl, h0, h2, hcell⟩ := (G.row_in.1 h).1 (by rintro rfl; simp at hn)
    refine ⟨b, o, rfl, h0, h2, fun j u hu => ?_⟩
    have hj : j < l.length * size := by rw [← gCells_length hc]; exact (List.getElem?_eq_some_iff.1 hu).1
    have hi : j / size < l.length := by rw [Nat.div_lt_iff_lt_mul hs]; exact hj
    have hx := List.getElem?_eq_getElem hi
    have hxc := hc _ (List.getElem_mem hi)
    have hr : j % size < l[j / size].c.length := by rw [hxc]; exact Nat.mod_lt _ hs
    have hu2 := List.getElem?_eq_getElem hr
    have e := gCells_get hc hx hu2
    have ej : j / size * size + j % size = j := by rw [Nat.mul_comm]; exact Nat.div_add_mod j size
    rw [ej, hu] at e
    have := hcell _ _ hx _ _ hu2
    rw [hxc, Nat.add_assoc, ej] at this
    rw [this]
    exact e.symm ▸ rfl

end Go.Proofs.Ytnddfiohofnbaaa

/- A row's parts, each laid in memory of its own: how a loop stands that does so. -/
namespace Go.Proofs.Ytnddfiohofnbaaa
open Go.RowKit

theorem fits_one : ∀ {fs : List Fd} {c : List Value} {s : List (Option Addr × List G)}, FitsF fs c s → ∀ u ∈ c, u.oneCell' = true
  | [], c, s, h, u, hu => by obtain ⟨rfl, rfl⟩ := h; simp at hu
  | .int k :: fs, [], s, h, _, _ => h.elim
  | .int k :: fs, v :: c, s, h, u, hu => by
    obtain ⟨⟨n, rfl, -⟩, h2⟩ := h
    rcases List.mem_cons.1 hu with rfl | hu
    · rfl
    · exact fits_one h2 u hu
  | .bool :: fs, [], s, h, _, _ => h.elim
  | .bool :: fs, v :: c, s, h, u, hu => by
    obtain ⟨⟨n, rfl⟩, h2⟩ := h
    rcases List.mem_cons.1 hu with rfl | hu
    · rfl
    · exact fits_one h2 u hu
  | .str :: fs, [], s, h, _, _ => h.elim
  | .str :: fs, v :: c, s, h, u, hu => by
    obtain ⟨⟨n, rfl, -⟩, h2⟩ := h
    rcases List.mem_cons.1 hu with rfl | hu
    · rfl
    · exact fits_one h2 u hu
  | .sl e z :: fs, [], s, h, _, _ => h.elim
  | .sl e z :: fs, v :: c, [], h, _, _ => h.elim
  | .sl e z :: fs, v :: c, x :: s, h, u, hu => by
    obtain ⟨⟨n, rfl, -⟩, h2⟩ := h
    rcases List.mem_cons.1 hu with rfl | hu
    · rfl
    · exact fits_one h2 u hu

theorem ty_one {t : TypeId} {g : G} (h : Ty t g) : ∀ u ∈ g.c, u.oneCell' = true := by
  cases h with
  | mk _ _ _ h hk => exact fits_one h

theorem Lies.no {w w' : World} {lo hi : Nat} {A : Option Addr} {n size : Nat} {xs : List Value} (h : Lies w lo hi A n size xs) (f : Fr No w w') (hh : hi ≤ w.heap.size) : Lies w' lo hi A n size xs := by
  refine ⟨h.len, h.one, fun hn => ?_⟩
  obtain ⟨b, o, hA, h0, h1, hc⟩ := h.at_ hn
  exact ⟨b, o, hA, h0, h1, fun j u hu => (f.cell (by omega) fun h => h).trans (hc j u hu)⟩

/-- A tree of the same data in memory of its own. -/
def OwnXP (t : TypeId) (g : G) (w : World) (e : Ending) (w' : World) : Prop :=
  ∃ g' : G, e = .returned (.agg g'.c.toArray) ∧ Ty t g' ∧ g'.er = g.er ∧ g'.In w' w.heap.size w'.heap.size ∧ g'.Td w' ∧ Fr No w w'

/-- Where a loop over a row's parts stands that lays a tree of its own for each: e the parts' type, size their cells. -/
structure OwnRI (e : TypeId) (size : Nat) (w : World) (base mid : Nat) (A : Option Addr) (cap : Nat) (l : List G) (j : Nat) (l' : List G) (wr : World) : Prop where
  len : l'.length = j
  ty : ∀ x ∈ l', Ty e x
  er : l'.map G.er = (l.take j).map G.er
  fr : Fr No w wr
  row : wr.ownsRow base e size (.slice A l.length cap) l.length (gCells (l' ++ l.drop j))
  gm : ∀ g, (Value.slice A l.length cap).ownBlock = some g → g < mid
  inn : ∀ x ∈ l', x.In wr mid wr.heap.size
  td : ∀ x ∈ l', x.Td wr
  big : w.heap.size ≤ base ∧ base ≤ mid ∧ mid ≤ wr.heap.size

section
variable {e : TypeId} {size : Nat} {w wr w2 : World} {base mid : Nat} {A : Option Addr} {cap : Nat} {l l' : List G} {j : Nat}

theorem OwnRI.no (h : OwnRI e size w base mid A cap l j l' wr) (f : Fr No wr w2) : OwnRI e size w base mid A cap l j l' w2 :=
  ⟨h.len, h.ty, h.er, h.fr.trans f, owns_fr h.row f fun _ _ h => h, h.gm, fun x hx => G.In.more (Nat.le_refl _) f.size _ ((h.inn x hx).no f (Nat.le_refl _)), fun x hx => (h.td x hx).fr f fun _ _ h => h, h.big.1, h.big.2.1, Nat.le_trans h.big.2.2 f.size⟩

theorem OwnRI.at_ (h : OwnRI e size w base mid A cap l j l' wr) (hj : j < l.length) (hc : ∀ x ∈ l, x.c.length = size) (hc' : ∀ x ∈ l', x.c.length = size) : ∃ g, A = some ⟨g, 0, none⟩ ∧ base ≤ g ∧ g < mid ∧ (∀ i u, l[j].c[i]? = some u → wr.cell? ⟨g, j * size + i, none⟩ = some u) ∧ ∀ i, wr.frozen? ⟨g, i, none⟩ = false := by
  obtain ⟨g, c, hA, hg0, hg1⟩ := h.row.form (by omega)
  simp only [Value.slice.injEq, true_and] at hA
  obtain ⟨rfl, rfl⟩ := hA
  refine ⟨g, rfl, hg0, h.gm g rfl, fun i u hu => ?_, fun i => World.ownsRow.frozenAt h.row i⟩
  have hx : (l' ++ l.drop j)[j]? = some l[j] := by
    rw [List.getElem?_append_right (by rw [h.len]; exact Nat.le_refl _), h.len, Nat.sub_self, List.getElem?_drop]
    simp [hj]
  have := World.ownsRow.cells h.row (g := g) rfl _ _ (gCells_get (n := size) (fun x hx => by
    rcases List.mem_append.1 hx with hx | hx
    · exact hc' x hx
    · exact hc x (List.mem_of_mem_drop hx)) hx hu)
  rwa [add_at, Nat.zero_add] at this

/-- A part more. -/
theorem OwnRI.step {g : Nat} (h : OwnRI e size w base mid (some ⟨g, 0, none⟩) cap l j l' wr) (hj : j < l.length) (hc : ∀ x ∈ l, x.c.length = size) (hc' : ∀ x ∈ l', x.c.length = size) (f : Fr No wr w2) {y : G} (hy : Ty e y) (hye : y.er = l[j].er) (hyl : y.c.length = size)
    (hyi : y.In w2 wr.heap.size w2.heap.size) (hyt : y.Td w2) : OwnRI e size w base mid (some ⟨g, 0, none⟩) cap l (j + 1) (l' ++ [y]) (setRow w2 g (j * size) y.c) := by
  have hdrop : l.drop j = l[j] :: l.drop (j + 1) := List.drop_eq_getElem_cons hj
  have h2 := h.no f
  have hgm := h.gm g rfl
  have hgb := (owns_lt h.row g rfl).1
  have hb := h.big
  have fs : Fr (fun i => i = g) w2 (setRow w2 g (j * size) y.c) := setRow_fr (S := fun i => i = g) (fun _ => rfl) _ _ _ (Fr.refl (fun i => i = g) w2)
  have hsz : (gCells (l' ++ l.drop j)).length = l.length * size := h2.row.1
  have hle : j * size + y.c.length ≤ (gCells (l' ++ l.drop j)).length := by
    rw [hsz, hyl, ← Nat.succ_mul]
    exact Nat.mul_le_mul_right _ hj
  have hchunk := owns_chunk y.c (j * size) w2 _ h2.row hle
  rw [hdrop] at hchunk
  have e1 := gCells_chunk (l1 := l') (l2 := l.drop (j + 1)) (x := l[j]) (y := y) (size := size) hc' (hc _ (List.getElem_mem hj)) hyl
  rw [h.len] at e1
  rw [e1] at hchunk
  have hs2 := f.size
  refine ⟨by simp [h.len], fun x hx => ?_, ?_, h2.fr.trans' fs (fun i hi h => ?_), hchunk, h.gm, fun x hx => ?_, fun x hx => ?_, h.big.1, h.big.2.1, ?_⟩
  · rcases List.mem_append.1 hx with hx | hx
    · exact h.ty x hx
    · simp at hx; subst hx; exact hy
  · rw [List.map_append, h.er, List.take_succ_eq_append_getElem hj, List.map_append]
    simp [hye]
  · have h' : i = g := h
    omega
  · rcases List.mem_append.1 hx with hx | hx
    · exact G.In.more (Nat.le_refl _) fs.size _ ((h2.inn x hx).fr fs (Nat.le_refl _) fun i h0 h1 hi => by have h' : i = g := hi; omega)
    · simp at hx; subst hx
      exact G.In.more (by omega) fs.size _ (hyi.fr fs (Nat.le_refl _) fun i h0 h1 hi => by have h' : i = g := hi; omega)
  · rcases List.mem_append.1 hx with hx | hx
    · exact (h2.td x hx).fr fs fun b hb hi => by have h' : b = g := hi; have := G.In.has hb (h2.inn x hx); omega
    · simp at hx; subst hx
      exact hyt.fr fs fun b hb hi => by have h' : b = g := hi; have := G.In.has hb hyi; omega
  · have := fs.size
    omega

/-- Behind the last part. -/
theorem OwnRI.row_in (h : OwnRI e size w base mid A cap l l.length l' wr) (hs : 0 < size) (hc' : ∀ x ∈ l', x.c.length = size) : (G.row A l').In wr base wr.heap.size := by
  have hr := h.row
  rw [List.drop_length, List.append_nil] at hr
  have hl := h.len
  rw [← hl] at hr
  exact row_of_owns hs hr hc' (fun x hx => G.In.more (Nat.le_trans (Nat.le_refl _) h.big.2.1) (Nat.le_refl _) _ (h.inn x hx)) (Nat.le_refl _) (Nat.le_refl _)

theorem OwnRI.row_td (h : OwnRI e size w base mid A cap l l.length l' wr) (he : e = 37 ∨ e = 167 ∨ e = 170 ∨ e = 139 ∨ e = 9) : (G.row A l').Td wr :=
  Go.Proofs.Ytnddfiohofnbaaa.row_td he h.row h.len.symm h.td

theorem OwnRI.ers (h : OwnRI e size w base mid A cap l l.length l' wr) : l'.map G.er = l.map G.er := by
  rw [h.er, List.take_length]

/-- Its start: a clone. -/
theorem OwnRI.start (ho : wr.ownsRow base e size (.slice A l.length cap) l.length (gCells l)) (f : Fr No w wr) (hb : w.heap.size ≤ base) (hb2 : base ≤ wr.heap.size) : OwnRI e size w base wr.heap.size A cap l 0 [] wr :=
  ⟨rfl, by simp, by simp, f, by simpa using ho, fun g hg => (owns_lt ho g hg).2, by simp, by simp, hb, hb2, Nat.le_refl _⟩
end

end Go.Proofs.Ytnddfiohofnbaaa

/- world.ownExpr: an expression in memory of its own. -/
namespace Go.Proofs.Ytnddfiohofnbaaa
open Go.RowKit

theorem wf_of_u8 {n : Int} (h0 : 0 ≤ n) (h1 : n < 256) : (Lit.int .u8 n).wf = true := by
  have e0 : IntKind.u8.min = 0 := by decide
  have e1 : IntKind.u8.max = 255 := by decide
  simp only [Lit.wf, e0, e1, Bool.and_eq_true, decide_eq_true_eq]
  omega

theorem wf_of_i64 {n : Int} (h0 : -9223372036854775808 ≤ n) (h1 : n ≤ 9223372036854775807) : (Lit.int .i64 n).wf = true := by
  have e0 : IntKind.i64.min = -9223372036854775808 := by decide
  have e1 : IntKind.i64.max = 9223372036854775807 := by decide
  simp only [Lit.wf, e0, e1, Bool.and_eq_true, decide_eq_true_eq]
  omega

theorem owns_leK {w : World} {base : Nat} {e : TypeId} {size n cap : Nat} {A : Option Addr} {xs : List Value} (h : w.ownsRow base e size (.slice A n cap) n xs) : n ≤ cap := by
  rcases h.2 with ⟨h0, h1⟩ | ⟨g, cap', cur, h0, -, -, h3, -⟩
  · simp at h0; omega
  · simp at h0; omega

theorem cells4_fr {w w2 : World} {g p : Nat} {a b c d : Value} (f : Fr No w w2) (hg : g < w.heap.size) (x0 : w.cell? ⟨g, p, none⟩ = some a) (x1 : w.cell? ⟨g, p + 1, none⟩ = some b) (x2 : w.cell? ⟨g, p + 2, none⟩ = some c) (x3 : w.cell? ⟨g, p + 3, none⟩ = some d) (hz : ∀ i, w.frozen? ⟨g, i, none⟩ = false) :
    ∃ a b c d, w2.cell? ⟨g, p, none⟩ = some a ∧ w2.cell? ⟨g, p + 1, none⟩ = some b ∧ w2.cell? ⟨g, p + 2, none⟩ = some c ∧ w2.cell? ⟨g, p + 3, none⟩ = some d ∧ (∀ i, w2.frozen? ⟨g, i, none⟩ = false) ∧ g < w2.heap.size :=
  ⟨a, b, c, d, (f.cell hg fun h => h).trans x0, (f.cell hg fun h => h).trans x1, (f.cell hg fun h => h).trans x2, (f.cell hg fun h => h).trans x3, fun i => (f.frozen hg fun h => h).trans (hz i), Nat.lt_of_lt_of_le hg f.size⟩

set_option maxRecDepth 100000 in
set_option maxHeartbeats 8000000 in
theorem ownExpr_any (g : G) : ∀ (w : World) (lo hi : Nat), Ty 167 g → g.In w lo hi → hi ≤ w.heap.size → Calls Try.prog 121 #[.agg g.c.toArray] w (OwnXP 167 g w) := by
  induction g using G.ind with
  | h c subs ih =>
    intro w lo hi hty hin hh
    obtain ⟨k, n, s, A, cap, l, e, fit, hk⟩ := ty_expr hty
    injection e with e1 e2
    subst e1 e2
    have hrow := G.in_rows.1 hin A l (by simp)
    have hcl : ∀ x ∈ l, x.c.length = 4 := fun x hx => (hasTy_length (hk x hx)).trans (by rw [flat_expr]; rfl)
    have hlies := lies_row hrow hcl (fun x hx => ty_one (hk x hx)) (by omega)
    have hlen := fit.len1
    have HC := hide fun W' (f : Fr No w W') => cloneExp A l.length cap (gCells l) W' lo hi (hlies.no f hh) (Nat.le_trans hh f.size) hlen
    have HIH := hide fun (x : G) (hx : x ∈ l) W' (f : Fr No w W') => ih A l (by simp) x hx W' lo hi (hk x hx) ((G.in_mk.1 hin A l (by simp)).2 x hx |>.no f hh) (Nat.le_trans hh f.size)
    have HFIT := hide fit
    have HCL := hide hcl
    have HTY := hide hk
    have hb0 := (Blk.new w 167 #[.int .u8 k, .int .i64 n, .string s, .slice A l.length cap]).alloc (.cells #[.int .u8 0, .int .i64 0, .string ⟨#[]⟩, .slice none 0 0] 167)
    have hb1 := Blk.new' (w.alloc (.cells #[.int .u8 k, .int .i64 n, .string s, .slice A l.length cap] 167)) 167 #[.int .u8 0, .int .i64 0, .string ⟨#[]⟩, .slice none 0 0] (g := w.heap.size + 1) (by simp)
    have hf0 := ((Fr.refl No w).alloc (.cells #[.int .u8 k, .int .i64 n, .string s, .slice A l.length cap] 167)).alloc (.cells #[.int .u8 0, .int .i64 0, .string ⟨#[]⟩, .slice none 0 0] 167)
    have HB0 := hide hb0
    have HB1 := hide hb1
    have HF0 := hide hf0
    have hz0 : w.heap.size + 2 ≤ ((w.alloc (.cells #[.int .u8 k, .int .i64 n, .string s, .slice A l.length cap] 167)).alloc (.cells #[.int .u8 0, .int .i64 0, .string ⟨#[]⟩, .slice none 0 0] 167)).heap.size := by simp
    have HZ0 := hide hz0
    clear hb0 hb1 hf0 hz0 fit hcl hk hlies hrow hin hty ih
    show Calls Try.prog 121 #[.agg #[.int .u8 k, .int .i64 n, .string s, .slice A l.length cap]] w _
    go_enter Try.func121, Try.ntmps121
    go_wp2_with fail
    generalize hW0 : World.alloc (World.alloc w _) _ = W0 at *
    refine (HC.out W0 HF0.out).mono ?_
    rintro e w1 ⟨A', c', rfl, ho, f1⟩
    have hb := HB0.out.fr f1 fun h => h
    have hz := hb.frozen
    have hq := hb.lt
    have h30 : w1.cell? ⟨w.heap.size, 3, none⟩ = some (.slice A l.length cap) := hb.cell 3
    go_upto_region 2 with (fail)
    have hb' := hb.set_ 3 (.slice A' l.length c')
    have hb1 := (HB1.out.fr f1 fun h => h).far (p := ⟨w.heap.size, 3, none⟩) (by simp) (.slice A' l.length c')
    have hlt0 : ∀ g, (Value.slice A' l.length c').ownBlock = some g → w.heap.size + 2 ≤ g ∧ g < w1.heap.size := fun g hg => by have := owns_lt ho g hg; have := HZ0.out; omega
    have fs : Fr (fun i => i = w.heap.size) w1 (w1.setCell ⟨w.heap.size, 3, none⟩ (.slice A' l.length c')) := (Fr.refl (fun i => i = w.heap.size) w1).set (fun _ => rfl) _
    have ho' := owns_fr ho fs fun g hg h => by have h' : g = w.heap.size := h; have := (hlt0 g hg).1; omega
    have hf1 : Fr No w (w1.setCell ⟨w.heap.size, 3, none⟩ (.slice A' l.length c')) := (HF0.out.trans f1).trans' fs fun i hi h => by have h' : i = w.heap.size := h; omega
    have hst := OwnRI.start (w := w) ho' hf1 (by have := HZ0.out; omega) (by have := fs.size; have := f1.size; omega)
    simp only [List.setIfInBounds_toArray, List.set_cons_zero, List.set_cons_succ] at hb'
    clear hb hz hq fs ho' hf1 hlt0 ho f1 h30
    generalize World.setCell w1 _ _ = W1 at *
    have HB0' := hide hb'
    have HB1' := hide hb1
    have HST := hide hst
    have HM0 := hide (show w.heap.size + 2 ≤ W0.heap.size from HZ0.out)
    have h3 : W1.cell? ⟨w.heap.size, 3, none⟩ = some (.slice A' l.length c') := hb'.cell 3
    have hq3 := hb'.lt
    clear hb' hb1 hst HC HB0 HB1
    go_wp2_with fail
    go_loopw [12] (fun i wr => ∃ (j : Nat) (l' : List G), j ≤ l.length ∧ i = .int .i64 j ∧ OwnRI 167 4 w W0.heap.size W1.heap.size A' c' l j l' wr ∧ Blk wr w.heap.size 167 #[.int .u8 k, .int .i64 n, .string s, .slice A' l.length c'] ∧ Blk wr (w.heap.size + 1) 167 #[.int .u8 0, .int .i64 0, .string ⟨#[]⟩, .slice none 0 0])
      (fun i _ => l.length - (intOf i).toNat)
    case atStart => exact ⟨0, [], Nat.zero_le _, rfl, HST.out, HB0'.out, HB1'.out⟩
    case round =>
      obtain ⟨j, l', hj, rfl, inv, b0, b1⟩ := hrel
      have hcl' : ∀ x ∈ l', x.c.length = 4 := fun x hx => (hasTy_length (inv.ty x hx)).trans (by rw [flat_expr]; rfl)
      by_cases hlt : j < l.length
      · obtain ⟨gr, rfl, hg0, hg1, hce, hfz⟩ := inv.at_ hlt HCL.out hcl'
        obtain ⟨k1, n1, s1, A1, cap1, l1, hx, -, -⟩ := ty_expr (HTY.out _ (List.getElem_mem hlt))
        rw [hx] at hce
        have x0 : wr.cell? ⟨gr, j * 4, none⟩ = some (.int .u8 k1) := hce 0 _ rfl
        have x1 : wr.cell? ⟨gr, j * 4 + 1, none⟩ = some (.int .i64 n1) := hce 1 _ rfl
        have x2 : wr.cell? ⟨gr, j * 4 + 2, none⟩ = some (.string s1) := hce 2 _ rfl
        have x3 : wr.cell? ⟨gr, j * 4 + 3, none⟩ = some (.slice A1 l1.length cap1) := hce 3 _ rfl
        have hgl : gr < wr.heap.size := by have := inv.big.2.2; omega
        have IH := HIH.out l[j] (List.getElem_mem hlt)
        rw [hx] at IH
        have d3 : wr.cell? ⟨w.heap.size, 3, none⟩ = some (.slice (some ⟨gr, 0, none⟩) l.length c') := b0.cell 3
        have dq := b0.lt
        have HIV := hide inv
        have HIH2 := hide IH
        have HX := hide hx
        have HB0r := hide b0
        have HB1r := hide b1
        clear hce inv IH hx b0 b1 HIH
        go_upto_region 5 with (fail)
        have HY := hide (Blk.new wr 167 #[.int .u8 k1, .int .i64 n1, .string s1, .slice A1 l1.length cap1])
        have hfa := (Fr.refl No wr).alloc (.cells #[.int .u8 k1, .int .i64 n1, .string s1, .slice A1 l1.length cap1] 167)
        have HFA := hide hfa
        have hsa : wr.heap.size + 1 ≤ (wr.alloc (.cells #[.int .u8 k1, .int .i64 n1, .string s1, .slice A1 l1.length cap1] 167)).heap.size := by simp
        clear hfa
        generalize hWa : World.alloc wr _ = Wa at *
        have y0 : Wa.cell? ⟨wr.heap.size, 0, none⟩ = some (.int .u8 k1) := HY.out.cell 0
        have y1 : Wa.cell? ⟨wr.heap.size, 1, none⟩ = some (.int .i64 n1) := HY.out.cell 1
        have y2 : Wa.cell? ⟨wr.heap.size, 2, none⟩ = some (.string s1) := HY.out.cell 2
        have y3 : Wa.cell? ⟨wr.heap.size, 3, none⟩ = some (.slice A1 l1.length cap1) := HY.out.cell 3
        have yq := HY.out.lt
        have z3 : Wa.cell? ⟨w.heap.size, 3, none⟩ = some (.slice (some ⟨gr, 0, none⟩) l.length c') := (HFA.out.cell dq fun h => h).trans d3
        have zq : w.heap.size < Wa.heap.size := by omega
        have HXX := hide (fun (w2 : World) (f : Fr No wr w2) => cells4_fr f hgl x0 x1 x2 x3 hfz)
        have HD3 := hide (fun (w2 : World) (f : Fr No wr w2) => And.intro ((f.cell (o := 3) (s := none) dq fun h => h).trans d3) (Nat.lt_of_lt_of_le dq f.size))
        have HG0 := hide hg0
        clear x0 x1 x2 x3 hfz d3 dq hsa hWa h3 hq3 hg0 hg1 hgl
        go_region_with ((go_at_call 121; refine (HIH2.out _ (HIV.out.fr.trans HFA.out.drew)).mono ?_; rintro e w2 ⟨y, he, hty, her, hyin, htd, f2⟩; obtain ⟨k2, n2, s2, A2, cap2, l2, rfl, -, -⟩ := ty_expr hty; obtain rfl : e = .returned (.agg #[.int .u8 k2, .int .i64 n2, .string s2, .slice A2 l2.length cap2]) := he; have f02 := HFA.out.drew.trans f2; obtain ⟨v3, vq⟩ := HD3.out _ f02; obtain ⟨u0v, u1v, u2v, u3v, u0, u1, u2, u3, uf, ug⟩ := HXX.out _ f02; have HTY2 := hide hty; have HER := hide her; have HYI := hide hyin; have HTD := hide htd; have HF2 := hide f02; clear hty her hyin htd f2 f02))
        all_goals
          go_simp
          go_wp2_with fail
          go_roundw
          case rel =>
            have hst := HIV.out.step hlt HCL.out hcl' HF2.out HTY2.out (by rw [HX.out]; exact HER.out) rfl (G.In.more (by have := HFA.out.size; exact this) (Nat.le_refl _) _ HYI.out) HTD.out
            have hne : w.heap.size ≠ gr ∧ w.heap.size + 1 ≠ gr := by have := HG0.out; have := HM0.out; omega
            have hfs : Fr (fun i => i = gr) w2 (setRow w2 gr (j * 4) [.int .u8 k2, .int .i64 n2, .string s2, .slice A2 l2.length cap2]) := setRow_fr (S := fun i => i = gr) (fun _ => rfl) _ _ _ (Fr.refl (fun i => i = gr) w2)
            have hq0 := (HB0r.out.fr HF2.out fun h => h).fr hfs hne.1
            have hq1 := (HB1r.out.fr HF2.out fun h => h).fr hfs hne.2
            exact ⟨j + 1, _, hlt, by go_num, hst, hq0, hq1⟩
          case measure => simp [intOf]; omega
      · obtain rfl : l.length = j := by omega
        have c0 : wr.cell? ⟨w.heap.size, 0, none⟩ = some (.int .u8 k) := b0.cell 0
        have c1 : wr.cell? ⟨w.heap.size, 1, none⟩ = some (.int .i64 n) := b0.cell 1
        have c2 : wr.cell? ⟨w.heap.size, 2, none⟩ = some (.string s) := b0.cell 2
        have c3 : wr.cell? ⟨w.heap.size, 3, none⟩ = some (.slice A' l.length c') := b0.cell 3
        have cq := b0.lt
        have d0 : wr.cell? ⟨w.heap.size + 1, 0, none⟩ = some (.int .u8 0) := b1.cell 0
        have d1 : wr.cell? ⟨w.heap.size + 1, 1, none⟩ = some (.int .i64 0) := b1.cell 1
        have d2 : wr.cell? ⟨w.heap.size + 1, 2, none⟩ = some (.string ⟨#[]⟩) := b1.cell 2
        have d3 : wr.cell? ⟨w.heap.size + 1, 3, none⟩ = some (.slice none 0 0) := b1.cell 3
        have df := b1.frozen
        have dq := b1.lt
        have HIV := hide inv
        clear inv b0 b1 h3 hq3
        go_wp2
        refine bodyPost_ret (v := .agg #[.int .u8 k, .int .i64 n, .string s, .slice A' l.length c']) (by simp [results, Try.results121, go_sem, *]) rfl ?_
        generalize hW : World.setCell _ _ _ = W
        have hfr : Fr (fun i => i = w.heap.size + 1) wr W := by
          rw [← hW]
          repeat (first | with_reducible exact Fr.refl _ wr | with_reducible refine Fr.set ?_ (by simp) _)
        have inv := HIV.out
        have hm0 := HM0.out
        have hb := inv.big
        have hri := inv.row_in (by omega) hcl'
        have hrt := inv.row_td (.inr (.inl rfl))
        have hne : ∀ b, (G.row A' l').Has b → ¬ (b = w.heap.size + 1) := fun b hbb h => by have := G.In.has hbb hri; omega
        have hri' := hri.frH hfr (Nat.le_refl _) hne
        refine ⟨.mk [.int .u8 k, .int .i64 n, .string s, .slice A' l.length c'] [(A', l')], rfl, ?_, ?_, ?_, ?_, inv.fr.trans' hfr fun i hi h => by have h' : i = w.heap.size + 1 := h; omega⟩
        · have hfit := HFIT.out
          rw [← inv.len]
          refine .mk _ _ _ ?_ fun i e A'' l'' x he hs hx => ?_
          · rw [flat_expr]
            exact ⟨⟨k, rfl, wf_of_u8 hfit.k0 hfit.k1⟩, ⟨n, rfl, wf_of_i64 hfit.n0 hfit.n1⟩, ⟨s, rfl, hfit.s1⟩, ⟨c', rfl, by rw [inv.len]; exact owns_leK inv.row, by rw [inv.len]; exact hfit.len1⟩, rfl, rfl⟩
          · rw [flat_expr] at he
            cases i with
            | zero =>
              simp [sls] at he hs
              obtain ⟨rfl, rfl⟩ := hs
              subst he
              exact inv.ty x hx
            | succ i => simp at hs
        · rw [G.er_mk, G.er_mk]
          simp [erV, inv.ers]
        · refine G.in_rows.2 fun A'' l'' hm => ?_
          simp at hm
          obtain ⟨rfl, rfl⟩ := hm
          exact G.In.more (by omega) hfr.size _ hri'
        · intro b hbb
          obtain ⟨A'', l'', hm, hh2⟩ := G.mk_has.1 hbb
          simp at hm
          obtain ⟨rfl, rfl⟩ := hm
          exact hrt.fr hfr hne b hh2

end Go.Proofs.Ytnddfiohofnbaaa

/- world.held of whatever thing: the references in its values and names. -/
namespace Go.Proofs.Ytnddfiohofnbaaa
open Go.RowKit

def refRow (L : List Int) : List Value := L.map fun r => Value.int .i64 r

theorem refRow_one (L : List Int) : ∀ u ∈ refRow L, u.oneCell' = true := by
  intro u hu
  obtain ⟨x, _, rfl⟩ := List.mem_map.1 hu
  rfl

theorem refRow_length (L : List Int) : (refRow L).length = L.length := by simp [refRow]

set_option maxRecDepth 100000 in
/-- append(l, m...), of references of one's own. -/
theorem run_app_refs (w : World) (base base2 : Nat) (v v2 : Value) (L M : List Int) (hown : w.ownsRow base 28 1 v L.length (refRow L)) (h2 : w.ownsRow base2 28 1 v2 M.length (refRow M)) (hl : L.length + M.length ≤ 1000000000) (hb : base ≤ w.heap.size) (ty : TypeId) :
    ∃ v' w', (Builtin.append_ #[40, 40] ty #[v, v2]).run Try.prog w = .ok v' w' ∧ w'.ownsRow base 28 1 v' (L ++ M).length (refRow (L ++ M)) ∧ w.grownBy w' v.ownBlock := by
  obtain ⟨i0, hi0, hz0, hz1, hz2⟩ := info_parts ref_info
  obtain ⟨A, c, rfl⟩ := owns_form hown
  obtain ⟨A2, c2, rfl⟩ := owns_form h2
  have hle := owns_leK hown
  by_cases h0 : M = []
  · subst h0
    refine ⟨.slice A L.length c, w, ?_, by simpa using hown, World.grownBy.refl _ _⟩
    cases A2 with
    | none => exact run_append_nothing (P := Try.prog) w 40 40 ty 28 i0 Try.underlying40 hi0 A L.length c hle _ (Src.ofNil w Try.underlying40 c2)
    | some a => exact run_append_nothing (P := Try.prog) w 40 40 ty 28 i0 Try.underlying40 hi0 A L.length c hle _ (Src.ofSlice w Try.underlying40 a 0 c2 [] (by simp) (by simp) (by simp))
  · obtain ⟨g, c', hA, hg0, hg1⟩ := h2.form (List.length_pos_iff.2 h0)
    simp only [Value.slice.injEq, true_and] at hA
    obtain ⟨rfl, rfl⟩ := hA
    obtain ⟨g2, cap2, w', hrun, hown', hgr, hat, hlt⟩ := run_append_lies (P := Try.prog) w 40 ty base 28 i0 _ 1 8 Try.underlying40 hi0 hz0 hz1 hz2 rfl (by omega) (.slice A L.length c) L.length (refRow L) hown ⟨g, 0, none⟩ M.length c2 (refRow M) (by simp [refRow]) (fun j u hu => World.ownsRow.cells h2 (g := g) rfl j u hu) (refRow_one M) (List.length_pos_iff.2 h0) (by unfold maxLen; omega) (by omega) hb _ rfl
    refine ⟨_, w', hrun, ?_, hgr⟩
    rw [List.length_append]
    unfold refRow at hown' ⊢
    rw [List.map_append]
    exact hown'

set_option maxRecDepth 100000 in
/-- .. for the walk. -/
theorem wpList_app_refs {ops : Array Oper} {rest : List Oper} {o : Oper} {a : Act} {Q : Exit → Act → World → Prop} (w : World) (hgd : o.guard = none) (s x : Operand)
    (ho : o.op = .call { callee := .builtin .append, args := #[s, x], argTypes := #[40, 40] }) (base base2 : Nat) (v v2 : Value) (L M : List Int) (hs : a.eval s = v) (hx : a.eval x = v2)
    (hown : w.ownsRow base 28 1 v L.length (refRow L)) (h2 : w.ownsRow base2 28 1 v2 M.length (refRow M)) (hl : L.length + M.length ≤ 1000000000) (hb : base ≤ w.heap.size)
    (hK : ∀ v' w', w'.ownsRow base 28 1 v' (L ++ M).length (refRow (L ++ M)) → w.grownBy w' v.ownBlock → wpList Try.prog ops Q rest (a.put o.dst v') w') : wpList Try.prog ops Q (o :: rest) a w := by
  refine wpList_plain hgd fun K hK' => ?_
  obtain ⟨v', w', hrun, h3, h4⟩ := run_app_refs w base base2 v v2 L M hown h2 hl hb o.type
  unfold Oper.wp
  simp [execOp, ho, resolve, invoke, builtin, hs, hx, hrun, Result.andThen]
  exact hK' _ _ (hK v' w' h3 h4)

theorem refs_len (v : V) : v.refs.length ≤ 512 := by
  unfold V.refs
  split
  · rename_i h
    have h1 := refsOf_length (v.walk [])
    have h2 : v.size ≤ 512 := by simp [V.may, V.fits] at h; omega
    have h3 := walk_length v []
    omega
  · simp

/-- The references of some values. -/
def refsL (l : List V) : List Int := l.flatMap V.refs

theorem refsL_len (l : List V) : (refsL l).length ≤ 512 * l.length := by
  induction l with
  | nil => simp [refsL]
  | cons x l ih =>
    have := refs_len x
    simp only [refsL, List.flatMap_cons, List.length_append, List.length_cons] at ih ⊢
    omega

theorem refsL_step {l : List T} {j : Nat} (hj : j < l.length) : refsL ((l.take (j + 1)).map T.v) = refsL ((l.take j).map T.v) ++ l[j].v.refs := by
  rw [List.take_succ_eq_append_getElem hj, List.map_append]
  unfold refsL
  rw [List.flatMap_append]
  simp

/-- The references of a thing. -/
def heldV (v : V) (vs : List V) (ns : List V) : List Int := v.refs ++ refsL vs ++ refsL ns

theorem refsN_step {l : List Nm} {j : Nat} (hj : j < l.length) : refsL ((l.take (j + 1)).map fun y => y.2.v) = refsL ((l.take j).map fun y => y.2.v) ++ l[j].2.v.refs := by
  rw [List.take_succ_eq_append_getElem hj, List.map_append]
  unfold refsL
  rw [List.flatMap_append]
  simp

set_option maxRecDepth 100000 in
set_option maxHeartbeats 16000000 in
theorem held_any (x : Tg) (w : World) (lo hi : Nat) (hx : x.In w lo hi) (hh : hi ≤ w.heap.size) (hvs : x.vs.length ≤ 512) (hns : x.names.length ≤ 64) :
    Calls Try.prog 96 #[x.val] w (RefsP (heldV x.v.v (x.vs.map T.v) (x.names.map fun y => y.2.v)) w) := by
  obtain ⟨kind, home, ⟨k, n, s, A, cap, l, r⟩, VA, vc, vs, n1, lost, ofr, byr, set, full, CA, cc, code, NA, nc, names⟩ := x
  have hval : (Tg.val ⟨kind, home, T.mk k n s A cap l r, VA, vc, vs, n1, lost, ofr, byr, set, full, CA, cc, code, NA, nc, names⟩) = .agg #[.int .u8 kind, .int .i64 home, .int .u8 k, .int .i64 n, .string s, .slice A l.length cap, .int .i64 r, .slice VA vs.length vc, .int .i64 n1, .int .i64 lost, .int .i64 ofr, .int .i64 byr, .int .u8 set, .bool full, .slice CA code.length cc, .slice NA names.length nc] := rfl
  rw [hval]
  have hb := Blk.new w 83 #[.int .u8 kind, .int .i64 home, .int .u8 k, .int .i64 n, .string s, .slice A l.length cap, .int .i64 r, .slice VA vs.length vc, .int .i64 n1, .int .i64 lost, .int .i64 ofr, .int .i64 byr, .int .u8 set, .bool full, .slice CA code.length cc, .slice NA names.length nc]
  have hf := (Fr.refl No w).alloc (.cells #[.int .u8 kind, .int .i64 home, .int .u8 k, .int .i64 n, .string s, .slice A l.length cap, .int .i64 r, .slice VA vs.length vc, .int .i64 n1, .int .i64 lost, .int .i64 ofr, .int .i64 byr, .int .u8 set, .bool full, .slice CA code.length cc, .slice NA names.length nc] 83)
  have hsz : (w.alloc (.cells #[.int .u8 kind, .int .i64 home, .int .u8 k, .int .i64 n, .string s, .slice A l.length cap, .int .i64 r, .slice VA vs.length vc, .int .i64 n1, .int .i64 lost, .int .i64 ofr, .int .i64 byr, .int .u8 set, .bool full, .slice CA code.length cc, .slice NA names.length nc] 83)).heap.size = w.heap.size + 1 := by simp
  have HR := hide (fun (t : T) (ht : t.In w lo hi) W' (f : Fr No w W') => Refs_any t W' lo hi (ht.no f hh) (Nat.le_trans hh f.size))
  have HX := hide hx
  have HF := hide hf
  have HB := hide hb
  have HSZ := hide hsz
  have hl0 := refs_len (T.mk k n s A cap l r).v
  have HL0 := hide hl0
  obtain ⟨d0, d1, d2, d3, d4, d5, d6, d7, d8, d9, d10, d11, d12, d13, d14, d15⟩ := hb.cells16
  have dq := hb.lt
  have hvs' : vs.length ≤ 512 := hvs
  have hns' : names.length ≤ 64 := hns
  clear hx hval hb hf hsz hvs hns hl0
  go_enter Try.func96, Try.ntmps96
  go_wp2_with fail
  generalize World.alloc w _ = W0 at *
  have h0 := HR.out _ HX.out.v W0 HF.out
  rw [T.val_mk] at h0
  refine h0.mono ?_
  rintro e w1 ⟨v, rfl, ho, f1⟩
  have hb := HB.out.fr f1 fun h => h
  have HO := hide ho
  have HF1 := hide f1
  clear d0 d1 d2 d3 d4 d5 d6 d7 d8 d9 d10 d11 d12 d13 d14 d15 dq h0 ho f1
  obtain ⟨d0, d1, d2, d3, d4, d5, d6, d7, d8, d9, d10, d11, d12, d13, d14, d15⟩ := hb.cells16
  have dq := hb.lt
  clear hb
  go_wp2_with fail
  go_loopw [3, 14] (fun v i wr => ∃ j : Nat, j ≤ vs.length ∧ i = .int .i64 j ∧ wr.ownsRow W0.heap.size 28 1 v ((T.mk k n s A cap l r).v.refs ++ refsL ((vs.take j).map T.v)).length (refRow ((T.mk k n s A cap l r).v.refs ++ refsL ((vs.take j).map T.v))) ∧ Fr No W0 wr) (fun _ i _ => vs.length - (intOf i).toNat)
  case atStart => exact ⟨0, Nat.zero_le _, rfl, by simpa [refsL, refRow] using HO.out, HF1.out⟩
  case round =>
    obtain ⟨j, hj, rfl, ho, f⟩ := hrel
    have hbr := HB.out.fr f fun h => h
    clear d0 d1 d2 d3 d4 d5 d6 d7 d8 d9 d10 d11 d12 d13 d14 d15 dq
    obtain ⟨d0, d1, d2, d3, d4, d5, d6, d7, d8, d9, d10, d11, d12, d13, d14, d15⟩ := hbr.cells16
    have dq := hbr.lt
    clear hbr
    have HFR := hide f
    have HOR := hide ho
    by_cases hlt : j < vs.length
    · have hmem := List.getElem_mem hlt
      obtain ⟨-, hrow, hkid⟩ := T.in_mk.1 HX.out.vs
      obtain ⟨b, o, rfl, hb0, hb1, hce⟩ := hrow (fun h => by have h' : vs = [] := h; rw [h'] at hlt; simp at hlt)
      have hc5 : ∀ i u, (vs[j]).cells[i]? = some u → wr.cell? ⟨b, o + j * 5 + i, none⟩ = some u := fun i u hu => ((HF.out.trans f).cell (by omega) fun h => h).trans (hce j vs[j] (List.getElem?_eq_getElem hlt) i u hu)
      have hst := refsL_step hlt
      have hRj := fun W' f => HR.out vs[j] (hkid _ hmem) W' f
      have hlM := refs_len vs[j].v
      have hlL := refsL_len ((vs.take j).map T.v)
      have hll : ((vs.take j).map T.v).length ≤ 512 := by simp; omega
      have hL0 := HL0.out
      generalize vs[j] = tj at *
      obtain ⟨k3, n3, s3, A3, cap3, l3, r3⟩ := tj
      rw [T.val_mk] at hRj
      have x0 : wr.cell? ⟨b, o + j * 5, none⟩ = some (.int .u8 k3) := hc5 0 _ rfl
      have x1 : wr.cell? ⟨b, o + j * 5 + 1, none⟩ = some (.int .i64 n3) := hc5 1 _ rfl
      have x2 : wr.cell? ⟨b, o + j * 5 + 2, none⟩ = some (.string s3) := hc5 2 _ rfl
      have x3 : wr.cell? ⟨b, o + j * 5 + 3, none⟩ = some (.slice A3 l3.length cap3) := hc5 3 _ rfl
      have x4 : wr.cell? ⟨b, o + j * 5 + 4, none⟩ = some (.int .i64 r3) := hc5 4 _ rfl
      have hbl : b < wr.heap.size := by have := f.size; have := HF.out.size; omega
      have HRJ := hide hRj
      have HSTP := hide hst
      generalize hMM : (T.mk k3 n3 s3 A3 cap3 l3 r3).v.refs = M at *
      generalize hLL : refsL ((vs.take j).map T.v) = L1 at *
      generalize hL00 : (T.mk k n s A cap l r).v.refs = L0 at *
      clear hce hc5 hrow hkid hmem f ho hRj hst
      go_wp2_with fail
      have hfa := HFR.out.alloc (.cells #[.int .u8 k3, .int .i64 n3, .string s3, .slice A3 l3.length cap3, .int .i64 r3] 37)
      have HFA := hide hfa
      have hoa := owns_fr HOR.out ((Fr.refl No wr).alloc (.cells #[.int .u8 k3, .int .i64 n3, .string s3, .slice A3 l3.length cap3, .int .i64 r3] 37)) fun _ _ h => h
      have HOA := hide hoa
      clear hfa hoa
      generalize World.alloc wr _ = Wa at *
      refine (HRJ.out Wa (HF.out.trans HFA.out)).mono ?_
      rintro e w2 ⟨v2, rfl, ho2, f2⟩
      have ho3 := owns_fr HOA.out f2 fun _ _ h => h
      have hF2 := HFA.out.trans f2
      have hsw := hF2.size
      have HF2 := hide hF2
      have HO2 := hide ho2
      have HO3 := hide ho3
      clear ho2 f2 ho3 hF2
      go_wp2_with (at_builtin; refine wpList_app_refs _ (by rfl) _ _ (by rfl) W0.heap.size Wa.heap.size u3 v2 (L0 ++ L1) M (by rfl) (by rfl) HO3.out HO2.out (by rw [List.length_append]; omega) (by omega) ?_; intro v' w' hown' hgr; have HOW := hide hown'; have HGR := hide hgr; clear hown' hgr)
      go_roundw
      case rel =>
        refine ⟨j + 1, hlt, by go_num, ?_, HF2.out.grown HGR.out fun i hi hlt => by have := (owns_lt HO3.out i hi).1; omega⟩
        rw [HSTP.out, ← List.append_assoc]
        exact HOW.out
      case measure => simp [intOf]; omega
    · obtain rfl : vs.length = j := by omega
      have hov : wr.ownsRow W0.heap.size 28 1 u3 ((T.mk k n s A cap l r).v.refs ++ refsL (vs.map T.v)).length (refRow ((T.mk k n s A cap l r).v.refs ++ refsL (vs.map T.v))) := by
        have := HOR.out
        rwa [List.take_length] at this
      have HOV := hide hov
      have hlL := refsL_len (vs.map T.v)
      have hL0 := HL0.out
      have hll : (vs.map T.v).length ≤ 512 := by simpa using hvs'
      have HBND := hide (show ((T.mk k n s A cap l r).v.refs ++ refsL (vs.map T.v)).length ≤ 1000000 by rw [List.length_append]; omega)
      have HAS : heldV (T.mk k n s A cap l r).v (vs.map T.v) (names.map fun y => y.2.v) = ((T.mk k n s A cap l r).v.refs ++ refsL (vs.map T.v)) ++ refsL (names.map fun y => y.2.v) := rfl
      obtain ⟨L01, hL01⟩ : ∃ L01, (T.mk k n s A cap l r).v.refs ++ refsL (vs.map T.v) = L01 := ⟨_, rfl⟩
      rw [hL01] at HAS HOV HBND hov
      have HASS := hide HAS
      clear hov hlL hL0 hll HAS hL01 ho f HOR
      obtain ⟨wo, rfl⟩ : ∃ wo : World, wo = wr := ⟨_, rfl⟩
      have HFO := hide HFR.out
      clear HFR
      go_wp2_with fail
      go_loopw [3, 26] (fun v i wr => ∃ j : Nat, j ≤ names.length ∧ i = .int .i64 j ∧ wr.ownsRow W0.heap.size 28 1 v (L01 ++ refsL ((names.take j).map fun y => y.2.v)).length (refRow (L01 ++ refsL ((names.take j).map fun y => y.2.v))) ∧ Fr No W0 wr) (fun _ i _ => names.length - (intOf i).toNat)
      case atStart => exact ⟨0, Nat.zero_le _, rfl, by simpa [refsL, refRow] using HOV.out, HFO.out⟩
      case round =>
        clear hj hlt
        obtain ⟨j, hj, rfl, ho, f⟩ := hrel
        have hbr := HB.out.fr f fun h => h
        clear d0 d1 d2 d3 d4 d5 d6 d7 d8 d9 d10 d11 d12 d13 d14 d15 dq
        obtain ⟨d0, d1, d2, d3, d4, d5, d6, d7, d8, d9, d10, d11, d12, d13, d14, d15⟩ := hbr.cells16
        have dq := hbr.lt
        clear hbr
        have HFR := hide f
        have HOR := hide ho
        by_cases hlt : j < names.length
        · have hmem := List.getElem_mem hlt
          obtain ⟨b, o, rfl, hb0, hb1, hce⟩ := HX.out.names.at_ (fun h => by have h' : names = [] := h; rw [h'] at hlt; simp at hlt)
          have hc5 : ∀ i u, (nmCells names[j])[i]? = some u → wr.cell? ⟨b, o + j * 6 + i, none⟩ = some u := fun i u hu => ((HF.out.trans f).cell (by omega) fun h => h).trans (hce j names[j] (List.getElem?_eq_getElem hlt) i u hu)
          have hst := refsN_step hlt
          have hRj := fun W' f => HR.out names[j].2 (HX.out.names.inn _ hmem).2 W' f
          have hlM := refs_len names[j].2.v
          have hlL := refsL_len ((names.take j).map fun y => y.2.v)
          have hll : ((names.take j).map fun y => y.2.v).length ≤ 64 := by simp; omega
          have hL0 := HBND.out
          generalize names[j] = xj at *
          obtain ⟨nm, ⟨k3, n3, s3, A3, cap3, l3, r3⟩⟩ := xj
          rw [T.val_mk] at hRj
          have x0 : wr.cell? ⟨b, o + j * 6, none⟩ = some (.string nm) := hc5 0 _ rfl
          have x1 : wr.cell? ⟨b, o + j * 6 + 1, none⟩ = some (.int .u8 k3) := hc5 1 _ rfl
          have x2 : wr.cell? ⟨b, o + j * 6 + 2, none⟩ = some (.int .i64 n3) := hc5 2 _ rfl
          have x3 : wr.cell? ⟨b, o + j * 6 + 3, none⟩ = some (.string s3) := hc5 3 _ rfl
          have x4 : wr.cell? ⟨b, o + j * 6 + 4, none⟩ = some (.slice A3 l3.length cap3) := hc5 4 _ rfl
          have x5 : wr.cell? ⟨b, o + j * 6 + 5, none⟩ = some (.int .i64 r3) := hc5 5 _ rfl
          have hbl : b < wr.heap.size := by have := f.size; have := HF.out.size; omega
          have HRJ := hide hRj
          have HSTP := hide hst
          generalize hMM : (T.mk k3 n3 s3 A3 cap3 l3 r3).v.refs = M at *
          generalize hLL : refsL ((names.take j).map fun y => y.2.v) = L1 at *
          clear hce hc5 hmem f ho hRj hst
          go_wp2_with fail
          have hfa := HFR.out.alloc (.cells #[.string nm, .int .u8 k3, .int .i64 n3, .string s3, .slice A3 l3.length cap3, .int .i64 r3] 139)
          have HFA := hide hfa
          have hoa := owns_fr HOR.out ((Fr.refl No wr).alloc (.cells #[.string nm, .int .u8 k3, .int .i64 n3, .string s3, .slice A3 l3.length cap3, .int .i64 r3] 139)) fun _ _ h => h
          have HOA := hide hoa
          clear hfa hoa
          generalize World.alloc wr _ = Wa at *
          refine (HRJ.out Wa (HF.out.trans HFA.out)).mono ?_
          rintro e w2 ⟨v2, rfl, ho2, f2⟩
          have ho3 := owns_fr HOA.out f2 fun _ _ h => h
          have hF2 := HFA.out.trans f2
          have hsw := hF2.size
          have HF2 := hide hF2
          have HO2 := hide ho2
          have HO3 := hide ho3
          clear ho2 f2 ho3 hF2
          go_wp2_with (at_builtin; refine wpList_app_refs _ (by rfl) _ _ (by rfl) W0.heap.size Wa.heap.size u3 v2 (L01 ++ L1) M (by rfl) (by rfl) HO3.out HO2.out (by rw [List.length_append]; omega) (by omega) ?_; intro v' w' hown' hgr; have HOW := hide hown'; have HGR := hide hgr; clear hown' hgr)
          go_roundw
          case rel =>
            refine ⟨j + 1, hlt, by go_num, ?_, HF2.out.grown HGR.out fun i hi hlt => by have := (owns_lt HO3.out i hi).1; omega⟩
            rw [HSTP.out, ← List.append_assoc]
            exact HOW.out
          case measure => simp [intOf]; omega
        · obtain rfl : names.length = j := by omega
          have hov := HOR.out
          rw [List.take_length, ← HASS.out] at hov
          have HOF := hide hov
          clear hov ho f
          go_wp2
          go_ret
          exact ⟨u3, rfl, owns_mono HOF.out (by have := HF.out.size; omega), HF.out.trans HFR.out⟩

/-- .. of a thing's value, as the laws on plain things have it. -/
theorem heldV_nil (v : V) : heldV v [] [] = v.refs := by simp [heldV, refsL]

end Go.Proofs.Ytnddfiohofnbaaa

/- Worlds of whatever things: names: are the references of what a thing has things? -/
namespace Go.Proofs.Ytnddfiohofnbaaa
open Go.RowKit

section
variable {m : Gm} {lo : Nat} {W : World}

/-- Are all of some numbers things? -/
def Gm.are (m : Gm) (L : List Int) : Bool := L.all fun r => (m.get r).isSome

theorem gnames1_w (h : m.Ok lo W) {g : Nat} (hb : Blk W g 23 #[.pointer (some ⟨m.wb, 0, none⟩)]) (r : Int) : Calls Try.prog 97 #[.int .i64 r, .pointer (some ⟨g, 0, none⟩)] W fun e w' => e = .returned (.bool (!(m.get r).isSome)) ∧ w' = W := by
  have hI := gIs_w h r
  have c0 : W.cell? ⟨g, 0, none⟩ = some (.pointer (some ⟨m.wb, 0, none⟩)) := hb.cell 0
  have q0 := hb.lt
  clear h hb
  generalize (m.get r).isSome = q at *
  cases q
  all_goals
    go_enter Try.func97, Try.ntmps97
    go_wp2_with fail
    refine hI.mono ?_
    rintro e w2 ⟨rfl, rfl⟩
    go_wp2
    go_ret
    exact ⟨rfl, rfl⟩

set_option maxRecDepth 100000 in
set_option maxHeartbeats 4000000 in
theorem gindexR_w (h : m.Ok lo W) {g base : Nat} (hb : Blk W g 23 #[.pointer (some ⟨m.wb, 0, none⟩)]) (A : Option Addr) (cap : Nat) (L : List Int) (hr : W.ownsRow base 28 1 (.slice A L.length cap) L.length (L.map fun r => Value.int .i64 r)) (hlen : L.length ≤ 140737488351232) :
    Calls Try.prog 118 #[.slice A L.length cap, .func (.func 97) #[] #[.pointer (some ⟨g, 0, none⟩)]] W fun e w' => (∃ z : Int, e = .returned (.int .i64 z) ∧ ((0 ≤ z ∧ m.are L = false) ∨ (z = -1 ∧ m.are L = true))) ∧ w' = W := by
  have HB := hide (gnames1_w h hb)
  have HR := hide hr
  clear h hb hr
  go_enter Try.func118, Try.ntmps118
  go_wp2_with fail
  go_loopw [8] (fun i wr => ∃ j : Nat, j ≤ L.length ∧ i = .int .i64 j ∧ wr = W ∧ ∀ v ∈ L.take j, (m.get v).isSome = true) (fun i _ => L.length - (intOf i).toNat)
  case atStart => exact ⟨0, Nat.zero_le _, rfl, rfl, by simp⟩
  case round =>
    obtain ⟨j, hj, rfl, rfl, hall⟩ := hrel
    have HA := hide hall
    clear hall
    by_cases hlt : j < L.length
    · obtain ⟨b, rfl, hb1, e0⟩ := row_at HR.out hlt
      have hc := HB.out L[j]
      have htk : L.take (j + 1) = L.take j ++ [L[j]] := by rw [List.take_succ_eq_append_getElem hlt]
      have hmem : L[j] ∈ L := List.getElem_mem hlt
      generalize L[j] = u at *
      have HT := hide htk
      have HM := hide hmem
      clear htk hmem
      cases hm : (m.get u).isSome with
      | false =>
        rw [hm] at hc
        have HC := hide hc
        have hno : m.are L = false := by
          rw [Bool.eq_false_iff]
          intro h
          have := List.all_eq_true.1 h u HM.out
          rw [hm] at this
          cases this
        have HN := hide hno
        clear hc hno hm
        go_wp2_with fail
        refine HC.out.mono ?_
        rintro e w2 ⟨rfl, rfl⟩
        go_wp2
        go_ret
        exact ⟨⟨_, rfl, .inl ⟨by omega, HN.out⟩⟩, rfl⟩
      | true =>
        rw [hm] at hc
        have HC := hide hc
        have HMM := hide hm
        clear hc hm
        go_wp2_with fail
        refine HC.out.mono ?_
        rintro e w2 ⟨rfl, rfl⟩
        go_wp2
        go_roundw
        case rel =>
          refine ⟨j + 1, hlt, by go_num, trivial, fun v hv => ?_⟩
          rw [HT.out] at hv
          rcases List.mem_append.1 hv with hv | hv
          · exact HA.out v hv
          · simp at hv; subst hv; exact HMM.out
        case measure => simp [intOf]; omega
    · obtain rfl : L.length = j := by omega
      have hyes : m.are L = true := List.all_eq_true.2 fun v hv => HA.out v (by rw [List.take_of_length_le (Nat.le_refl _)]; exact hv)
      have HY := hide hyes
      clear hyes
      go_wp2
      go_ret
      exact ⟨⟨-1, rfl, .inr ⟨rfl, HY.out⟩⟩, rfl⟩

theorem gcontainsR_w (h : m.Ok lo W) {g base : Nat} (hb : Blk W g 23 #[.pointer (some ⟨m.wb, 0, none⟩)]) (A : Option Addr) (cap : Nat) (L : List Int) (hr : W.ownsRow base 28 1 (.slice A L.length cap) L.length (L.map fun r => Value.int .i64 r)) (hlen : L.length ≤ 140737488351232) :
    Calls Try.prog 95 #[.slice A L.length cap, .func (.func 97) #[] #[.pointer (some ⟨g, 0, none⟩)]] W fun e w' => e = .returned (.bool (!m.are L)) ∧ w' = W := by
  have hI := gindexR_w h hb A cap L hr hlen
  generalize m.are L = q at *
  clear h hb hr
  go_enter Try.func95, Try.ntmps95
  go_wp2_with fail
  refine hI.mono ?_
  rintro e w2 ⟨⟨z, rfl, hz⟩, rfl⟩
  rcases hz with ⟨h0, rfl⟩ | ⟨rfl, rfl⟩
  · have h1 : decide ((0 : Int) ≤ z) = true := by simpa using h0
    go_wp2
    go_ret
    exact ⟨rfl, rfl⟩
  · go_wp2
    go_ret
    exact ⟨rfl, rfl⟩

theorem heldV_len {v : V} {vs ns : List V} (h1 : vs.length ≤ 512) (h2 : ns.length ≤ 64) : (heldV v vs ns).length ≤ 1000000 := by
  unfold heldV
  rw [List.length_append, List.length_append]
  have := refs_len v
  have := refsL_len vs
  have := refsL_len ns
  omega

/-- The references of a thing. -/
def Tg.held (x : Tg) : List Int := heldV x.v.v (x.vs.map T.v) (x.names.map fun y => y.2.v)

set_option maxRecDepth 100000 in
set_option maxHeartbeats 4000000 in
theorem gnames_w (h : m.Ok lo W) (x : Tg) (lo1 hi : Nat) (hx : x.In W lo1 hi) (hh : hi ≤ W.heap.size) (hvs : x.vs.length ≤ 512) (hns : x.names.length ≤ 64) :
    Calls Try.prog 66 #[.pointer (some ⟨m.wb, 0, none⟩), x.val] W fun e w' => e = .returned (.bool (m.are x.held)) ∧ Fr No W w' := by
  have hln : x.held.length ≤ 140737488351232 := Nat.le_trans (heldV_len (by simpa using hvs) (by simpa using hns)) (by omega)
  have hH := fun W' (f : Fr No W W') => held_any x W' lo1 hi (hx.no f hh) (Nat.le_trans hh f.size) hvs hns
  change ∀ W', Fr No W W' → Calls Try.prog 96 #[x.val] W' (RefsP x.held W') at hH
  generalize x.held = L at *
  obtain ⟨kind, home, ⟨k, n, s, A, cap, l, r⟩, VA, vc, vs, n1, lost, ofr, byr, set, full, CA, cc, code, NA, nc, names⟩ := x
  have hval : (Tg.val ⟨kind, home, T.mk k n s A cap l r, VA, vc, vs, n1, lost, ofr, byr, set, full, CA, cc, code, NA, nc, names⟩) = .agg #[.int .u8 kind, .int .i64 home, .int .u8 k, .int .i64 n, .string s, .slice A l.length cap, .int .i64 r, .slice VA vs.length vc, .int .i64 n1, .int .i64 lost, .int .i64 ofr, .int .i64 byr, .int .u8 set, .bool full, .slice CA code.length cc, .slice NA names.length nc] := rfl
  rw [hval] at hH ⊢
  have hb0 := (Blk.new W 23 #[.pointer (some ⟨m.wb, 0, none⟩)]).alloc (.cells #[.int .u8 kind, .int .i64 home, .int .u8 k, .int .i64 n, .string s, .slice A l.length cap, .int .i64 r, .slice VA vs.length vc, .int .i64 n1, .int .i64 lost, .int .i64 ofr, .int .i64 byr, .int .u8 set, .bool full, .slice CA code.length cc, .slice NA names.length nc] 83)
  have hb1 := Blk.new' (W.alloc (.cells #[.pointer (some ⟨m.wb, 0, none⟩)] 23)) 83 #[.int .u8 kind, .int .i64 home, .int .u8 k, .int .i64 n, .string s, .slice A l.length cap, .int .i64 r, .slice VA vs.length vc, .int .i64 n1, .int .i64 lost, .int .i64 ofr, .int .i64 byr, .int .u8 set, .bool full, .slice CA code.length cc, .slice NA names.length nc] (g := W.heap.size + 1) (by simp)
  have hf0 := ((Fr.refl No W).alloc (.cells #[.pointer (some ⟨m.wb, 0, none⟩)] 23)).alloc (.cells #[.int .u8 kind, .int .i64 home, .int .u8 k, .int .i64 n, .string s, .slice A l.length cap, .int .i64 r, .slice VA vs.length vc, .int .i64 n1, .int .i64 lost, .int .i64 ofr, .int .i64 byr, .int .u8 set, .bool full, .slice CA code.length cc, .slice NA names.length nc] 83)
  have HB0 := hide hb0
  have HF0 := hide hf0
  have HOK := hide h
  have HH := hide hH
  obtain ⟨q, hq⟩ : ∃ q, m.are L = q := ⟨_, rfl⟩
  rw [hq]
  have HQ := hide hq
  clear hq
  obtain ⟨d0, d1, d2, d3, d4, d5, d6, d7, d8, d9, d10, d11, d12, d13, d14, d15⟩ := hb1.cells16
  have dq := hb1.lt
  clear hx hh hb0 hb1 hf0 hH h hval
  go_enter Try.func66, Try.ntmps66
  go_wp2_with fail
  generalize World.alloc (World.alloc W _) _ = W0 at *
  refine (HH.out W0 HF0.out).mono ?_
  rintro e w1 ⟨v, rfl, hrow, f1⟩
  obtain ⟨A1, c1, rfl⟩ := owns_form hrow
  have hc := gcontainsR_w ((HOK.out.no HF0.out).no f1) (HB0.out.fr f1 fun h => h) A1 c1 L hrow hln
  rw [HQ.out] at hc
  have HC := hide hc
  have HF1 := hide (HF0.out.trans f1)
  clear d0 d1 d2 d3 d4 d5 d6 d7 d8 d9 d10 d11 d12 d13 d14 d15 dq hrow f1 hc HQ
  cases q
  all_goals
    go_wp2_with fail
    refine HC.out.mono ?_
    rintro e w2 ⟨rfl, rfl⟩
    go_wp2
    go_ret
    exact ⟨rfl, HF1.out⟩
end

end Go.Proofs.Ytnddfiohofnbaaa

/- Worlds of whatever things: how high a thing stands, plain; asksOf, asksBy, wraps of whatever kind. -/
namespace Go.Proofs.Ytnddfiohofnbaaa
open Go.RowKit

theorem nodup_le : ∀ {l k : List Int}, l.Nodup → (∀ x ∈ l, x ∈ k) → l.length ≤ k.length
  | [], _, _, _ => by simp
  | x :: l, k, hn, hs => by
    rw [List.nodup_cons] at hn
    have hx := hs x (by simp)
    have := nodup_le (k := k.erase x) hn.2 fun y hy => by
      have hne : y ≠ x := fun e => hn.1 (e ▸ hy)
      exact (List.mem_erase_of_ne hne).2 (hs y (by simp [hy]))
    rw [List.length_erase_of_mem hx] at this
    have := List.length_pos_of_mem hx
    simp only [List.length_cons]
    omega

section
variable {m : Gm} {r : Int} {n : Nat}

theorem Gm.Hgt.line (h : m.Hgt r n) : ∃ l : List Int, l.length = n + 1 ∧ l.Nodup ∧ ∀ x ∈ l, x ∈ m.th.map Prod.fst ∧ ∃ i, i ≤ n ∧ m.Hgt x i := by
  induction h with
  | @base r x h hk => exact ⟨[r], rfl, by simp, fun y hy => by
      simp only [List.mem_singleton] at hy
      subst hy
      exact ⟨List.mem_map.2 ⟨_, Gm.get_mem h, rfl⟩, 0, Nat.le_refl _, .base h hk⟩⟩
  | @wrap r x n h hk hl ih =>
    obtain ⟨l, h1, h2, h3⟩ := ih
    refine ⟨r :: l, by simp [h1], List.nodup_cons.2 ⟨fun hm => ?_, h2⟩, fun y hy => ?_⟩
    · obtain ⟨-, i, hi, hh⟩ := h3 r hm
      have := hh.uniq (.wrap h hk hl)
      omega
    · rcases List.mem_cons.1 hy with rfl | hy
      · exact ⟨List.mem_map.2 ⟨_, Gm.get_mem h, rfl⟩, n + 1, Nat.le_refl _, .wrap h hk hl⟩
      · obtain ⟨a, i, hi, hh⟩ := h3 y hy
        exact ⟨a, i, by omega, hh⟩

/-- A thing stands less high than there are things. -/
theorem Gm.Hgt.lt (h : m.Hgt r n) : n < m.th.length := by
  obtain ⟨l, h1, h2, h3⟩ := h.line
  have := nodup_le h2 fun x hx => (h3 x hx).1
  rw [List.length_map] at this
  omega

/-- What stands on something that is high stands. -/
theorem Gm.Hgt.abl (h : m.Hgt r n) (hs : ∀ r x, m.get r = some x → 0 ≤ x.2.set) : ∃ a, m.Abl r a := by
  induction h with
  | base h hk => exact ⟨_, .base h hk⟩
  | @wrap r x n h hk hl ih =>
    obtain ⟨a, ha⟩ := ih
    rcases hk with hk | hk
    · have := hs _ _ h
      exact ⟨_, .facet (s := x.2.set.toNat) h hk (by omega) ha⟩
    · exact ⟨a, .pass h hk ha⟩
end

def wrapB (k : Int) : Bool := k == 14 || k == 15 || k == 16
def askOfB (k : Int) : Bool := k == 6 || k == 7 || k == 9 || k == 11 || wrapB k
def askByB (k : Int) : Bool := k == 15 || k == 16

theorem wrapB_iff {k : Int} : wrapB k = true ↔ k = 14 ∨ k = 15 ∨ k = 16 := by simp [wrapB, or_assoc]

theorem wraps_g (k : Int) (W : World) : Calls Try.prog 98 #[.int .u8 k] W fun e w' => e = .returned (.bool (wrapB k)) ∧ w' = W := by
  by_cases h1 : k = 14
  · subst h1
    go_enter Try.func98, Try.ntmps98
    go_wp2
    go_ret
    exact ⟨rfl, rfl⟩
  by_cases h2 : k = 15
  · subst h2
    go_enter Try.func98, Try.ntmps98
    go_wp2
    go_ret
    exact ⟨rfl, rfl⟩
  by_cases h3 : k = 16
  · subst h3
    go_enter Try.func98, Try.ntmps98
    go_wp2
    go_ret
    exact ⟨rfl, rfl⟩
  have e1 : (k == 14) = false := by simpa using h1
  have e2 : (k == 15) = false := by simpa using h2
  have e3 : (k == 16) = false := by simpa using h3
  rw [show wrapB k = false by simp [wrapB, h1, h2, h3]]
  clear h1 h2 h3
  go_enter Try.func98, Try.ntmps98
  go_wp2
  go_ret
  exact ⟨rfl, rfl⟩

theorem asksBy_g (k : Int) (W : World) : Calls Try.prog 68 #[.int .u8 k] W fun e w' => e = .returned (.bool (askByB k)) ∧ w' = W := by
  by_cases h2 : k = 15
  · subst h2
    go_enter Try.func68, Try.ntmps68
    go_wp2
    go_ret
    exact ⟨rfl, rfl⟩
  by_cases h3 : k = 16
  · subst h3
    go_enter Try.func68, Try.ntmps68
    go_wp2
    go_ret
    exact ⟨rfl, rfl⟩
  have e2 : (k == 15) = false := by simpa using h2
  have e3 : (k == 16) = false := by simpa using h3
  rw [show askByB k = false by simp [askByB, h2, h3]]
  clear h2 h3
  go_enter Try.func68, Try.ntmps68
  go_wp2
  go_ret
  exact ⟨rfl, rfl⟩

theorem asksOf_g (k : Int) (W : World) : Calls Try.prog 67 #[.int .u8 k] W fun e w' => e = .returned (.bool (askOfB k)) ∧ w' = W := by
  have HW := hide fun W' => wraps_g k W'
  by_cases h1 : k = 6
  · subst h1
    go_enter Try.func67, Try.ntmps67
    go_wp2
    go_ret
    exact ⟨rfl, rfl⟩
  by_cases h2 : k = 7
  · subst h2
    go_enter Try.func67, Try.ntmps67
    go_wp2
    go_ret
    exact ⟨rfl, rfl⟩
  by_cases h3 : k = 9
  · subst h3
    go_enter Try.func67, Try.ntmps67
    go_wp2
    go_ret
    exact ⟨rfl, rfl⟩
  by_cases h4 : k = 11
  · subst h4
    go_enter Try.func67, Try.ntmps67
    go_wp2
    go_ret
    exact ⟨rfl, rfl⟩
  have e1 : (k == 6) = false := by simpa using h1
  have e2 : (k == 7) = false := by simpa using h2
  have e3 : (k == 9) = false := by simpa using h3
  have e4 : (k == 11) = false := by simpa using h4
  rw [show askOfB k = wrapB k by simp [askOfB, h1, h2, h3, h4]]
  generalize wrapB k = q at *
  clear h1 h2 h3 h4
  go_enter Try.func67, Try.ntmps67
  go_wp2_with fail
  refine (HW.out W).mono ?_
  rintro e w' ⟨rfl, rfl⟩
  go_wp2
  go_ret
  exact ⟨rfl, rfl⟩

/-- What a thing names is not there. -/
def Gm.badB (m : Gm) (x : Tg) : Bool :=
  !(m.are x.held) || (askOfB x.kind && !(m.get x.ofr).isSome) || (askByB x.kind && !(m.get x.byr).isSome) || ((x.kind == 13 && x.ofr != 0) && !(m.get x.ofr).isSome)

end Go.Proofs.Ytnddfiohofnbaaa

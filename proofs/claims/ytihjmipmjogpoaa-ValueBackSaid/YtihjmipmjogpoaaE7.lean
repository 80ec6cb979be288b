/- Chapter 2: the walk of a value's parts, whatever is done with each. -/
import Derived.Test.YtihjmipmjogpoaaE5
import Derived.Test.YtihjmipmjogpoaaR0
import Derived.Deep.RegionHeld3
import Derived.Deep.RegionLawGrows
import Derived.Deep.AppendLies
namespace Go.Proofs.Ytihjmipmjogpoaa
open Go.RowKit

def walkL : List (List Int → List (List Int × V)) → Nat → List Int → List (List Int × V)
  | [], _, _ => []
  | f :: fs, i, pl => f (pl ++ [(i : Int)]) ++ walkL fs (i + 1) pl

/-- The parts of a value that stands at a place, in the order of the walk. -/
def V.walk : V → List Int → List (List Int × V)
  | .mk k n s l r => fun pl => (pl, .mk k n s l r) :: walkL (l.map V.walk) 0 pl
termination_by v => v

theorem V.walk_mk (k n : Int) (s : ByteArray) (l : List V) (r : Int) (pl : List Int) : (V.mk k n s l r).walk pl = (pl, .mk k n s l r) :: walkL (l.map V.walk) 0 pl := by rw [V.walk]

theorem walkL_append (fs gs : List (List Int → List (List Int × V))) (i : Nat) (pl : List Int) : walkL (fs ++ gs) i pl = walkL fs i pl ++ walkL gs (i + fs.length) pl := by
  induction fs generalizing i with
  | nil => simp [walkL]
  | cons f fs ih => simp only [List.cons_append, walkL, ih, List.append_assoc, List.length_cons]; rw [show i + 1 + fs.length = i + (fs.length + 1) by omega]

theorem walkL_take (fs : List (List Int → List (List Int × V))) (pl : List Int) {j : Nat} (h : j < fs.length) : walkL (fs.take (j + 1)) 0 pl = walkL (fs.take j) 0 pl ++ fs[j] (pl ++ [(j : Int)]) := by
  rw [List.take_succ_eq_append_getElem h, walkL_append]
  simp [walkL, List.length_take, Nat.min_eq_left (Nat.le_of_lt h)]

theorem walkL_prefix (fs : List (List Int → List (List Int × V))) (pl : List Int) (j : Nat) : walkL (fs.take j) 0 pl <+: walkL fs 0 pl := by
  refine ⟨walkL (fs.drop j) (0 + (fs.take j).length) pl, ?_⟩
  rw [← walkL_append, List.take_append_drop]

theorem walkL_length (L : List V) : ∀ (i : Nat) (pl : List Int), (∀ v ∈ L, ∀ p, (v.walk p).length = v.size) → (walkL (L.map V.walk) i pl).length = (L.map V.size).sum := by
  induction L with
  | nil => intro i pl _; rfl
  | cons v L ih =>
    intro i pl h
    simp only [List.map_cons, walkL, List.length_append, List.sum_cons]
    rw [h v (by simp), ih (i + 1) pl fun u hu => h u (by simp [hu])]

theorem walk_length (v : V) : ∀ p, (v.walk p).length = v.size := by
  induction v using V.ind with
  | h k n s l r ih =>
    intro p
    rw [V.walk_mk, V.size_mk, List.length_cons, walkL_length l 0 p ih]
    omega

/-- What is done with each part: J holds between two parts, Jx where no more is wanted; M: the blocks that are its own. -/
structure Yields (N : Nat) (f : FuncId) (cp : Array Value) (J Jx : List (List Int × V) → (Nat → Prop) → World → Prop) : Prop where
  enters : ∀ (args : Array Value) (w : World), (callFunc f args).run Try.prog w = .ok (.enter f args) w
  call : ∀ (pre : List (List Int × V)) (M : Nat → Prop) (W : World) (x : T) (lo hi : Nat) (A : Option Addr) (cap : Nat) (p : List Int) (lo' hi' : Nat), pre.length < N → J pre M W → x.In W lo hi → hi ≤ W.heap.size → (∀ i, lo ≤ i → i < hi → ¬ M i) →
    Ints W lo' hi' A cap p → hi' ≤ W.heap.size → (∀ i, lo' ≤ i → i < hi' → ¬ M i) → Calls Try.prog f (#[.slice A p.length cap, x.val] ++ cp) W fun e W' => ∃ M' : Nat → Prop, Fr M W W' ∧ (∀ i, M' i → i < W.heap.size → M i) ∧
      ((e = .returned (.bool true) ∧ J (pre ++ [(p, x.v)]) M' W') ∨ (e = .returned (.bool false) ∧ Jx (pre ++ [(p, x.v)]) M' W'))
  stay : ∀ (pre : List (List Int × V)) (M : Nat → Prop) (W W' : World) (S : Nat → Prop), J pre M W → Fr S W W' → (∀ i, i < W.heap.size → S i → ¬ M i) → J pre M W'
  lt : ∀ (pre : List (List Int × V)) (M : Nat → Prop) (W : World), J pre M W → ∀ i, M i → i < W.heap.size

theorem Yields.no {N : Nat} {f : FuncId} {cp : Array Value} {J Jx : List (List Int × V) → (Nat → Prop) → World → Prop} (y : Yields N f cp J Jx) {pre : List (List Int × V)} {M : Nat → Prop} {W W' : World} (h : J pre M W) (hf : Fr No W W') : J pre M W' :=
  y.stay pre M W W' No h hf fun _ _ h => h.elim

/-- What the walk leaves. -/
def WalkP (J Jx : List (List Int × V) → (Nat → Prop) → World → Prop) (pre : List (List Int × V)) (M : Nat → Prop) (L : List (List Int × V)) (W : World) (e : Ending) (W' : World) : Prop :=
  ∃ M' : Nat → Prop, Fr M W W' ∧ (∀ i, M' i → i < W.heap.size → M i) ∧ ((e = .returned (.bool true) ∧ J (pre ++ L) M' W') ∨ (e = .returned (.bool false) ∧ ∃ q, q <+: L ∧ Jx (pre ++ q) M' W'))

theorem Clip_any (A : Option Addr) (n cap : Nat) (hn : n ≤ cap) (hc : n ≤ 9223372036854775807) (w : World) : Calls Try.prog 137 #[.slice A n cap] w fun e w' => e = .returned (.slice A n n) ∧ w' = w := by
  have h1 : (n : Int) ≤ (cap : Int) := by omega
  have h2 : (0 : Int) ≤ (n : Int) := by omega
  go_enter Try.func137, Try.ntmps137
  go_wp2
  go_ret
  exact ⟨by first | rfl | simp, rfl⟩

/-- The same, the answer as a Bool. -/
def WalkB (J Jx : List (List Int × V) → (Nat → Prop) → World → Prop) (pre : List (List Int × V)) (M : Nat → Prop) (L : List (List Int × V)) (W : World) (q : Bool) (W' : World) : Prop :=
  ∃ M' : Nat → Prop, Fr M W W' ∧ (∀ i, M' i → i < W.heap.size → M i) ∧ (q = true → J (pre ++ L) M' W') ∧ (q = false → ∃ q, q <+: L ∧ Jx (pre ++ q) M' W')

theorem WalkP.bool {J Jx : List (List Int × V) → (Nat → Prop) → World → Prop} {pre : List (List Int × V)} {M : Nat → Prop} {L : List (List Int × V)} {W : World} {e : Ending} {W' : World} (h : WalkP J Jx pre M L W e W') : ∃ q : Bool, e = .returned (.bool q) ∧ WalkB J Jx pre M L W q W' := by
  obtain ⟨M', h1, h2, ⟨rfl, h3⟩ | ⟨rfl, h3⟩⟩ := h
  · exact ⟨true, rfl, M', h1, h2, fun _ => h3, (fun h => by cases h)⟩
  · exact ⟨false, rfl, M', h1, h2, (fun h => by cases h), fun _ => h3⟩

theorem Ints.old {w : World} {lo hi : Nat} {A : Option Addr} {cap : Nat} {p : List Int} (h : Ints w lo hi A cap p) : ∀ b, A = some b → ∀ j u, (p.map fun x => Value.int .i64 x)[j]? = some u → w.cell? (b.add j) = some u := by
  intro b hb j u hu
  rw [List.getElem?_map] at hu
  cases hx : p[j]? with
  | none => rw [hx] at hu; cases hu
  | some x =>
    rw [hx] at hu
    simp at hu
    subst hu
    obtain ⟨b', o', hA, _, _, hc⟩ := h.at_ (by rintro rfl; simp at hx)
    rw [hA] at hb
    injection hb with hb
    subst hb
    have : (⟨b', o', none⟩ : Addr).add j = ⟨b', o' + j, none⟩ := by unfold Addr.add; split <;> simp_all
    rw [this]
    exact hc j x hx

theorem ints_of_owns {w : World} {base g cap : Nat} {p : List Int} (h : w.ownsRow base 3 1 (.slice (some ⟨g, 0, none⟩) p.length cap) p.length (p.map fun x => Value.int .i64 x)) (hl : p.length * 8 ≤ 140737488351232) (hr : ∀ x ∈ p, -9223372036854775808 ≤ x ∧ x ≤ 9223372036854775807) :
    Ints w g (g + 1) (some ⟨g, 0, none⟩) cap p := by
  rcases h.2 with ⟨hs, _⟩ | ⟨g', cap', cur, hs, hb, hg, hc, hm, hsz, hx⟩
  · cases hs
  · simp at hs
    obtain ⟨rfl, rfl⟩ := hs
    refine ⟨hl, hc, fun _ => ⟨g, 0, rfl, Nat.le_refl _, by omega, fun i x hi => ?_⟩, hr⟩
    have hcell : w.cell? ⟨g, 0 + i, none⟩ = cur[0 + i]? := cell_of_row w g _ cur 3 (0, 0) hg
    rw [hcell, Nat.zero_add]
    have h1 : (p.map fun x => Value.int .i64 x)[i]? = some (.int .i64 x) := by rw [List.getElem?_map, hi]; rfl
    rw [← hx, List.getElem?_take] at h1
    split at h1
    · simpa using h1
    · cases h1

theorem blk5 {w : World} {g : Nat} {t : TypeId} {a b c d e : Value} (h : Blk w g t #[a, b, c, d, e]) : w.cell? ⟨g, 0, none⟩ = some a ∧ w.cell? ⟨g, 1, none⟩ = some b ∧ w.cell? ⟨g, 2, none⟩ = some c ∧ w.cell? ⟨g, 3, none⟩ = some d ∧ w.cell? ⟨g, 4, none⟩ = some e :=
  ⟨h.cell 0, h.cell 1, h.cell 2, h.cell 3, h.cell 4⟩

/-- Where the walk's loop stands. -/
structure WInv (J : List (List Int × V) → (Nat → Prop) → World → Prop) (pre : List (List Int × V)) (M : Nat → Prop) (W : World) (X : Array Value) (wr : World) : Prop where
  fr : Fr M W wr
  box : Blk wr W.heap.size 27 X
  ex : ∃ M1 : Nat → Prop, J pre M1 wr ∧ (∀ i, M1 i → i < W.heap.size → M i) ∧ ¬ M1 W.heap.size

end Go.Proofs.Ytihjmipmjogpoaa

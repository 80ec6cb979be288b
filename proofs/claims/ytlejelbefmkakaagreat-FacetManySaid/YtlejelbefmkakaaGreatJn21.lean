/- Texts joined: Gk2. -/
import Derived.Test.YtlejelbefmkakaaGreatJn10
import Derived.Test.YtlejelbefmkakaaGreatJn18
import Derived.Test.YtlejelbefmkakaaGreatJn20
namespace Go.Proofs.YtlejelbefmkakaaGreat
open Go.RowKit
def Tg.bar (x : Tg) : Tg :=
 if x.kind = 1 then ⟨x.kind, x.home, x.v, none, 0, [], 0, 0, 0, 0, 0, false, none, 0, [], none, 0, []⟩ else
 if x.kind = 2 ∨ x.kind = 4 then ⟨x.kind, x.home, T.zero, x.VA, x.vc, x.vs, 0, 0, 0, 0, 0, false, none, 0, [], none, 0, []⟩ else
 if x.kind = 3 then ⟨x.kind, x.home, T.zero, none, 0, [], x.n, 0, 0, 0, 0, false, none, 0, [], none, 0, []⟩ else
 if x.kind = 6 ∨ x.kind = 11 then ⟨x.kind, x.home, T.zero, none, 0, [], 0, 0, x.ofr, 0, 0, false, none, 0, [], none, 0, []⟩ else
 if x.kind = 7 then ⟨x.kind, x.home, x.v, none, 0, [], 0, 0, x.ofr, 0, 0, false, none, 0, [], none, 0, []⟩ else
 if x.kind = 8 then ⟨x.kind, x.home, T.zero, none, 0, [], x.n, x.lost, 0, 0, 0, false, none, 0, [], none, 0, []⟩ else
 if x.kind = 9 then ⟨x.kind, x.home, T.zero, none, 0, [], x.n, 0, x.ofr, 0, 0, false, none, 0, [], none, 0, []⟩ else
 if x.kind = 10 then ⟨x.kind, x.home, x.v, none, 0, [], 0, 0, 0, 0, 0, x.full, none, 0, [], none, 0, []⟩ else
 if x.kind = 12 then ⟨x.kind, x.home, T.zero, none, 0, [], 0, 0, 0, 0, 0, false, x.CA, x.cc, x.code, x.NA, x.nc, x.names⟩ else
 if x.kind = 13 then ⟨x.kind, x.home, T.zero, none, 0, [], 0, 0, x.ofr, 0, 0, x.full, none, 0, [], none, 0, []⟩ else
 if x.kind = 15 ∨ x.kind = 16 then ⟨x.kind, x.home, T.zero, none, 0, [], 0, 0, x.ofr, x.byr, 0, false, none, 0, [], none, 0, []⟩ else
 if x.kind = 14 then ⟨x.kind, 0, T.zero, none, 0, [], 0, 0, x.ofr, 0, x.set, false, none, 0, [], none, 0, []⟩ else
 ⟨x.kind, x.home, T.zero, none, 0, [], 0, 0, 0, 0, 0, false, none, 0, [], none, 0, []⟩
theorem if_arr {c : Prop} [Decidable c] {a b : Tg} {a' b' : Array Value} (h1 : a.cells.toArray = a') (h2 : b.cells.toArray = b') : (if c then a else b).cells.toArray = if c then a' else b' := by
 split
 · exact h1
 · exact h2
theorem bar_cells (kind home k n : Int) (s : ByteArray) (A : Option Addr) (cap : Nat) (l : List T) (r : Int) (VA : Option Addr) (vc : Nat) (vs : List T) (n1 lost ofr byr set : Int) (full : Bool) (CA : Option Addr) (cc : Nat) (code : List G) (NA : Option Addr) (nc : Nat) (names : List Nm) :
 (Tg.bar ⟨kind, home, T.mk k n s A cap l r, VA, vc, vs, n1, lost, ofr, byr, set, full, CA, cc, code, NA, nc, names⟩).cells.toArray = bareC kind home k n s A l.length cap r VA vs.length vc n1 lost ofr byr set full CA code.length cc NA names.length nc := by
 unfold Tg.bar bareC
 dsimp only
 repeat (refine if_arr rfl ?_)
 rfl
def Tg.Bad1 (x b : Tg) : Prop := x.kind = 0 ∨ 16 < x.kind ∨ x.n ≠ b.n ∨ x.lost ≠ b.lost ∨ x.ofr ≠ b.ofr ∨ x.byr ≠ b.byr ∨ x.set ≠ b.set ∨ x.full ≠ b.full ∨ x.home ≠ b.home
def Tg.Bad2 (x b : Tg) : Prop := x.vs.length ≠ b.vs.length ∨ x.code.length ≠ b.code.length ∨ x.names.length ≠ b.names.length ∨ (blankB b.v.v = true ∧ blankB x.v.v = false)
def Tg.Bad3 (sides : Nat) (x : Tg) : Prop := (x.kind ≠ 14 ∧ ¬ (0 ≤ x.home ∧ x.home < (sides : Int))) ∨ x.v.v.may = false
def Tg.Bad4 (x : Tg) : Prop := (ofV (x.vs.map T.v)).2 ≠ 0 ∨ 64 < x.names.length
def Tg.Bad5 (x : Tg) : Prop := ∃ y ∈ x.names, y.2.v.may = false
def Tg.Last (x : Tg) : Prop :=
 ((x.kind = 3 ∨ x.kind = 8 ∨ x.kind = 9) → 0 ≤ x.n ∧ x.n ≤ 9007199254740992 ∧ 0 ≤ x.lost ∧ x.lost ≤ x.n) ∧
 (x.kind = 10 → x.full = true ∨ blankB x.v.v = true) ∧
 (x.kind = 12 → (x.code.map G.ssz).sum ≤ 512 ∧ ∀ y ∈ x.code, y.sok = true) ∧
 (x.kind = 14 → x.set ≤ 63)
def Tg.Form (sides : Nat) (x : Tg) : Prop := ¬ x.Bad1 x.bar ∧ ¬ x.Bad2 x.bar ∧ ¬ x.Bad3 sides ∧ ¬ x.Bad4 ∧ ¬ x.Bad5 ∧ x.Last
theorem Tg.Form.may {sides : Nat} {x : Tg} (h : x.Form sides) : x.v.v.may = true := by
 have := h.2.2.1
 cases hm : x.v.v.may with
 | true => rfl
 | false => exact absurd (.inr hm) this
theorem Tg.Form.mays {sides : Nat} {x : Tg} (h : x.Form sides) : ∀ y ∈ x.names, y.2.v.may = true := by
 intro y hy
 have := h.2.2.2.2.1
 cases hm : y.2.v.may with
 | true => rfl
 | false => exact absurd ⟨y, hy, hm⟩ this
end Go.Proofs.YtlejelbefmkakaaGreat

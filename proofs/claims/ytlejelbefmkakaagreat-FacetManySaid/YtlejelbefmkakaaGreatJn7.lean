/- Texts joined: Wo12. -/
import Derived.Test.YtlejelbefmkakaaGreatJn4
import Derived.Test.YtlejelbefmkakaaGreatJn5
import Derived.Test.YtlejelbefmkakaaGreatJn6
import Derived.LoopN
namespace Go.Proofs.YtlejelbefmkakaaGreat
open Go.RowKit
def MakeRes (m : Wm) (kind home : Int) (v : V) (n1 lost ofr byr set : Int) (full : Bool) (s lo : Nat) (W : World) (e : Ending) (w' : World) : Prop :=
 e = .returned (.tuple #[.int .i64 ((m.th.length : Int) + 1), .int .i64 0]) ∧ ∃ (g : Nat) (t' : T), t'.v = v ∧ W.heap.size ≤ g ∧ (∀ b ∈ t'.blocks, W.heap.size ≤ b) ∧ (m.add g ⟨kind, home, t', n1, lost, ofr, byr, set, full⟩ s).Ok lo w' ∧ Fr m.B W w'
theorem zero_refs : V.zero.refs = [] := by
 unfold V.refs
 rw [if_pos zero_may]
 simp [V.zero, V.walk_mk, walkL, refsOf]
end Go.Proofs.YtlejelbefmkakaaGreat

/- Two closed facts for the lifts. -/
import Derived.Test.YtihjmipmjogpoaaRows
import Derived.ProofKit
import Derived.OpenShut
import Derived.ChangeOld
namespace Go.Proofs.Ytihjmipmjogpoaa
theorem knob0 : ownKnob Try.prog.godebug = none := by kernel_rfl
theorem laidOut0 : laidOutB Try.prog = true := by kernel_rfl
end Go.Proofs.Ytihjmipmjogpoaa

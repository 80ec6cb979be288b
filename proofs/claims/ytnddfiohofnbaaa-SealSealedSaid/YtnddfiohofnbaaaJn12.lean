/- Texts joined: H0. -/
import Derived.Test.YtnddfiohofnbaaaJn11
import Derived.Test.YtnddfiohofnbaaaRows
import Derived.ProofKit
import Derived.OpenShut
import Derived.ChangeOld
/- Two closed facts for the lifts. -/
namespace Go.Proofs.Ytnddfiohofnbaaa
theorem knob0 : ownKnob Try.prog.godebug = none := by kernel_rfl
theorem laidOut0 : laidOutB Try.prog = true := by kernel_rfl
end Go.Proofs.Ytnddfiohofnbaaa

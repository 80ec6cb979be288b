/- A closed fact of GateNone's row. -/
import Derived.Test.YtlejelbefmkakaaGreatRows
import Derived.ProofKit
namespace Go.Proofs.YtlejelbefmkakaaGreat
theorem gn_closed : joinedFacts Tryz.pinned.checked.prog 4 Tryz.f4 Rows.gateNoneSpec Rows.gateNoneRow = true := by kernel_rfl
end Go.Proofs.YtlejelbefmkakaaGreat

/- A closed fact of SealNone's row. -/
import Derived.Test.YtlejelbefmkakaaGreatRows
import Derived.ProofKit
namespace Go.Proofs.YtlejelbefmkakaaGreat
theorem sn_closed : joinedFacts Tryz.pinned.checked.prog 3 Tryz.f3 Rows.sealNoneSpec Rows.sealNoneRow = true := by kernel_rfl
end Go.Proofs.YtlejelbefmkakaaGreat

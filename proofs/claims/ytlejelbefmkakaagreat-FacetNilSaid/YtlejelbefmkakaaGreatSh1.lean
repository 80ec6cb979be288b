/- A closed fact of FacetNil's row. -/
import Derived.Test.YtlejelbefmkakaaGreatRows
import Derived.ProofKit
namespace Go.Proofs.YtlejelbefmkakaaGreat
theorem fn_closed : joinedFacts Tryz.pinned.checked.prog 14 Tryz.f14 Rows.facetNilSpec Rows.facetNilRow = true := by kernel_rfl
end Go.Proofs.YtlejelbefmkakaaGreat

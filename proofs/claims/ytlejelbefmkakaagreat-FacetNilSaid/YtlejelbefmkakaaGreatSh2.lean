/- Closed facts of FacetNil's row. -/
import Derived.Test.YtlejelbefmkakaaGreatRows
import Derived.ProofKit
namespace Go.Proofs.YtlejelbefmkakaaGreat
theorem fn_fn : Tryz.pinned.checked.prog.funcNamed Rows.facetNilRow.func = some 14 := by kernel_rfl
theorem fn_inst : Tryz.f14.isInstance Tryz.pinned.checked.prog Rows.facetNilRow.origin Rows.facetNilRow.targs := of_decide_eq_true (by kernel_rfl)
theorem fn_wrap : Tryz.f14.isWrapper Tryz.pinned.checked.prog Rows.facetNilRow.wrapper Rows.facetNilRow.mainSum := by unfold Func.isWrapper; first | (rw [if_pos (by decide +kernel)]; kernel_rfl) | (rw [if_neg (by decide +kernel)]; exact ⟨rfl, rfl⟩)
end Go.Proofs.YtlejelbefmkakaaGreat

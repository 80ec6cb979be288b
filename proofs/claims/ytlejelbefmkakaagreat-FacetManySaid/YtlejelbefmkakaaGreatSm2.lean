import Derived.Test.YtlejelbefmkakaaGreatRows
import Derived.ProofKit
namespace Go.Proofs.YtlejelbefmkakaaGreat
theorem fm_fn : Tryz.pinned.checked.prog.funcNamed Rows.facetManyRow.func = some 15 := by kernel_rfl
theorem fm_inst : Tryz.f15.isInstance Tryz.pinned.checked.prog Rows.facetManyRow.origin Rows.facetManyRow.targs := of_decide_eq_true (by kernel_rfl)
theorem fm_wrap : Tryz.f15.isWrapper Tryz.pinned.checked.prog Rows.facetManyRow.wrapper Rows.facetManyRow.mainSum := by unfold Func.isWrapper; first | (rw [if_pos (by decide +kernel)]; kernel_rfl) | (rw [if_neg (by decide +kernel)]; exact ⟨rfl, rfl⟩)
end Go.Proofs.YtlejelbefmkakaaGreat

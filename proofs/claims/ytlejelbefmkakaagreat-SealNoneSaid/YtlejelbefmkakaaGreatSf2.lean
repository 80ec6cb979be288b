/- Closed facts of SealNone's row. -/
import Derived.Test.YtlejelbefmkakaaGreatRows
import Derived.ProofKit
namespace Go.Proofs.YtlejelbefmkakaaGreat
theorem sn_fn : Tryz.pinned.checked.prog.funcNamed Rows.sealNoneRow.func = some 3 := by kernel_rfl
theorem sn_inst : Tryz.f3.isInstance Tryz.pinned.checked.prog Rows.sealNoneRow.origin Rows.sealNoneRow.targs := of_decide_eq_true (by kernel_rfl)
theorem sn_wrap : Tryz.f3.isWrapper Tryz.pinned.checked.prog Rows.sealNoneRow.wrapper Rows.sealNoneRow.mainSum := by unfold Func.isWrapper; first | (rw [if_pos (by decide +kernel)]; kernel_rfl) | (rw [if_neg (by decide +kernel)]; exact ⟨rfl, rfl⟩)
end Go.Proofs.YtlejelbefmkakaaGreat

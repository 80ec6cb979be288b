/- Closed facts of GateNone's row. -/
import Derived.Test.YtlejelbefmkakaaGreatRows
import Derived.ProofKit
namespace Go.Proofs.YtlejelbefmkakaaGreat
theorem gn_fn : Tryz.pinned.checked.prog.funcNamed Rows.gateNoneRow.func = some 4 := by kernel_rfl
theorem gn_inst : Tryz.f4.isInstance Tryz.pinned.checked.prog Rows.gateNoneRow.origin Rows.gateNoneRow.targs := of_decide_eq_true (by kernel_rfl)
theorem gn_wrap : Tryz.f4.isWrapper Tryz.pinned.checked.prog Rows.gateNoneRow.wrapper Rows.gateNoneRow.mainSum := by unfold Func.isWrapper; first | (rw [if_pos (by decide +kernel)]; kernel_rfl) | (rw [if_neg (by decide +kernel)]; exact ⟨rfl, rfl⟩)
end Go.Proofs.YtlejelbefmkakaaGreat

/- ztw facts of SealCloses's row. -/
import Derived.Test.YtlejelbefmkakaaGreatRows
import Derived.ProofKit
namespace Go.Proofs.YtlejelbefmkakaaGreat
theorem zyo:Tryz.pinned.checked.prog.funcNamed Rows.sealClosesUptoRow.func=some 6:=by kernel_rfl
theorem zvy:Tryz.f6.isInstance Tryz.pinned.checked.prog Rows.sealClosesUptoRow.origin Rows.sealClosesUptoRow.targs:=of_decide_eq_true (by kernel_rfl)
theorem zvz:Tryz.f6.isWrapper Tryz.pinned.checked.prog Rows.sealClosesUptoRow.wrapper Rows.sealClosesUptoRow.mainSum:=by unfold Func.isWrapper;first|(rw[if_pos (by decide+kernel)];kernel_rfl)|(rw[if_neg (by decide+kernel)];exact⟨rfl,rfl⟩)
end Go.Proofs.YtlejelbefmkakaaGreat

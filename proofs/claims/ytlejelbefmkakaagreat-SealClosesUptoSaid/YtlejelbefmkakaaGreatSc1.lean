/- A closed fact of SealCloses's row, part by part. -/
import Derived.Test.YtlejelbefmkakaaGreatRows
import Derived.ProofKit
namespace Go.Proofs.YtlejelbefmkakaaGreat
theorem zyk:(Rows.sealClosesUptoRow.inPlace==Tryz.pinned.checked.prog.inPlace 6)=true:=by kernel_rfl
theorem zyl:(Rows.sealClosesUptoRow.unfollowed==Tryz.pinned.checked.prog.unfollowed 6)=true:=by kernel_rfl
theorem zym:(Rows.sealClosesUptoRow.recurses==Tryz.pinned.checked.prog.recurses 6)=true:=by kernel_rfl
theorem zyn:(Rows.sealClosesUptoRow.named==Tryz.pinned.checked.prog.varsNamed 6)=true:=by kernel_rfl
theorem zp1:joinedFacts Tryz.pinned.checked.prog 6 Tryz.f6 (Rows.OpenSpec.upto Rows.sealClosesSpec).bare Rows.sealClosesUptoRow=true:=by
 unfold joinedFacts;rw[zyk,zyl,zym,zyn];kernel_rfl
end Go.Proofs.YtlejelbefmkakaaGreat

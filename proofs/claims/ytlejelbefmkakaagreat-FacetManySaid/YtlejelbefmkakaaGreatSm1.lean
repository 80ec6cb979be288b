import Derived.Test.YtlejelbefmkakaaGreatRows
import Derived.ProofKit
namespace Go.Proofs.YtlejelbefmkakaaGreat
theorem fm_p1 : (Rows.facetManyRow.inPlace == Tryz.pinned.checked.prog.inPlace 15) = true := by kernel_rfl
theorem fm_p2 : (Rows.facetManyRow.unfollowed == Tryz.pinned.checked.prog.unfollowed 15) = true := by kernel_rfl
theorem fm_p3 : (Rows.facetManyRow.recurses == Tryz.pinned.checked.prog.recurses 15) = true := by kernel_rfl
theorem fm_p4 : (Rows.facetManyRow.named == Tryz.pinned.checked.prog.varsNamed 15) = true := by kernel_rfl
theorem fm_closed : joinedFacts Tryz.pinned.checked.prog 15 Tryz.f15 Rows.facetManySpec Rows.facetManyRow = true := by
 unfold joinedFacts
 rw [fm_p1, fm_p2, fm_p3, fm_p4]
 kernel_rfl
end Go.Proofs.YtlejelbefmkakaaGreat

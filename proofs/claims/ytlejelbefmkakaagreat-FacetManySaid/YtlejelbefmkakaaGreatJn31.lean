/- Texts joined: Wg1. -/
import Derived.Test.YtlejelbefmkakaaGreatJn3
namespace Go.Proofs.YtlejelbefmkakaaGreat
open Go.RowKit
set_option maxRecDepth 100000 in
set_option maxHeartbeats 4000000 in
theorem bare2 (home : Int) (W : World) :
 Calls Tryz.prog 207 #[.agg (th16 2 home 0 0 ⟨#[]⟩ none 0 0 0 0 0 0 0 0 false)] W fun e w' => e = .returned (.agg (th16 2 home 0 0 ⟨#[]⟩ none 0 0 0 0 0 0 0 0 false)) ∧ Fr No W w' := by
 unfold th16
 go_enter Tryz.func207, Tryz.ntmps207
 go_wp2_with fail
 refine bodyPost_ret (v := .agg (th16 2 home 0 0 ⟨#[]⟩ none 0 0 0 0 0 0 0 0 false)) (by simp [results, Tryz.results207, th16, go_sem, *]) rfl ⟨rfl, ?_⟩
 repeat (first | with_reducible exact Fr.refl No W | with_reducible refine Fr.drew ?_ | with_reducible refine Fr.alloc ?_ _ | with_reducible refine Fr.setNew ?_ (by first | (simp; done) | (simp; omega)) _)
end Go.Proofs.YtlejelbefmkakaaGreat

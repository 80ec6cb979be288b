/- Texts joined: Wg1. -/
import Derived.Test.YtnddfiohofnbaaaJn5
/- Worlds: bare, of things of the kinds 1, 2. -/
namespace Go.Proofs.Ytnddfiohofnbaaa
open Go.RowKit

set_option maxRecDepth 100000 in
set_option maxHeartbeats 4000000 in
theorem bare1 (home : Int) (W : World) :
    Calls Try.prog 91 #[.agg (th16 1 home 0 0 ⟨#[]⟩ none 0 0 0 0 0 0 0 0 false)] W fun e w' => e = .returned (.agg (th16 1 home 0 0 ⟨#[]⟩ none 0 0 0 0 0 0 0 0 false)) ∧ Fr No W w' := by
  unfold th16
  go_enter Try.func91, Try.ntmps91
  go_wp2_with fail
  refine bodyPost_ret (v := .agg (th16 1 home 0 0 ⟨#[]⟩ none 0 0 0 0 0 0 0 0 false)) (by simp [results, Try.results91, th16, go_sem, *]) rfl ⟨rfl, ?_⟩
  repeat (first | with_reducible exact Fr.refl No W | with_reducible refine Fr.drew ?_ | with_reducible refine Fr.alloc ?_ _ | with_reducible refine Fr.setNew ?_ (by first | (simp; done) | (simp; omega)) _)

set_option maxRecDepth 100000 in
set_option maxHeartbeats 4000000 in
theorem bare2 (home : Int) (W : World) :
    Calls Try.prog 91 #[.agg (th16 2 home 0 0 ⟨#[]⟩ none 0 0 0 0 0 0 0 0 false)] W fun e w' => e = .returned (.agg (th16 2 home 0 0 ⟨#[]⟩ none 0 0 0 0 0 0 0 0 false)) ∧ Fr No W w' := by
  unfold th16
  go_enter Try.func91, Try.ntmps91
  go_wp2_with fail
  refine bodyPost_ret (v := .agg (th16 2 home 0 0 ⟨#[]⟩ none 0 0 0 0 0 0 0 0 false)) (by simp [results, Try.results91, th16, go_sem, *]) rfl ⟨rfl, ?_⟩
  repeat (first | with_reducible exact Fr.refl No W | with_reducible refine Fr.drew ?_ | with_reducible refine Fr.alloc ?_ _ | with_reducible refine Fr.setNew ?_ (by first | (simp; done) | (simp; omega)) _)

end Go.Proofs.Ytnddfiohofnbaaa

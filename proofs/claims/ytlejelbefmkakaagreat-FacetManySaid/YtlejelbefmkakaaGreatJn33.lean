/- Texts joined: Wg5. -/
import Derived.Test.YtlejelbefmkakaaGreatJn5
import Derived.Test.YtlejelbefmkakaaGreatJn8
namespace Go.Proofs.YtlejelbefmkakaaGreat
open Go.RowKit
section
variable {m : Wm} {lo : Nat} {W : World}
set_option maxRecDepth 100000 in
set_option maxHeartbeats 4000000 in
theorem fits2 (home k n : Int) (s : ByteArray) (A : Option Addr) (len cap : Nat) (r n1 lost byr set : Int) (full : Bool) (b : Nat) :
 Calls Tryz.prog 158 #[.pointer (some ⟨b, 0, none⟩), .int .i64 0, .agg (th16 2 home k n s A len cap r n1 lost 0 byr set full)] W fun e w' => e = .returned (.bool true) ∧ Fr No W w' := by
 unfold th16
 go_enter Tryz.func158, Tryz.ntmps158
 go_wp2
 go_ret
 exact ⟨rfl, ((Fr.refl No W).alloc _).alloc _⟩
end
theorem asks2 (W : World) : Calls Tryz.prog 156 #[.int .u8 2] W fun e w' => e = .returned (.bool false) ∧ w' = W := by
 have hw : Calls Tryz.prog 172 #[.int .u8 2] W fun e w' => e = .returned (.bool false) ∧ w' = W := by
  go_enter Tryz.func172, Tryz.ntmps172
  go_wp2
  go_ret
  exact ⟨rfl, rfl⟩
 go_enter Tryz.func156, Tryz.ntmps156
 go_wp2_with fail
 refine hw.mono ?_
 rintro e w' ⟨rfl, rfl⟩
 go_wp2
 go_ret
 exact ⟨rfl, rfl⟩
theorem by2 (W : World) : Calls Tryz.prog 157 #[.int .u8 2] W fun e w' => e = .returned (.bool false) ∧ w' = W := by
 go_enter Tryz.func157, Tryz.ntmps157
 go_wp2
 go_ret
 exact ⟨rfl, rfl⟩
end Go.Proofs.YtlejelbefmkakaaGreat

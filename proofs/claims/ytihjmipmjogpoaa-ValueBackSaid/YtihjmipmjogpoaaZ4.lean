/- Chapter 2: the closed value of awake. -/
import Derived.Test.YtihjmipmjogpoaaZ3
namespace Go.Proofs.Ytihjmipmjogpoaa
open Go.RowKit

/-- The value that awake builds. -/
def awV : V := .mk 3 0 ⟨#[]⟩ [.mk 1 1 ⟨#[]⟩ [] 0, .mk 3 0 ⟨#[]⟩ [.mk 4 0 ⟨#[]⟩ [] 7] 0] 0
def awB : List Nat := [3, 0, 2, 1, 128, 0, 0, 0, 0, 0, 0, 1, 3, 0, 1, 4, 0, 0, 0, 7]
def awS : ByteArray := ⟨#[3, 0, 2, 1, 128, 0, 0, 0, 0, 0, 0, 1, 3, 0, 1, 4, 0, 0, 0, 7]⟩

theorem aw_enc : awV.enc = awB := by simp [awV, awB, V.enc_mk, hiB]
theorem aw_parse : parse 16 awS 512 = some (awV, ⟨#[]⟩, 508) := by
  rfl

end Go.Proofs.Ytihjmipmjogpoaa

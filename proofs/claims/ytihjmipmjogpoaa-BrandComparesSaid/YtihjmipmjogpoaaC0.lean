/- The arrays that BrandCompares builds. -/
import Derived.Test.YtihjmipmjogpoaaProg
import Derived.Test.YtihjmipmjogpoaaT
import Derived.Deep.MidRow
namespace Go.Proofs.Ytihjmipmjogpoaa
open Go.RowKit

theorem build28 (w : World) (a0 a1 a2 a3 a4 b0 b1 b2 b3 b4 : Value) : (Instr.build 28 #[(0, .agg #[a0, a1, a2, a3, a4]), (1, .agg #[b0, b1, b2, b3, b4])]).run Try.prog w = .ok (.agg #[a0, a1, a2, a3, a4, b0, b1, b2, b3, b4]) w :=
  run_build w 28 _ _ (by kernel_rfl)

theorem build29 (w : World) (a0 a1 a2 a3 a4 a5 a6 a7 a8 a9 b0 b1 b2 b3 b4 b5 b6 b7 b8 b9 c0 c1 c2 c3 c4 c5 c6 c7 c8 c9 : Value) :
    (Instr.build 29 #[(0, .agg #[a0, a1, a2, a3, a4, a5, a6, a7, a8, a9]), (1, .agg #[b0, b1, b2, b3, b4, b5, b6, b7, b8, b9]), (2, .agg #[c0, c1, c2, c3, c4, c5, c6, c7, c8, c9])]).run Try.prog w =
      .ok (.agg #[a0, a1, a2, a3, a4, a5, a6, a7, a8, a9, b0, b1, b2, b3, b4, b5, b6, b7, b8, b9, c0, c1, c2, c3, c4, c5, c6, c7, c8, c9]) w :=
  run_build w 29 _ _ (by kernel_rfl)

theorem Fr.setCells {S : Nat → Prop} {b : Nat} (hb : S b) : ∀ (vs : List Value) (o : Nat) (a w : World), Fr S a w → Fr S a (w.setCells b o vs)
  | [], _, _, _, h => h
  | v :: vs, o, a, w, h => Fr.setCells hb vs (o + 1) a _ (h.set (p := ⟨b, o, none⟩) (fun _ => hb) v)

theorem there30 {w : World} {B : Nat} {zs : Array Value} (h : Blk w B 29 zs) (hz : zs.size = 30) : w.there B 0 30 := by
  intro j hj
  rw [h.cell, h.frozen, Array.getElem?_eq_getElem (by omega)]
  simp

theorem store30 (w : World) (B : Nat) (zs cells : Array Value) (h : Blk w B 29 zs) (hz : zs.size = 30) (hc : cells.size = 30) :
    (∀ j, j < 30 → (w.setCells B 0 cells.toList).cell? ⟨B, j, none⟩ = cells[j]?) ∧ Fr (fun i => i = B) w (w.setCells B 0 cells.toList) := by
  refine ⟨fun j hj => ?_, Fr.setCells (S := fun i => i = B) rfl _ _ _ _ (Fr.refl _ w)⟩
  have ht := there30 h hz
  have := World.rangeAt_setCells_same w B 0 cells.toList (by simpa [hc] using ht) j (cells[j]'(by omega)) (by simp)
  rw [Array.getElem?_eq_getElem (by omega)]
  simpa using this

theorem info29 : (Try.prog.info? 29).map (·.size) = some 30 := by kernel_rfl

end Go.Proofs.Ytihjmipmjogpoaa

/- brand.Of: the mark of a value that may be. -/
import Derived.Test.YtihjmipmjogpoaaX4
namespace Go.Proofs.Ytihjmipmjogpoaa
open Go.RowKit

def OfP (v : V) (w : World) (e : Ending) (w' : World) : Prop :=
  (v.may = true → ∃ m, e = .returned (.tuple #[m, .int .i64 0]) ∧ IsMk v m ∧ Fr No w w') ∧ (v.may = false → e = .returned (.tuple #[.nilIface, .int .i64 2]) ∧ Fr No w w')

set_option maxHeartbeats 1000000 in
theorem Of_any (t : T) (w : World) (lo hi : Nat) (ht : t.In w lo hi) (hh : hi ≤ w.heap.size) : Calls Try.prog 29 #[t.val] w (OfP t.v w) := by
  have hM := fun w' h h' => may_any t w' lo hi h h'
  have hO := fun w' h h' => mark_any t w' lo hi h h'
  cases t with
  | mk k n s A cap l r =>
    rw [T.val_mk] at *
    cases hm : (T.mk k n s A cap l r).v.may
    · rw [hm] at hM
      have HM := hide hm
      clear hm hO
      go_enter Try.func29, Try.ntmps29
      go_wp2_with fail
      refine (hM _ (ht.no (((Fr.refl No w).alloc _)) hh) (by simp; omega)).mono ?_
      rintro e w2 ⟨rfl, fr2⟩
      go_wp2
      go_ret2
      exact ⟨fun h => (by rw [HM.out] at h; cases h), fun _ => ⟨rfl, ((Fr.refl No w).alloc _).trans fr2⟩⟩
    · rw [hm] at hM
      have HM := hide hm
      clear hm
      go_enter Try.func29, Try.ntmps29
      go_wp2_with fail
      refine (hM _ (ht.no (((Fr.refl No w).alloc _)) hh) (by simp; omega)).mono ?_
      rintro e w2 ⟨rfl, fr2⟩
      have b0 := ((Blk.new' w 27 #[.int .u8 k, .int .i64 n, .string s, .slice A l.length cap, .int .i64 r] (g := w.heap.size) rfl)).fr fr2 (fun h => h)
      obtain ⟨c0, c1, c2, c3, c4, cf⟩ := b0.cells5
      have hF2 : Fr No w w2 := ((Fr.refl No w).alloc _).trans fr2
      have ht2 := ht.no hF2 hh
      have hh2 : hi ≤ w2.heap.size := Nat.le_trans hh hF2.size
      clear b0 ht
      go_wp2_with fail
      refine (hO _ ht2 hh2).mono ?_
      rintro e w3 ⟨m, rfl, hmk, fr3⟩
      obtain ⟨ty, y, rfl⟩ := hmk.iface
      go_wp2
      go_ret2
      exact ⟨fun _ => ⟨_, rfl, hmk, hF2.trans fr3⟩, fun h => by rw [HM.out] at h; cases h⟩

end Go.Proofs.Ytihjmipmjogpoaa

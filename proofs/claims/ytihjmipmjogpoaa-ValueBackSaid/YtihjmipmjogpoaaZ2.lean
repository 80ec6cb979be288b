/- Chapter 2: Each: the function that it gives. -/
import Derived.Test.YtihjmipmjogpoaaZ1
namespace Go.Proofs.Ytihjmipmjogpoaa
open Go.RowKit

/-- What Each gives. -/
structure EachP (v : V) (w : World) (e : Ending) (w' : World) : Prop where
  fr : Fr No w w'
  no : v.may = false → e = .returned (.func (.func 103) #[] #[])
  yes : v.may = true → ∃ (k n : Int) (s : ByteArray) (A : Option Addr) (cap : Nat) (l : List T) (r : Int), e = .returned (.func (.func 105) #[] #[.pointer (some ⟨w.heap.size, 0, none⟩)]) ∧
    (T.mk k n s A cap l r).v = v ∧ Blk w' w.heap.size 27 #[.int .u8 k, .int .i64 n, .string s, .slice A l.length cap, .int .i64 r] ∧ (T.mk k n s A cap l r).In w' (w.heap.size + 1) w'.heap.size

theorem Each_no (t : T) (w : World) (lo hi : Nat) (ht : t.In w lo hi) (hh : hi ≤ w.heap.size) (hm : t.v.may = false) : Calls Try.prog 41 #[t.val] w (EachP t.v w) := by
  have hM := fun w' h h' => may_any t w' lo hi h h'
  rw [hm] at hM
  cases t with
  | mk k n s A cap l r =>
    rw [T.val_mk] at *
    generalize (T.mk k n s A cap l r).v = u at *
    go_enter Try.func41, Try.ntmps41
    go_wp2_with fail
    refine (hM _ (ht.no ((Fr.refl No w).alloc _) hh) (by simp; omega)).mono ?_
    rintro e w2 ⟨rfl, fr2⟩
    have HM := hide hm
    clear hm hM
    go_wp2
    go_ret
    exact ⟨((Fr.refl No w).alloc _).trans fr2, fun _ => rfl, fun h => by rw [HM.out] at h; cases h⟩

end Go.Proofs.Ytihjmipmjogpoaa

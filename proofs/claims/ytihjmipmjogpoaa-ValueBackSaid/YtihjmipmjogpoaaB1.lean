/- measure, May, Parts: whether a value may be, and how many parts it has. -/
import Derived.Test.YtihjmipmjogpoaaX2
namespace Go.Proofs.Ytihjmipmjogpoaa
open Go.RowKit

/-- How many parts; 0: it may not be. -/
def V.meas (v : V) : Nat := if v.may = true then v.size else 0

theorem T.val_mk (k n : Int) (s : ByteArray) (A : Option Addr) (cap : Nat) (l : List T) (r : Int) :
    (T.mk k n s A cap l r).val = .agg #[.int .u8 k, .int .i64 n, .string s, .slice A l.length cap, .int .i64 r] := rfl

set_option maxHeartbeats 1000000 in
theorem measure_any (t : T) (w : World) (lo hi : Nat) (ht : t.In w lo hi) (hh : hi ≤ w.heap.size) :
    Calls Try.prog 119 #[t.val] w fun e w' => e = .returned (.int .i64 (t.v.meas : Int)) ∧ Fr No w w' := by
  cases t with
  | mk k n s A cap l r =>
    have IH := take_any (.mk k n s A cap l r)
    rw [T.val_mk] at *
    have HT := hide ht
    clear ht
    go_enter Try.func119, Try.ntmps119
    go_wp2_with fail
    refine (IH _ (w.heap.size + 1) 512 16 lo hi ?_ ?_ ?_ ?_ ?_ ?_ ?_ ?_ ?_).mono ?_
    · exact HT.out.no (((Fr.refl No w).alloc _).alloc _) hh
    · omega
    · simp
    · go_simp
    · go_simp
    · go_simp
    · go_simp
    · omega
    · omega
    rintro e w2 ⟨rfl, fr2, took⟩
    have hF : Fr No w w2 := (((Fr.refl No w).alloc _).alloc _).trans' fr2 fun i hi h => by omega
    have HK := hide took
    clear took IH
    cases hf : (T.mk k n s A cap l r).v.fits 512 16
    · have hm : (T.mk k n s A cap l r).v.meas = 0 := by simp [V.meas, V.may, hf]
      have HM := hide hm
      have HF := hide hF
      clear hF hm hf
      go_wp2
      go_ret
      exact ⟨by rw [HM.out]; rfl, HF.out⟩
    · have hm : (T.mk k n s A cap l r).v.meas = (T.mk k n s A cap l r).v.size := by simp [V.meas, V.may, hf]
      have HM := hide hm
      obtain ⟨c0, c1, f0, f1⟩ := HK.out hf
      have hle : (T.mk k n s A cap l r).v.size ≤ 512 := by
        simp [V.fits] at hf; omega
      clear hm hf
      generalize (T.mk k n s A cap l r).v.size = z at *
      have e : ((512 - z : Nat) : Int) = 512 - (z : Int) := by omega
      rw [e] at c0
      clear e
      go_wp2
      go_ret
      exact ⟨by rw [HM.out]; go_num, hF⟩

set_option maxHeartbeats 1000000 in
theorem may_any (t : T) (w : World) (lo hi : Nat) (ht : t.In w lo hi) (hh : hi ≤ w.heap.size) :
    Calls Try.prog 58 #[t.val] w fun e w' => e = .returned (.bool t.v.may) ∧ Fr No w w' := by
  have IH := fun w' h h' => measure_any t w' lo hi h h'
  cases hm : t.v.may
  · have HM : t.v.meas = 0 := by simp [V.meas, hm]
    rw [HM] at IH
    cases t with
    | mk k n s A cap l r =>
      rw [T.val_mk] at *
      go_enter Try.func58, Try.ntmps58
      go_wp2_with fail
      refine (IH _ (ht.no ((Fr.refl No w).alloc _) hh) (by simp; omega)).mono ?_
      rintro e w2 ⟨rfl, fr2⟩
      go_wp2
      go_ret
      exact ⟨rfl, ((Fr.refl No w).alloc _).trans fr2⟩
  · have HM : 0 < t.v.meas := by simp [V.meas, hm]; exact t.v.size_pos
    cases t with
    | mk k n s A cap l r =>
      rw [T.val_mk] at *
      generalize (T.mk k n s A cap l r).v.meas = z at *
      go_enter Try.func58, Try.ntmps58
      go_wp2_with fail
      refine (IH _ (ht.no ((Fr.refl No w).alloc _) hh) (by simp; omega)).mono ?_
      rintro e w2 ⟨rfl, fr2⟩
      go_wp2
      go_ret
      exact ⟨by simp, ((Fr.refl No w).alloc _).trans fr2⟩

set_option maxHeartbeats 1000000 in
theorem parts_any (t : T) (w : World) (lo hi : Nat) (ht : t.In w lo hi) (hh : hi ≤ w.heap.size) :
    Calls Try.prog 56 #[t.val] w fun e w' => e = .returned (.int .i64 (t.v.meas : Int)) ∧ Fr No w w' := by
  have IH := fun w' h h' => measure_any t w' lo hi h h'
  cases t with
  | mk k n s A cap l r =>
    rw [T.val_mk] at *
    generalize (T.mk k n s A cap l r).v.meas = z at *
    go_enter Try.func56, Try.ntmps56
    go_wp2_with fail
    refine (IH _ (ht.no ((Fr.refl No w).alloc _) hh) (by simp; omega)).mono ?_
    rintro e w2 ⟨rfl, fr2⟩
    go_wp2
    go_ret
    exact ⟨rfl, ((Fr.refl No w).alloc _).trans fr2⟩

end Go.Proofs.Ytihjmipmjogpoaa

/- Chapter 2: Each: of a value that may be. -/
import Derived.Test.YtihjmipmjogpoaaZ2
namespace Go.Proofs.Ytihjmipmjogpoaa
open Go.RowKit

set_option maxHeartbeats 1000000 in
theorem Each_yes (t : T) (w : World) (lo hi : Nat) (ht : t.In w lo hi) (hh : hi ≤ w.heap.size) (hm : t.v.may = true) : Calls Try.prog 41 #[t.val] w (EachP t.v w) := by
  have hM := fun w' h h' => may_any t w' lo hi h h'
  have hO := own_any t
  rw [hm] at hM
  cases t with
  | mk k n s A cap l r =>
    rw [T.val_mk] at *
    have fr1 := (Fr.refl No w).alloc (.cells #[.int .u8 k, .int .i64 n, .string s, .slice A l.length cap, .int .i64 r] 27)
    have hK := Blk.new' w 27 #[.int .u8 k, .int .i64 n, .string s, .slice A l.length cap, .int .i64 r] rfl
    have ht1 := ht.no fr1 hh
    have hs1 := Nat.le_trans hh fr1.size
    have hsz : (w.alloc (.cells #[.int .u8 k, .int .i64 n, .string s, .slice A l.length cap, .int .i64 r] 27)).heap.size = w.heap.size + 1 := by simp
    generalize (T.mk k n s A cap l r).v = u at *
    go_enter Try.func41, Try.ntmps41
    go_wp2_with fail
    generalize World.alloc w _ = W0 at *
    refine (hM _ ht1 hs1).mono ?_
    rintro e w2 ⟨rfl, fr2⟩
    have hK2 := hK.fr fr2 fun h => h
    obtain ⟨c0, c1, c2, c3, c4, cf⟩ := hK2.cells5
    have q0 := hK2.lt
    have hO2 := hO w2 lo hi (ht1.no fr2 hs1) (Nat.le_trans hs1 fr2.size)
    have HO := hide hO2
    have HM := hide hm
    have HF := hide (fr1.trans fr2)
    have HK := hide hK2
    have hs2 := fr2.size
    clear hm hM hO hO2 fr1 fr2 hK hK2 ht ht1
    go_wp2_with fail
    refine HO.out.mono ?_
    rintro e w4 ⟨⟨k3, n3, s3, A3, cap3, l3, r3⟩, rfl, hv3, how, fr4⟩
    rw [T.val_mk]
    have hK4 := HK.out.fr fr4 fun h => h
    obtain ⟨d0, d1, d2, d3, d4, df⟩ := hK4.cells5
    have q4 := hK4.lt
    have HF4 := hide (HF.out.trans fr4)
    have HOW := hide how
    have HV := hide hv3
    have HK4 := hide hK4
    clear hK4 fr4 how hv3 c0 c1 c2 c3 c4 cf
    go_wp2
    go_ret
    refine ⟨?_, (fun h => by rw [HM.out] at h; cases h), fun _ => ⟨k3, n3, s3, A3, cap3, l3, r3, rfl, HV.out, ?_, ?_⟩⟩
    · have f := HF4.out
      repeat (first | with_reducible exact f | with_reducible refine Fr.setNew ?_ (Nat.le_refl _) _)
    · simpa using HK4.out.five 0 (.int .u8 k3) (.int .i64 n3) (.string s3) (.slice A3 l3.length cap3) (.int .i64 r3)
    · refine (T.In.fr (S := fun i => i = w.heap.size) HOW.out.inn ?_ (Nat.le_refl _) (fun i h0 h1 h2 => by have h' : i = w.heap.size := h2; omega)).more (by omega) (by simp)
      repeat (first | with_reducible exact Fr.refl _ w4 | with_reducible refine Fr.set ?_ (by simp) _)

end Go.Proofs.Ytihjmipmjogpoaa

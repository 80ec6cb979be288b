/- Chapter 2: At. -/
import Derived.Test.YtihjmipmjogpoaaE5
import Derived.Test.YtihjmipmjogpoaaB2
namespace Go.Proofs.Ytihjmipmjogpoaa
open Go.RowKit

/-- What At answers: the part, the error. -/
def atOf (v : V) (p : List Int) : V × Int := if v.may = true then (match vAt p v with | some x => (x, 0) | none => (V.zero, 22)) else (V.zero, 2)

set_option maxRecDepth 100000 in
set_option maxHeartbeats 4000000 in
theorem At_any (t : T) (w : World) (lo hi : Nat) (ht : t.In w lo hi) (hh : hi ≤ w.heap.size) (A : Option Addr) (cap : Nat) (p : List Int) (lo' hi' : Nat) (hp : Ints w lo' hi' A cap p) (hh' : hi' ≤ w.heap.size) :
    Calls Try.prog 68 #[t.val, .slice A p.length cap] w (OwnE (atOf t.v p).1 (atOf t.v p).2 w) := by
  have hM := fun w' h h' => may_any t w' lo hi h h'
  have hF := fun w' h h' h1 h2 => find2_any t w' lo hi h h' A cap p lo' hi' h1 h2
  have hO := own_any
  cases t with
  | mk k n s A1 cap1 l r =>
    rw [T.val_mk] at *
    generalize hu : (T.mk k n s A1 cap1 l r).v = u at *
    have fr1 : Fr No w ((w.alloc (.cells #[.int .u8 k, .int .i64 n, .string s, .slice A1 l.length cap1, .int .i64 r] 27)).alloc (.cells #[.int .u8 0, .int .i64 0, .string ⟨#[]⟩, .slice none 0 0, .int .i64 0] 27)) := ((Fr.refl No w).alloc _).alloc _
    have hK : Blk ((w.alloc (.cells #[.int .u8 k, .int .i64 n, .string s, .slice A1 l.length cap1, .int .i64 r] 27)).alloc (.cells #[.int .u8 0, .int .i64 0, .string ⟨#[]⟩, .slice none 0 0, .int .i64 0] 27)) w.heap.size 27 #[.int .u8 k, .int .i64 n, .string s, .slice A1 l.length cap1, .int .i64 r] := (Blk.new' w 27 _ rfl).alloc _
    have hZ : Blk ((w.alloc (.cells #[.int .u8 k, .int .i64 n, .string s, .slice A1 l.length cap1, .int .i64 r] 27)).alloc (.cells #[.int .u8 0, .int .i64 0, .string ⟨#[]⟩, .slice none 0 0, .int .i64 0] 27)) (w.heap.size + 1) 27 #[.int .u8 0, .int .i64 0, .string ⟨#[]⟩, .slice none 0 0, .int .i64 0] := Blk.new' (w.alloc _) 27 _ (by simp)
    have ht1 := ht.no fr1 hh
    have hp1 := hp.no fr1 hh'
    have hs0 : w.heap.size + 2 ≤ ((w.alloc (.cells #[.int .u8 k, .int .i64 n, .string s, .slice A1 l.length cap1, .int .i64 r] 27)).alloc (.cells #[.int .u8 0, .int .i64 0, .string ⟨#[]⟩, .slice none 0 0, .int .i64 0] 27)).heap.size := by simp
    have HU := hide hu
    clear hu ht hp
    cases hm : u.may with
    | false =>
      have e1 : atOf u p = (V.zero, 2) := by simp [atOf, hm]
      rw [e1]
      rw [hm] at hM
      clear hm e1 hF
      go_enter Try.func68, Try.ntmps68
      go_wp2_with fail
      generalize World.alloc _ (.cells #[.int .u8 0, .int .i64 0, .string ⟨#[]⟩, .slice none 0 0, .int .i64 0] 27) = W0 at *
      refine (hM _ ht1 (by omega)).mono ?_
      rintro e w2 ⟨rfl, fr2⟩
      have hZ2 := hZ.fr fr2 fun h => h
      obtain ⟨d0, d1, d2, d3, d4, df⟩ := hZ2.cells5
      have q0 := hZ2.lt
      have HF := hide (fr1.trans fr2)
      clear fr1 fr2 hK hZ hZ2 hM
      go_wp2
      refine bodyPost_ret (v := .tuple #[.agg #[.int .u8 0, .int .i64 0, .string ⟨#[]⟩, .slice none 0 0, .int .i64 0], .int .i64 2]) (by simp [results, Try.results68, go_sem, *]) rfl ?_
      have hF2 := HF.out
      refine ⟨T.zero, rfl, T.zero_v, T.zero_ow _ _ _, ?_⟩
      repeat (first | with_reducible exact hF2 | with_reducible refine Fr.setNew ?_ (by first | (simp; done) | (simp; omega)) _)
    | true =>
      have e1 : atOf u p = (match vAt p u with | some x => (x, 0) | none => (V.zero, 22)) := by simp [atOf, hm]
      have E1 := hide e1
      rw [hm] at hM
      clear hm e1
      go_enter Try.func68, Try.ntmps68
      go_wp2_with fail
      generalize World.alloc _ (.cells #[.int .u8 0, .int .i64 0, .string ⟨#[]⟩, .slice none 0 0, .int .i64 0] 27) = W0 at *
      refine (hM _ ht1 (by omega)).mono ?_
      rintro e w2 ⟨rfl, fr2⟩
      have hZ2 := hZ.fr fr2 fun h => h
      obtain ⟨c0, c1, c2, c3, c4, cf⟩ := (hK.fr fr2 fun h => h).cells5
      have ht2 := ht1.no fr2 (by omega)
      have hp2 := hp1.no fr2 (by omega)
      have hs2 := fr2.size
      have HF := hide (fr1.trans fr2)
      clear fr1 fr2 hK hZ hM
      go_wp2_with fail
      refine (hF _ ht2 (by omega) hp2 (by omega)).mono ?_
      rintro e w3 ⟨fr3, hP⟩
      have hZ3 := hZ2.fr fr3 fun h => h
      have hs3 := fr3.size
      have HF3 := hide (HF.out.trans fr3)
      clear c0 c1 c2 c3 c4 cf hF hZ2 fr3
      rcases hP with ⟨⟨k2, n2, s2, A2, cap2, l2, r2⟩, rfl, hv, hin⟩ | ⟨rfl, hv⟩
      · have e2 : atOf u p = ((T.mk k2 n2 s2 A2 cap2 l2 r2).v, 0) := by rw [E1.out, hv]
        have E2 := hide e2
        rw [T.val_mk]
        have frB := (Fr.refl No w3).alloc (.cells #[.int .u8 k2, .int .i64 n2, .string s2, .slice A2 l2.length cap2, .int .i64 r2] 27)
        have hinB := hin.no frB (by omega)
        have hO1 := hO (T.mk k2 n2 s2 A2 cap2 l2 r2) (w3.alloc (.cells #[.int .u8 k2, .int .i64 n2, .string s2, .slice A2 l2.length cap2, .int .i64 r2] 27)) lo hi hinB (Nat.le_trans (by omega) frB.size)
        rw [T.val_mk] at hO1
        have HO := hide hO1
        have HZB := hide (hZ3.alloc (.cells #[.int .u8 k2, .int .i64 n2, .string s2, .slice A2 l2.length cap2, .int .i64 r2] 27))
        have HFB := hide (HF3.out.alloc (.cells #[.int .u8 k2, .int .i64 n2, .string s2, .slice A2 l2.length cap2, .int .i64 r2] 27))
        have hsB : w.heap.size + 2 ≤ (w3.alloc (.cells #[.int .u8 k2, .int .i64 n2, .string s2, .slice A2 l2.length cap2, .int .i64 r2] 27)).heap.size := by simp; omega
        have HSB := hide hsB
        clear e2 hv hin frB hinB hO1 hZ3 hO hsB
        go_wp2_with fail
        refine HO.out.mono ?_
        rintro e w4 ⟨⟨k3, n3, s3, A3, cap3, l3, r3⟩, rfl, hv3, how, fr4⟩
        rw [T.val_mk]
        have hZ4 := HZB.out.fr fr4 fun h => h
        obtain ⟨d0, d1, d2, d3, d4, df⟩ := hZ4.cells5
        have q0 := hZ4.lt
        have HF4 := hide (HFB.out.trans fr4)
        have HV3 := hide hv3
        have HOW := hide how
        have hs5 := HSB.out
        have hs6 := fr4.size
        clear hZ4 fr4 hv3 how
        go_wp2
        refine bodyPost_ret (v := .tuple #[.agg #[.int .u8 k3, .int .i64 n3, .string s3, .slice A3 l3.length cap3, .int .i64 r3], .int .i64 0]) (by simp [results, Try.results68, go_sem, *]) rfl ?_
        have hF2 := HF4.out
        have hO2 := HOW.out
        refine ⟨T.mk k3 n3 s3 A3 cap3 l3 r3, by rw [E2.out]; rfl, by rw [E2.out]; exact HV3.out, ?_, ?_⟩
        · refine ((hO2.fr (S := (· = w.heap.size + 1)) ?_ (Nat.le_refl _) (fun i h0 h1 h2 => by have h' : i = w.heap.size + 1 := h2; omega)).more (by omega) (by simp))
          repeat (first | with_reducible exact Fr.refl _ w4 | with_reducible refine Fr.set ?_ (by simp) _)
        · repeat (first | with_reducible exact hF2 | with_reducible refine Fr.setNew ?_ (by first | (simp; done) | (simp; omega)) _)
      · have e2 : atOf u p = (V.zero, 22) := by rw [E1.out, hv]
        have E2 := hide e2
        clear e2 hv hO
        have HZ3 := hide (hZ3.alloc (.cells #[.int .u8 0, .int .i64 0, .string ⟨#[]⟩, .slice none 0 0, .int .i64 0] 27))
        obtain ⟨d0, d1, d2, d3, d4, df⟩ := hZ3.cells5
        have q0 := hZ3.lt
        clear hZ3
        go_wp2
        refine bodyPost_ret (v := .tuple #[.agg #[.int .u8 0, .int .i64 0, .string ⟨#[]⟩, .slice none 0 0, .int .i64 0], .int .i64 22]) (by simp [results, Try.results68, go_sem, *]) rfl ?_
        have hF2 := HF3.out
        refine ⟨T.zero, by rw [E2.out]; rfl, by rw [E2.out]; exact T.zero_v, T.zero_ow _ _ _, ?_⟩
        repeat (first | with_reducible exact hF2 | with_reducible refine Fr.setNew ?_ (by first | (simp; done) | (simp; omega)) _ | with_reducible refine Fr.alloc ?_ _)

end Go.Proofs.Ytihjmipmjogpoaa

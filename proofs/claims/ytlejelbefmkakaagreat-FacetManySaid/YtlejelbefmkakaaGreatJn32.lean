/- Texts joined: Wg2. -/
import Derived.Test.YtlejelbefmkakaaGreatJn4
import Derived.Test.YtlejelbefmkakaaGreatJn31
import Derived.LoopN
namespace Go.Proofs.YtlejelbefmkakaaGreat
open Go.RowKit
set_option maxRecDepth 100000 in
set_option maxHeartbeats 8000000 in
theorem form2 {m : Wm} {lo : Nat} {W : World} (h : m.Ok lo W) (home : Nat) (hh : home < m.made.length) :
 Calls Tryz.prog 154 #[.pointer (some ⟨m.wb, 0, none⟩), .agg (th16 2 (home : Int) 0 0 ⟨#[]⟩ none 0 0 0 0 0 0 0 0 false)] W fun e w' => e = .returned (.bool true) ∧ Fr No W w' := by
 have HBare := hide (bare2 (home : Int))
 have HOf := hide of_none
 have hd : decide (0 ≤ (home : Int) ∧ (home : Int) < (m.made.length : Int)) = true := by simp; omega
 have hsd := fun W' (f : Fr No W W') => side_w (h.no f) (home : Int)
 rw [hd] at hsd
 have HSide := hide hsd
 have hbl := blank_w T.zero
 have hmy := fun W' (_ : Fr No W W') => may_zero W'
 have hz : blankB T.zero.v = true := by rw [T.zero_v]; simp [V.zero, blankB]
 rw [hz, T.zero_val] at hbl
 rw [T.zero_val] at hmy
 clear hz
 have HBl := hide hbl
 have HMay := hide hmy
 have hb0 := Blk.new W 138 (th16 2 (home : Int) 0 0 ⟨#[]⟩ none 0 0 0 0 0 0 0 0 false)
 have HF0 := hide ((Fr.refl No W).alloc (.cells (th16 2 (home : Int) 0 0 ⟨#[]⟩ none 0 0 0 0 0 0 0 0 false) 138))
 unfold th16 at HBare hb0 HF0 ⊢
 obtain ⟨d0, d1, d2, d3, d4, d5, d6, d7, d8, d9, d10, d11, d12, d13, d14, d15⟩ := hb0.cells16
 have dq := hb0.lt
 have HB0 := hide hb0
 clear hb0 h hh hd hsd hbl hmy
 go_enter Tryz.func154, Tryz.ntmps154
 go_wp2_with fail
 generalize World.alloc W _ = W0 at *
 refine (HBare.out W0).mono ?_
 rintro e w1 ⟨rfl, f1⟩
 have fa := f1.alloc (.cells (th16 2 (home : Int) 0 0 ⟨#[]⟩ none 0 0 0 0 0 0 0 0 false) 138)
 have bb := Blk.new w1 138 (th16 2 (home : Int) 0 0 ⟨#[]⟩ none 0 0 0 0 0 0 0 0 false)
 unfold th16 at fa bb
 have bx := HB0.out.fr fa fun h => h
 have HF1 := hide (HF0.out.trans fa)
 have HBX := hide bx
 have HBB := hide bb
 clear d0 d1 d2 d3 d4 d5 d6 d7 d8 d9 d10 d11 d12 d13 d14 d15 dq
 obtain ⟨d0, d1, d2, d3, d4, d5, d6, d7, d8, d9, d10, d11, d12, d13, d14, d15⟩ := bx.cells16
 obtain ⟨b0, b1, b2, b3, b4, b5, b6, b7, b8, b9, b10, b11, b12, b13, b14, b15⟩ := bb.cells16
 have dq := bx.lt
 have bq := bb.lt
 generalize hgb : w1.heap.size = gb at *
 clear f1 fa bx bb HB0 HF0 hgb
 go_wp2_with fail
 generalize World.alloc w1 _ = w2 at *
 refine (HBl.out w2).mono ?_
 rintro e w3 ⟨rfl, ff⟩
 have bx := HBX.out.fr ff fun h => h
 have bb := HBB.out.fr ff fun h => h
 replace HBX := hide bx
 replace HBB := hide bb
 replace HF1 := hide (HF1.out.trans ff)
 clear d0 d1 d2 d3 d4 d5 d6 d7 d8 d9 d10 d11 d12 d13 d14 d15 dq b0 b1 b2 b3 b4 b5 b6 b7 b8 b9 b10 b11 b12 b13 b14 b15 bq ff
 obtain ⟨d0, d1, d2, d3, d4, d5, d6, d7, d8, d9, d10, d11, d12, d13, d14, d15⟩ := bx.cells16
 obtain ⟨b0, b1, b2, b3, b4, b5, b6, b7, b8, b9, b10, b11, b12, b13, b14, b15⟩ := bb.cells16
 have dq := bx.lt
 have bq := bb.lt
 clear bx bb
 go_wp2_with fail
 refine (HBl.out w3).mono ?_
 rintro e w4 ⟨rfl, ff⟩
 have bx := HBX.out.fr ff fun h => h
 have bb := HBB.out.fr ff fun h => h
 replace HBX := hide bx
 replace HBB := hide bb
 replace HF1 := hide (HF1.out.trans ff)
 clear d0 d1 d2 d3 d4 d5 d6 d7 d8 d9 d10 d11 d12 d13 d14 d15 dq b0 b1 b2 b3 b4 b5 b6 b7 b8 b9 b10 b11 b12 b13 b14 b15 bq ff
 obtain ⟨d0, d1, d2, d3, d4, d5, d6, d7, d8, d9, d10, d11, d12, d13, d14, d15⟩ := bx.cells16
 obtain ⟨b0, b1, b2, b3, b4, b5, b6, b7, b8, b9, b10, b11, b12, b13, b14, b15⟩ := bb.cells16
 have dq := bx.lt
 have bq := bb.lt
 clear bx bb
 go_wp2_with fail
 refine (HSide.out w4 HF1.out).mono ?_
 rintro e w' ⟨rfl, rfl⟩
 go_wp2_with fail
 refine (HMay.out w' HF1.out).mono ?_
 rintro e w5 ⟨rfl, ff⟩
 have bx := HBX.out.fr ff fun h => h
 have bb := HBB.out.fr ff fun h => h
 replace HBX := hide bx
 replace HBB := hide bb
 replace HF1 := hide (HF1.out.trans ff)
 clear d0 d1 d2 d3 d4 d5 d6 d7 d8 d9 d10 d11 d12 d13 d14 d15 dq b0 b1 b2 b3 b4 b5 b6 b7 b8 b9 b10 b11 b12 b13 b14 b15 bq ff
 obtain ⟨d0, d1, d2, d3, d4, d5, d6, d7, d8, d9, d10, d11, d12, d13, d14, d15⟩ := bx.cells16
 obtain ⟨b0, b1, b2, b3, b4, b5, b6, b7, b8, b9, b10, b11, b12, b13, b14, b15⟩ := bb.cells16
 have dq := bx.lt
 have bq := bb.lt
 clear bx bb
 go_wp2_with fail
 refine (HOf.out w5).mono ?_
 rintro e w6 ⟨⟨⟨k9, n9, s9, A9, cap9, l9, r9⟩, rfl⟩, ff⟩
 rw [T.val_mk]
 replace ff := ff.alloc (.cells #[.int .u8 k9, .int .i64 n9, .string s9, .slice A9 l9.length cap9, .int .i64 r9] 28)
 have bx := HBX.out.fr ff fun h => h
 have bb := HBB.out.fr ff fun h => h
 replace HBX := hide bx
 replace HBB := hide bb
 replace HF1 := hide (HF1.out.trans ff)
 clear d0 d1 d2 d3 d4 d5 d6 d7 d8 d9 d10 d11 d12 d13 d14 d15 dq b0 b1 b2 b3 b4 b5 b6 b7 b8 b9 b10 b11 b12 b13 b14 b15 bq ff
 obtain ⟨d0, d1, d2, d3, d4, d5, d6, d7, d8, d9, d10, d11, d12, d13, d14, d15⟩ := bx.cells16
 obtain ⟨b0, b1, b2, b3, b4, b5, b6, b7, b8, b9, b10, b11, b12, b13, b14, b15⟩ := bb.cells16
 have dq := bx.lt
 have bq := bb.lt
 clear bx bb
 go_wp2_with fail
 refine wp_loop_rounds 1 ?_
 rw [rounds_succ]
 go_wp2_with fail
 go_ret
 exact ⟨rfl, HF1.out⟩
end Go.Proofs.YtlejelbefmkakaaGreat

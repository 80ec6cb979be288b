/- Chapter 2: posternlaw02.awake. -/
import Derived.Test.YtihjmipmjogpoaaZ5
namespace Go.Proofs.Ytihjmipmjogpoaa
open Go.RowKit

theorem func105_neq_nil (w : World) (g : Nat) : (binOp .neq 73 (.func (.func 105) #[] #[.pointer (some ⟨g, 0, none⟩)]) .nilFunc).run Try.prog w = .ok (.bool true) w := by kernel_rfl

set_option maxRecDepth 100000 in
set_option maxHeartbeats 8000000 in
theorem awake_any (w : World) : Calls Try.prog 38 #[] w fun e w' => e = .returned (.bool true) ∧ Fr No w w' := by
  have hfn := func105_neq_nil
  go_enter Try.func38, Try.ntmps38
  go_wp2_with fail
  refine (num2_any 1 w).mono ?_
  rintro e w1 ⟨rfl, f1⟩
  go_wp2_with fail
  refine (ref2_any 7 w1).mono ?_
  rintro e w2 ⟨rfl, f2⟩
  have g2 := f1.trans f2
  clear f1 f2
  go_wp2_with fail
  have hB3 : Blk (w2.alloc (.cells awC1 27)) w2.heap.size 27 awC1 := Blk.new w2 27 awC1
  have g3 := g2.alloc (.cells awC1 27)
  unfold awC1 at hB3 g3
  generalize World.alloc w2 _ = w3 at *
  refine (list2_any _ 1 1 w3).mono ?_
  rintro e w4 ⟨rfl, f4⟩
  have hB4 := hB3.fr f4 fun h => h
  have g4 := g3.trans f4
  clear hB3 g3 f4 g2
  go_wp2_with fail
  have hB5 := hB4.alloc (.cells (awC2 w2.heap.size) 27)
  have hC5 : Blk (w4.alloc (.cells (awC2 w2.heap.size) 27)) w4.heap.size 27 (awC2 w2.heap.size) := Blk.new w4 27 _
  have g5 := g4.alloc (.cells (awC2 w2.heap.size) 27)
  unfold awC2 at hB5 hC5 g5
  generalize World.alloc w4 _ = w5 at *
  refine (list2_any _ 2 2 w5).mono ?_
  rintro e w6 ⟨rfl, f6⟩
  have hB6 := hB5.fr f6 fun h => h
  have hC6 := hC5.fr f6 fun h => h
  have g6 := g5.trans f6
  clear hB5 hC5 hB4 g4 g5 f6
  go_wp2_with fail
  have hV7 : Blk (w6.alloc (.cells #[.int .u8 3, .int .i64 0, .string ⟨#[]⟩, .slice (some ⟨w4.heap.size, 0, none⟩) 2 2, .int .i64 0] 27)) w6.heap.size 27 #[.int .u8 3, .int .i64 0, .string ⟨#[]⟩, .slice (some ⟨w4.heap.size, 0, none⟩) 2 2, .int .i64 0] := Blk.new w6 27 _
  have hB7 := hB6.alloc (.cells #[.int .u8 3, .int .i64 0, .string ⟨#[]⟩, .slice (some ⟨w4.heap.size, 0, none⟩) 2 2, .int .i64 0] 27)
  have hC7 := hC6.alloc (.cells #[.int .u8 3, .int .i64 0, .string ⟨#[]⟩, .slice (some ⟨w4.heap.size, 0, none⟩) 2 2, .int .i64 0] 27)
  have g7 := g6.alloc (.cells #[.int .u8 3, .int .i64 0, .string ⟨#[]⟩, .slice (some ⟨w4.heap.size, 0, none⟩) 2 2, .int .i64 0] 27)
  clear hB6 hC6 g6
  generalize World.alloc w6 _ = w7 at *
  generalize w6.heap.size = gv at *
  generalize w4.heap.size = gc at *
  generalize w2.heap.size = gb at *
  refine (aw_bytes hB7 hC7).mono ?_
  rintro e w8 ⟨rfl, f8⟩
  unfold awS
  have hV8 := hV7.fr f8 fun h => h
  have hB8 := hB7.fr f8 fun h => h
  have hC8 := hC7.fr f8 fun h => h
  have g8 := g7.trans f8
  clear hV7 hB7 hC7 g7 f8
  go_wp2_with fail
  refine (aw_read w8).mono ?_
  rintro e w9 ⟨⟨⟨k, n, s, A, cap, l, r⟩, ht, rfl, hin⟩, f9⟩
  rw [T.val_mk]
  have hV9 := hV8.fr f9 fun h => h
  have hB9 := hB8.fr f9 fun h => h
  have hC9 := hC8.fr f9 fun h => h
  have g9 := g8.trans f9
  obtain ⟨c0, c1, c2, c3, c4, -⟩ := hV9.cells5
  have q0 := hV9.lt
  have HT := hide ht
  have HI := hide hin
  clear hV8 hB8 hC8 g8 f9 ht hin
  go_wp2_with fail
  have f10 := ((Fr.refl No w9).alloc (.cells #[.int .u8 k, .int .i64 n, .string s, .slice A l.length cap, .int .i64 r] 27)).alloc (.cells #[.int .i64 1, .int .i64 0] 3)
  have hX10 : Blk ((w9.alloc (.cells #[.int .u8 k, .int .i64 n, .string s, .slice A l.length cap, .int .i64 r] 27)).alloc (.cells #[.int .i64 1, .int .i64 0] 3)) w9.heap.size 27 #[.int .u8 k, .int .i64 n, .string s, .slice A l.length cap, .int .i64 r] := (Blk.new w9 27 _).alloc _
  have hP10 : Blk ((w9.alloc (.cells #[.int .u8 k, .int .i64 n, .string s, .slice A l.length cap, .int .i64 r] 27)).alloc (.cells #[.int .i64 1, .int .i64 0] 3)) (w9.heap.size + 1) 3 #[.int .i64 1, .int .i64 0] := Blk.new' _ 3 _ (by simp)
  have hV10 := hV9.fr f10 fun h => h
  have hB10 := hB9.fr f10 fun h => h
  have hC10 := hC9.fr f10 fun h => h
  have g10 := g9.trans f10
  have HI10 := hide (HI.out.no f10 (Nat.le_refl _))
  have HS10 := hide f10.size
  clear hV9 hB9 hC9 g9 f10 c0 c1 c2 c3 c4 q0
  generalize World.alloc (World.alloc w9 _) _ = w10 at *
  generalize hgx : w9.heap.size = gx at *
  clear hgx
  refine (aw_atc hB10 hC10 hP10).mono ?_
  rintro e w11 ⟨⟨A2, cap2, rfl⟩, f11⟩
  have hV11 := hV10.fr f11 fun h => h
  have hB11 := hB10.fr f11 fun h => h
  have hC11 := hC10.fr f11 fun h => h
  have hX11 := hX10.fr f11 fun h => h
  have g11 := g10.trans f11
  have HI11 := hide (HI10.out.no f11 HS10.out)
  have HS11 := hide (Nat.le_trans HS10.out f11.size)
  clear hV10 hB10 hC10 hX10 hP10 g10 f11 HI10 HS10
  go_wp2_with fail
  have f12 := (Fr.refl No w11).alloc (.cells #[.int .u8 4, .int .i64 0, .string ⟨#[]⟩, .slice A2 0 cap2, .int .i64 7] 27)
  have hY12 : Blk (w11.alloc (.cells #[.int .u8 4, .int .i64 0, .string ⟨#[]⟩, .slice A2 0 cap2, .int .i64 7] 27)) w11.heap.size 27 #[.int .u8 4, .int .i64 0, .string ⟨#[]⟩, .slice A2 0 cap2, .int .i64 7] := Blk.new w11 27 _
  have hV12 := hV11.fr f12 fun h => h
  have hB12 := hB11.fr f12 fun h => h
  have hC12 := hC11.fr f12 fun h => h
  have hX12 := hX11.fr f12 fun h => h
  have g12 := g11.trans f12
  have HI12 := hide (HI11.out.no f12 HS11.out)
  have HS12 := hide (Nat.le_trans HS11.out f12.size)
  clear hV11 hB11 hC11 hX11 g11 f12 HI11 HS11
  generalize World.alloc w11 _ = w12 at *
  generalize hgy : w11.heap.size = gy at *
  clear hgy
  refine (num2_any 1 w12).mono ?_
  rintro e w13 ⟨rfl, f13⟩
  go_wp2_with fail
  refine (num2_any 2 w13).mono ?_
  rintro e w14 ⟨rfl, f14⟩
  go_wp2_with fail
  refine (aw_order w14).mono ?_
  rintro e w15 ⟨rfl, f15⟩
  have f := (f13.trans f14).trans f15
  have hV15 := hV12.fr f fun h => h
  have hB15 := hB12.fr f fun h => h
  have hC15 := hC12.fr f fun h => h
  have hX15 := hX12.fr f fun h => h
  have hY15 := hY12.fr f fun h => h
  have g15 := g12.trans f
  have HI15 := hide (HI12.out.no f HS12.out)
  have HS15 := hide (Nat.le_trans HS12.out f.size)
  clear hV12 hB12 hC12 hX12 hY12 g12 f f13 f14 f15 HI12 HS12
  obtain ⟨c0, c1, c2, c3, c4, -⟩ := hV15.cells5
  obtain ⟨x0, x1, x2, x3, x4, -⟩ := hX15.cells5
  have q0 := hV15.lt
  have q1 := hX15.lt
  go_wp2_with fail
  have HSM := aw_same hB15 hC15 HT.out (T.In.more (Nat.le_refl _) HS15.out _ HI15.out)
  rw [T.val_mk] at HSM
  refine HSM.mono ?_
  rintro e w16 ⟨rfl, f16⟩
  have hV16 := hV15.fr f16 fun h => h
  have hB16 := hB15.fr f16 fun h => h
  have hC16 := hC15.fr f16 fun h => h
  have hY16 := hY15.fr f16 fun h => h
  have g16 := g15.trans f16
  clear hV15 hB15 hC15 hX15 hY15 g15 f16 HI15 HS15 c0 c1 c2 c3 c4 x0 x1 x2 x3 x4 q0 q1 HSM HT HI
  obtain ⟨c0, c1, c2, c3, c4, -⟩ := hV16.cells5
  obtain ⟨y0, y1, y2, y3, y4, -⟩ := hY16.cells5
  have q0 := hV16.lt
  have q1 := hY16.lt
  go_wp2_with fail
  clear c0 c1 c2 c3 c4 y0 y1 y2 y3 y4 q0 q1 hY16
  refine (aw_parts hB16 hC16).mono ?_
  rintro e w17 ⟨rfl, f17⟩
  have hV17 := hV16.fr f17 fun h => h
  have hB17 := hB16.fr f17 fun h => h
  have hC17 := hC16.fr f17 fun h => h
  have g17 := g16.trans f17
  clear hV16 hB16 hC16 g16 f17
  obtain ⟨c0, c1, c2, c3, c4, -⟩ := hV17.cells5
  have q0 := hV17.lt
  go_wp2_with fail
  clear c0 c1 c2 c3 c4 q0
  refine (aw_deep hB17 hC17).mono ?_
  rintro e w18 ⟨rfl, f18⟩
  have hV18 := hV17.fr f18 fun h => h
  have hB18 := hB17.fr f18 fun h => h
  have hC18 := hC17.fr f18 fun h => h
  have g18 := g17.trans f18
  clear hV17 hB17 hC17 g17 f18
  obtain ⟨c0, c1, c2, c3, c4, -⟩ := hV18.cells5
  have q0 := hV18.lt
  go_wp2_with fail
  clear c0 c1 c2 c3 c4 q0
  refine (aw_mayc hB18 hC18).mono ?_
  rintro e w19 ⟨rfl, f19⟩
  have hV19 := hV18.fr f19 fun h => h
  have hB19 := hB18.fr f19 fun h => h
  have hC19 := hC18.fr f19 fun h => h
  have g19 := g18.trans f19
  clear hV18 hB18 hC18 g18 f19
  obtain ⟨c0, c1, c2, c3, c4, -⟩ := hV19.cells5
  have q0 := hV19.lt
  go_wp2_with fail
  clear c0 c1 c2 c3 c4 q0
  refine (aw_each hB19 hC19).mono ?_
  rintro e w20 ⟨rfl, f20⟩
  have g20 := g19.trans f20
  go_wp2
  go_ret
  exact ⟨rfl, g20⟩

end Go.Proofs.Ytihjmipmjogpoaa

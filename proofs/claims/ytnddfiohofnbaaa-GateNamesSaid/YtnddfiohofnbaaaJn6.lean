/- Texts joined: Wg1c, Wg3, Wg5, Wg7, Wg9, Wg10, I0, H1. -/
import Derived.Test.YtnddfiohofnbaaaJn5
import Derived.Deep.RegionHeld3
import Derived.RangeFuncNested
import Derived.OrdersIn
/- Worlds: bare, of things of the kinds 15. -/
namespace Go.Proofs.Ytnddfiohofnbaaa
open Go.RowKit

set_option maxRecDepth 100000 in
set_option maxHeartbeats 4000000 in
theorem bare15 (home : Int) (ofr : Int) (byr : Int) (W : World) :
    Calls Try.prog 91 #[.agg (th16 15 home 0 0 ⟨#[]⟩ none 0 0 0 0 0 ofr byr 0 false)] W fun e w' => e = .returned (.agg (th16 15 home 0 0 ⟨#[]⟩ none 0 0 0 0 0 ofr byr 0 false)) ∧ Fr No W w' := by
  unfold th16
  go_enter Try.func91, Try.ntmps91
  go_upto_region 27 with (fail)
  go_region
  all_goals
    go_simp
    go_wp2_with fail
    refine bodyPost_ret (v := .agg (th16 15 home 0 0 ⟨#[]⟩ none 0 0 0 0 0 ofr byr 0 false)) (by simp [results, Try.results91, th16, go_sem, *]) rfl ⟨rfl, ?_⟩
    repeat (first | with_reducible exact Fr.refl No W | with_reducible refine Fr.drew ?_ | with_reducible refine Fr.alloc ?_ _ | with_reducible refine Fr.setNew ?_ (by first | (simp; done) | (simp; omega)) _)

end Go.Proofs.Ytnddfiohofnbaaa

/- Worlds: form, of things of the kinds 13, 15. -/
namespace Go.Proofs.Ytnddfiohofnbaaa
open Go.RowKit

set_option maxRecDepth 100000 in
set_option maxHeartbeats 8000000 in
theorem form13 {m : Wm} {lo : Nat} {W : World} (h : m.Ok lo W) (home : Nat) (ofr : Int) (full : Bool) (hh : home < m.made.length) :
    Calls Try.prog 65 #[.pointer (some ⟨m.wb, 0, none⟩), .agg (th16 13 (home : Int) 0 0 ⟨#[]⟩ none 0 0 0 0 0 ofr 0 0 full)] W fun e w' => e = .returned (.bool true) ∧ Fr No W w' := by
  have HBare := hide (bare13 (home : Int) ofr full)
  have HOf := hide of_none
  have hd : decide (0 ≤ (home : Int) ∧ (home : Int) < (m.made.length : Int)) = true := by simp; omega
  have hsd := fun W' (f : Fr No W W') => side_w (h.no f) (home : Int)
  rw [hd] at hsd
  have HSide := hide hsd
  have hbl := blank_w T.zero
  have hmy := fun W' (_ : Fr No W W') => may_zero W'
  have hz : blankB T.zero.v = true := by rw [T.zero_v]; simp [V.zero, blankB]
  rw [hz, T.zero_val] at hbl
  rw [T.zero_val] at hmy
  clear hz
  have HBl := hide hbl
  have HMay := hide hmy
  have hb0 := Blk.new W 83 (th16 13 (home : Int) 0 0 ⟨#[]⟩ none 0 0 0 0 0 ofr 0 0 full)
  have HF0 := hide ((Fr.refl No W).alloc (.cells (th16 13 (home : Int) 0 0 ⟨#[]⟩ none 0 0 0 0 0 ofr 0 0 full) 83))
  unfold th16 at HBare hb0 HF0 ⊢
  obtain ⟨d0, d1, d2, d3, d4, d5, d6, d7, d8, d9, d10, d11, d12, d13, d14, d15⟩ := hb0.cells16
  have dq := hb0.lt
  have HB0 := hide hb0
  clear hb0 h hh hd hsd hbl hmy
  go_enter Try.func65, Try.ntmps65
  go_wp2_with fail
  generalize World.alloc W _ = W0 at *
  refine (HBare.out W0).mono ?_
  rintro e w1 ⟨rfl, f1⟩
  have fa := f1.alloc (.cells (th16 13 (home : Int) 0 0 ⟨#[]⟩ none 0 0 0 0 0 ofr 0 0 full) 83)
  have bb := Blk.new w1 83 (th16 13 (home : Int) 0 0 ⟨#[]⟩ none 0 0 0 0 0 ofr 0 0 full)
  unfold th16 at fa bb
  have bx := HB0.out.fr fa fun h => h
  have HF1 := hide (HF0.out.trans fa)
  have HBX := hide bx
  have HBB := hide bb
  clear d0 d1 d2 d3 d4 d5 d6 d7 d8 d9 d10 d11 d12 d13 d14 d15 dq
  obtain ⟨d0, d1, d2, d3, d4, d5, d6, d7, d8, d9, d10, d11, d12, d13, d14, d15⟩ := bx.cells16
  obtain ⟨b0, b1, b2, b3, b4, b5, b6, b7, b8, b9, b10, b11, b12, b13, b14, b15⟩ := bb.cells16
  have dq := bx.lt
  have bq := bb.lt
  generalize hgb : w1.heap.size = gb at *
  clear f1 fa bx bb HB0 HF0 hgb
  go_wp2_with fail
  generalize World.alloc w1 _ = w2 at *
  refine (HBl.out w2).mono ?_
  rintro e w3 ⟨rfl, ff⟩
  have bx := HBX.out.fr ff fun h => h
  have bb := HBB.out.fr ff fun h => h
  replace HBX := hide bx
  replace HBB := hide bb
  replace HF1 := hide (HF1.out.trans ff)
  clear d0 d1 d2 d3 d4 d5 d6 d7 d8 d9 d10 d11 d12 d13 d14 d15 dq b0 b1 b2 b3 b4 b5 b6 b7 b8 b9 b10 b11 b12 b13 b14 b15 bq ff
  obtain ⟨d0, d1, d2, d3, d4, d5, d6, d7, d8, d9, d10, d11, d12, d13, d14, d15⟩ := bx.cells16
  obtain ⟨b0, b1, b2, b3, b4, b5, b6, b7, b8, b9, b10, b11, b12, b13, b14, b15⟩ := bb.cells16
  have dq := bx.lt
  have bq := bb.lt
  clear bx bb
  go_wp2_with fail
  refine (HBl.out w3).mono ?_
  rintro e w4 ⟨rfl, ff⟩
  have bx := HBX.out.fr ff fun h => h
  have bb := HBB.out.fr ff fun h => h
  replace HBX := hide bx
  replace HBB := hide bb
  replace HF1 := hide (HF1.out.trans ff)
  clear d0 d1 d2 d3 d4 d5 d6 d7 d8 d9 d10 d11 d12 d13 d14 d15 dq b0 b1 b2 b3 b4 b5 b6 b7 b8 b9 b10 b11 b12 b13 b14 b15 bq ff
  obtain ⟨d0, d1, d2, d3, d4, d5, d6, d7, d8, d9, d10, d11, d12, d13, d14, d15⟩ := bx.cells16
  obtain ⟨b0, b1, b2, b3, b4, b5, b6, b7, b8, b9, b10, b11, b12, b13, b14, b15⟩ := bb.cells16
  have dq := bx.lt
  have bq := bb.lt
  clear bx bb
  go_wp2_with fail
  refine (HSide.out w4 HF1.out).mono ?_
  rintro e w' ⟨rfl, rfl⟩
  go_wp2_with fail
  refine (HMay.out w' HF1.out).mono ?_
  rintro e w5 ⟨rfl, ff⟩
  have bx := HBX.out.fr ff fun h => h
  have bb := HBB.out.fr ff fun h => h
  replace HBX := hide bx
  replace HBB := hide bb
  replace HF1 := hide (HF1.out.trans ff)
  clear d0 d1 d2 d3 d4 d5 d6 d7 d8 d9 d10 d11 d12 d13 d14 d15 dq b0 b1 b2 b3 b4 b5 b6 b7 b8 b9 b10 b11 b12 b13 b14 b15 bq ff
  obtain ⟨d0, d1, d2, d3, d4, d5, d6, d7, d8, d9, d10, d11, d12, d13, d14, d15⟩ := bx.cells16
  obtain ⟨b0, b1, b2, b3, b4, b5, b6, b7, b8, b9, b10, b11, b12, b13, b14, b15⟩ := bb.cells16
  have dq := bx.lt
  have bq := bb.lt
  clear bx bb
  go_wp2_with fail
  refine (HOf.out w5).mono ?_
  rintro e w6 ⟨⟨⟨k9, n9, s9, A9, cap9, l9, r9⟩, rfl⟩, ff⟩
  rw [T.val_mk]
  replace ff := ff.alloc (.cells #[.int .u8 k9, .int .i64 n9, .string s9, .slice A9 l9.length cap9, .int .i64 r9] 37)
  have bx := HBX.out.fr ff fun h => h
  have bb := HBB.out.fr ff fun h => h
  replace HBX := hide bx
  replace HBB := hide bb
  replace HF1 := hide (HF1.out.trans ff)
  clear d0 d1 d2 d3 d4 d5 d6 d7 d8 d9 d10 d11 d12 d13 d14 d15 dq b0 b1 b2 b3 b4 b5 b6 b7 b8 b9 b10 b11 b12 b13 b14 b15 bq ff
  obtain ⟨d0, d1, d2, d3, d4, d5, d6, d7, d8, d9, d10, d11, d12, d13, d14, d15⟩ := bx.cells16
  obtain ⟨b0, b1, b2, b3, b4, b5, b6, b7, b8, b9, b10, b11, b12, b13, b14, b15⟩ := bb.cells16
  have dq := bx.lt
  have bq := bb.lt
  clear bx bb
  go_wp2_with fail
  refine wp_loop_rounds 1 ?_
  rw [rounds_succ]
  go_wp2_with fail
  go_ret
  exact ⟨rfl, HF1.out⟩


set_option maxRecDepth 100000 in
set_option maxHeartbeats 8000000 in
theorem form15 {m : Wm} {lo : Nat} {W : World} (h : m.Ok lo W) (home : Nat) (ofr : Int) (byr : Int) (hh : home < m.made.length) :
    Calls Try.prog 65 #[.pointer (some ⟨m.wb, 0, none⟩), .agg (th16 15 (home : Int) 0 0 ⟨#[]⟩ none 0 0 0 0 0 ofr byr 0 false)] W fun e w' => e = .returned (.bool true) ∧ Fr No W w' := by
  have HBare := hide (bare15 (home : Int) ofr byr)
  have HOf := hide of_none
  have hd : decide (0 ≤ (home : Int) ∧ (home : Int) < (m.made.length : Int)) = true := by simp; omega
  have hsd := fun W' (f : Fr No W W') => side_w (h.no f) (home : Int)
  rw [hd] at hsd
  have HSide := hide hsd
  have hbl := blank_w T.zero
  have hmy := fun W' (_ : Fr No W W') => may_zero W'
  have hz : blankB T.zero.v = true := by rw [T.zero_v]; simp [V.zero, blankB]
  rw [hz, T.zero_val] at hbl
  rw [T.zero_val] at hmy
  clear hz
  have HBl := hide hbl
  have HMay := hide hmy
  have hb0 := Blk.new W 83 (th16 15 (home : Int) 0 0 ⟨#[]⟩ none 0 0 0 0 0 ofr byr 0 false)
  have HF0 := hide ((Fr.refl No W).alloc (.cells (th16 15 (home : Int) 0 0 ⟨#[]⟩ none 0 0 0 0 0 ofr byr 0 false) 83))
  unfold th16 at HBare hb0 HF0 ⊢
  obtain ⟨d0, d1, d2, d3, d4, d5, d6, d7, d8, d9, d10, d11, d12, d13, d14, d15⟩ := hb0.cells16
  have dq := hb0.lt
  have HB0 := hide hb0
  clear hb0 h hh hd hsd hbl hmy
  go_enter Try.func65, Try.ntmps65
  go_wp2_with fail
  generalize World.alloc W _ = W0 at *
  refine (HBare.out W0).mono ?_
  rintro e w1 ⟨rfl, f1⟩
  have fa := f1.alloc (.cells (th16 15 (home : Int) 0 0 ⟨#[]⟩ none 0 0 0 0 0 ofr byr 0 false) 83)
  have bb := Blk.new w1 83 (th16 15 (home : Int) 0 0 ⟨#[]⟩ none 0 0 0 0 0 ofr byr 0 false)
  unfold th16 at fa bb
  have bx := HB0.out.fr fa fun h => h
  have HF1 := hide (HF0.out.trans fa)
  have HBX := hide bx
  have HBB := hide bb
  clear d0 d1 d2 d3 d4 d5 d6 d7 d8 d9 d10 d11 d12 d13 d14 d15 dq
  obtain ⟨d0, d1, d2, d3, d4, d5, d6, d7, d8, d9, d10, d11, d12, d13, d14, d15⟩ := bx.cells16
  obtain ⟨b0, b1, b2, b3, b4, b5, b6, b7, b8, b9, b10, b11, b12, b13, b14, b15⟩ := bb.cells16
  have dq := bx.lt
  have bq := bb.lt
  generalize hgb : w1.heap.size = gb at *
  clear f1 fa bx bb HB0 HF0 hgb
  go_wp2_with fail
  generalize World.alloc w1 _ = w2 at *
  refine (HBl.out w2).mono ?_
  rintro e w3 ⟨rfl, ff⟩
  have bx := HBX.out.fr ff fun h => h
  have bb := HBB.out.fr ff fun h => h
  replace HBX := hide bx
  replace HBB := hide bb
  replace HF1 := hide (HF1.out.trans ff)
  clear d0 d1 d2 d3 d4 d5 d6 d7 d8 d9 d10 d11 d12 d13 d14 d15 dq b0 b1 b2 b3 b4 b5 b6 b7 b8 b9 b10 b11 b12 b13 b14 b15 bq ff
  obtain ⟨d0, d1, d2, d3, d4, d5, d6, d7, d8, d9, d10, d11, d12, d13, d14, d15⟩ := bx.cells16
  obtain ⟨b0, b1, b2, b3, b4, b5, b6, b7, b8, b9, b10, b11, b12, b13, b14, b15⟩ := bb.cells16
  have dq := bx.lt
  have bq := bb.lt
  clear bx bb
  go_wp2_with fail
  refine (HBl.out w3).mono ?_
  rintro e w4 ⟨rfl, ff⟩
  have bx := HBX.out.fr ff fun h => h
  have bb := HBB.out.fr ff fun h => h
  replace HBX := hide bx
  replace HBB := hide bb
  replace HF1 := hide (HF1.out.trans ff)
  clear d0 d1 d2 d3 d4 d5 d6 d7 d8 d9 d10 d11 d12 d13 d14 d15 dq b0 b1 b2 b3 b4 b5 b6 b7 b8 b9 b10 b11 b12 b13 b14 b15 bq ff
  obtain ⟨d0, d1, d2, d3, d4, d5, d6, d7, d8, d9, d10, d11, d12, d13, d14, d15⟩ := bx.cells16
  obtain ⟨b0, b1, b2, b3, b4, b5, b6, b7, b8, b9, b10, b11, b12, b13, b14, b15⟩ := bb.cells16
  have dq := bx.lt
  have bq := bb.lt
  clear bx bb
  go_wp2_with fail
  refine (HSide.out w4 HF1.out).mono ?_
  rintro e w' ⟨rfl, rfl⟩
  go_wp2_with fail
  refine (HMay.out w' HF1.out).mono ?_
  rintro e w5 ⟨rfl, ff⟩
  have bx := HBX.out.fr ff fun h => h
  have bb := HBB.out.fr ff fun h => h
  replace HBX := hide bx
  replace HBB := hide bb
  replace HF1 := hide (HF1.out.trans ff)
  clear d0 d1 d2 d3 d4 d5 d6 d7 d8 d9 d10 d11 d12 d13 d14 d15 dq b0 b1 b2 b3 b4 b5 b6 b7 b8 b9 b10 b11 b12 b13 b14 b15 bq ff
  obtain ⟨d0, d1, d2, d3, d4, d5, d6, d7, d8, d9, d10, d11, d12, d13, d14, d15⟩ := bx.cells16
  obtain ⟨b0, b1, b2, b3, b4, b5, b6, b7, b8, b9, b10, b11, b12, b13, b14, b15⟩ := bb.cells16
  have dq := bx.lt
  have bq := bb.lt
  clear bx bb
  go_wp2_with fail
  refine (HOf.out w5).mono ?_
  rintro e w6 ⟨⟨⟨k9, n9, s9, A9, cap9, l9, r9⟩, rfl⟩, ff⟩
  rw [T.val_mk]
  replace ff := ff.alloc (.cells #[.int .u8 k9, .int .i64 n9, .string s9, .slice A9 l9.length cap9, .int .i64 r9] 37)
  have bx := HBX.out.fr ff fun h => h
  have bb := HBB.out.fr ff fun h => h
  replace HBX := hide bx
  replace HBB := hide bb
  replace HF1 := hide (HF1.out.trans ff)
  clear d0 d1 d2 d3 d4 d5 d6 d7 d8 d9 d10 d11 d12 d13 d14 d15 dq b0 b1 b2 b3 b4 b5 b6 b7 b8 b9 b10 b11 b12 b13 b14 b15 bq ff
  obtain ⟨d0, d1, d2, d3, d4, d5, d6, d7, d8, d9, d10, d11, d12, d13, d14, d15⟩ := bx.cells16
  obtain ⟨b0, b1, b2, b3, b4, b5, b6, b7, b8, b9, b10, b11, b12, b13, b14, b15⟩ := bb.cells16
  have dq := bx.lt
  have bq := bb.lt
  clear bx bb
  go_wp2_with fail
  refine wp_loop_rounds 1 ?_
  rw [rounds_succ]
  go_wp2_with fail
  go_ret
  exact ⟨rfl, HF1.out⟩


end Go.Proofs.Ytnddfiohofnbaaa

/- Worlds: fits, asksOf, asksBy, of a cell, a log, a switch, a gate. -/
namespace Go.Proofs.Ytnddfiohofnbaaa
open Go.RowKit

section
variable {m : Wm} {lo : Nat} {W : World}

set_option maxRecDepth 100000 in
set_option maxHeartbeats 4000000 in
theorem fits1 (home k n : Int) (s : ByteArray) (A : Option Addr) (len cap : Nat) (r n1 lost byr set : Int) (full : Bool) (b : Nat) :
    Calls Try.prog 69 #[.pointer (some ⟨b, 0, none⟩), .int .i64 0, .agg (th16 1 home k n s A len cap r n1 lost 0 byr set full)] W fun e w' => e = .returned (.bool true) ∧ Fr No W w' := by
  unfold th16
  go_enter Try.func69, Try.ntmps69
  go_wp2
  go_ret
  exact ⟨rfl, ((Fr.refl No W).alloc _).alloc _⟩

set_option maxRecDepth 100000 in
set_option maxHeartbeats 4000000 in
theorem fits2 (home k n : Int) (s : ByteArray) (A : Option Addr) (len cap : Nat) (r n1 lost byr set : Int) (full : Bool) (b : Nat) :
    Calls Try.prog 69 #[.pointer (some ⟨b, 0, none⟩), .int .i64 0, .agg (th16 2 home k n s A len cap r n1 lost 0 byr set full)] W fun e w' => e = .returned (.bool true) ∧ Fr No W w' := by
  unfold th16
  go_enter Try.func69, Try.ntmps69
  go_wp2
  go_ret
  exact ⟨rfl, ((Fr.refl No W).alloc _).alloc _⟩

set_option maxRecDepth 100000 in
set_option maxHeartbeats 4000000 in
theorem fits13 (home k n : Int) (s : ByteArray) (A : Option Addr) (len cap : Nat) (r n1 lost byr set : Int) (full : Bool) (b : Nat) :
    Calls Try.prog 69 #[.pointer (some ⟨b, 0, none⟩), .int .i64 0, .agg (th16 13 home k n s A len cap r n1 lost 0 byr set full)] W fun e w' => e = .returned (.bool true) ∧ Fr No W w' := by
  have hb1 := Blk.new' (W.alloc (.cells #[.pointer (some ⟨b, 0, none⟩)] 23)) 83 (th16 13 home k n s A len cap r n1 lost 0 byr set full) (g := W.heap.size + 1) (by simp)
  have hf0 := ((Fr.refl No W).alloc (.cells #[.pointer (some ⟨b, 0, none⟩)] 23)).alloc (.cells (th16 13 home k n s A len cap r n1 lost 0 byr set full) 83)
  have HB1 := hide hb1
  have HF0 := hide hf0
  unfold th16 at hb1 HB1 HF0 ⊢
  obtain ⟨d0, d1, d2, d3, d4, d5, d6, d7, d8, d9, d10, d11, d12, d13, d14, d15⟩ := hb1.cells16
  have dq := hb1.lt
  clear hb1 hf0
  go_enter Try.func69, Try.ntmps69
  go_wp2_with fail
  generalize World.alloc (World.alloc W _) _ = W0 at *
  clear d0 d1 d2 d3 d4 d5 d6 d7 d8 d9 d10 d11 d12 d13 d14 d15 dq
  have d10 : ∀ q : ClN W0, q.w.cell? ⟨W.heap.size + 1, 10, none⟩ = some (.int .i64 0) := fun q => (HB1.out.fr q.fr fun h => h).cell 10
  have dq : ∀ q : ClN W0, W.heap.size + 1 < q.w.heap.size := fun q => (HB1.out.fr q.fr fun h => h).lt
  have hinst : Nonempty (ClN W0) := ⟨⟨W0, Fr.refl No W0⟩⟩
  refine wp_region_quiet_cl (fun W' => ∃ q : ClN W0, W' = q.w) (by kernel_rfl) (by kernel_rfl) ⟨⟨_, (Fr.refl No W0).drew⟩, rfl⟩ ?_
  repeat (go_big_quiet_step (fail))
  refine wpQuiet_nil ?_
  rintro w1 ⟨⟨_, f3⟩, rfl⟩
  clear d10 dq hinst
  go_wp2_with fail
  go_ret
  exact ⟨rfl, HF0.out.trans f3⟩

set_option maxRecDepth 100000 in
set_option maxHeartbeats 4000000 in
/-- A gate: its switch is there, of the same side, of no gate yet; its target is there. -/
theorem fits15 (h : m.Ok lo W) (home k n : Int) (s : ByteArray) (A : Option Addr) (len cap : Nat) (r n1 lost ofr byr set : Int) (full : Bool) {x y : Nat × Th} (hg : m.get byr = some x) (hk : x.2.kind = 13) (hh : x.2.home = home) (ho : x.2.ofr = 0) (hy : m.get ofr = some y) :
    Calls Try.prog 69 #[.pointer (some ⟨m.wb, 0, none⟩), .int .i64 0, .agg (th16 15 home k n s A len cap r n1 lost ofr byr set full)] W fun e w' => e = .returned (.bool true) ∧ Fr No W w' := by
  have hb0 := (Blk.new W 23 #[.pointer (some ⟨m.wb, 0, none⟩)]).alloc (.cells (th16 15 home k n s A len cap r n1 lost ofr byr set full) 83)
  have hb1 := Blk.new' (W.alloc (.cells #[.pointer (some ⟨m.wb, 0, none⟩)] 23)) 83 (th16 15 home k n s A len cap r n1 lost ofr byr set full) (g := W.heap.size + 1) (by simp)
  have hf0 := ((Fr.refl No W).alloc (.cells #[.pointer (some ⟨m.wb, 0, none⟩)] 23)).alloc (.cells (th16 15 home k n s A len cap r n1 lost ofr byr set full) 83)
  have HOK := hide h
  have HI := hide fun W' (f : Fr No W W') => by have := Is_w (h.no f) ofr; rw [hy] at this; exact this
  unfold th16 at hb1 ⊢
  have HB0 := hide hb0
  have HB1 := hide hb1
  have HF0 := hide hf0
  have HG := hide hg
  unfold th16 at HF0 HB0
  obtain ⟨d0, d1, d2, d3, d4, d5, d6, d7, d8, d9, d10, d11, d12, d13, d14, d15⟩ := hb1.cells16
  have dq := hb1.lt
  clear hb0 hb1 hf0 h hg hy
  go_enter Try.func69, Try.ntmps69
  go_wp2_with fail
  generalize World.alloc (World.alloc W _) _ = W0 at *
  have hok0 := HOK.out.no HF0.out
  clear d0 d1 d2 d3 d4 d5 d6 d7 d8 d9 d10 d11 d12 d13 d14 d15 dq
  have d10 : ∀ q : ClN W0, q.w.cell? ⟨W.heap.size + 1, 10, none⟩ = some (.int .i64 ofr) := fun q => (HB1.out.fr q.fr fun h => h).cell 10
  have d11 : ∀ q : ClN W0, q.w.cell? ⟨W.heap.size + 1, 11, none⟩ = some (.int .i64 byr) := fun q => (HB1.out.fr q.fr fun h => h).cell 11
  have dq : ∀ q : ClN W0, W.heap.size + 1 < q.w.heap.size := fun q => (HB1.out.fr q.fr fun h => h).lt
  have e0 : ∀ q : ClN W0, q.w.cell? ⟨W.heap.size, 0, none⟩ = some (.pointer (some ⟨m.wb, 0, none⟩)) := fun q => (HB0.out.fr q.fr fun h => h).cell 0
  have eq_ : ∀ q : ClN W0, W.heap.size < q.w.heap.size := fun q => (HB0.out.fr q.fr fun h => h).lt
  have x2 : ∀ q : ClN W0, q.w.cell? ⟨m.wb, 2, none⟩ = some (.map (some m.M)) := fun q => map_cell (hok0.no q.fr)
  have xq2 : ∀ q : ClN W0, m.wb < q.w.heap.size := fun q => (hok0.no q.fr).blk.lt
  have hl : ∀ q : ClN W0, (Instr.lookup 73 (.map (some m.M)) (.int .i64 byr) false).run Try.prog q.w = .ok (.pointer (some ⟨x.1, 0, none⟩)) q.w := fun q => by
    have := look_thing (hok0.no q.fr) byr
    rw [HG.out] at this
    exact this
  have x10 : ∀ q : ClN W0, q.w.cell? ⟨x.1, 10, none⟩ = some (.int .i64 0) := fun q => by
    have := box_ofr ((hok0.no q.fr).box _ (Wm.get_mem HG.out))
    rwa [ho] at this
  have xq : ∀ q : ClN W0, x.1 < q.w.heap.size := fun q => ((hok0.no q.fr).box _ (Wm.get_mem HG.out)).lt
  have HC' : Hid (∀ q : ClN W0, Calls Try.prog 99 #[.int .i64 byr, .int .u8 13, .pointer (some ⟨W.heap.size, 0, none⟩), .pointer (some ⟨W.heap.size + 1, 0, none⟩)] q.w fun e w'' => e = .returned (.bool true) ∧ ∃ q' : ClN W0, w'' = q'.w) := hide fun q => by
    refine (fits1_yes (hok0.no q.fr) (HB0.out.fr q.fr fun h => h) HG.out hk hh (gx := W.heap.size + 1) ((HB1.out.fr q.fr fun h => h).cell 1) (HB1.out.fr q.fr fun h => h).lt).mono ?_
    rintro e w'' ⟨rfl, f⟩
    exact ⟨rfl, ⟨w'', q.fr.trans f⟩, rfl⟩
  have HI' : Hid (∀ q : ClN W0, Calls Try.prog 27 #[.pointer (some ⟨m.wb, 0, none⟩), .int .i64 ofr] q.w fun e w'' => e = .returned (.bool true) ∧ ∃ q' : ClN W0, w'' = q'.w) := hide fun q => by
    refine (HI.out q.w (HF0.out.trans q.fr)).mono ?_
    rintro e w'' ⟨rfl, rfl⟩
    exact ⟨rfl, q, rfl⟩
  have hinst : Nonempty (ClN W0) := ⟨⟨W0, Fr.refl No W0⟩⟩
  clear hok0 ho hk hh
  refine wp_region_quiet_cl (fun W' => ∃ q : ClN W0, W' = q.w) (by kernel_rfl) (by kernel_rfl) ⟨⟨_, (Fr.refl No W0).drew⟩, rfl⟩ ?_
  repeat (go_big_quiet_step (first | (go_at_call 99; exact HC'.out _) | (go_at_call 27; exact HI'.out _)))
  refine wpQuiet_nil ?_
  rintro w1 ⟨⟨_, f3⟩, rfl⟩
  clear d10 d11 dq e0 eq_ x2 xq2 hl x10 xq hinst
  go_wp2_with fail
  go_ret
  exact ⟨rfl, HF0.out.trans f3⟩
end

theorem asks1 (W : World) : Calls Try.prog 67 #[.int .u8 1] W fun e w' => e = .returned (.bool false) ∧ w' = W := by
  have hw : Calls Try.prog 98 #[.int .u8 1] W fun e w' => e = .returned (.bool false) ∧ w' = W := by
    go_enter Try.func98, Try.ntmps98
    go_wp2
    go_ret
    exact ⟨rfl, rfl⟩
  go_enter Try.func67, Try.ntmps67
  go_wp2_with fail
  refine hw.mono ?_
  rintro e w' ⟨rfl, rfl⟩
  go_wp2
  go_ret
  exact ⟨rfl, rfl⟩

theorem by1 (W : World) : Calls Try.prog 68 #[.int .u8 1] W fun e w' => e = .returned (.bool false) ∧ w' = W := by
  go_enter Try.func68, Try.ntmps68
  go_wp2
  go_ret
  exact ⟨rfl, rfl⟩

theorem asks2 (W : World) : Calls Try.prog 67 #[.int .u8 2] W fun e w' => e = .returned (.bool false) ∧ w' = W := by
  have hw : Calls Try.prog 98 #[.int .u8 2] W fun e w' => e = .returned (.bool false) ∧ w' = W := by
    go_enter Try.func98, Try.ntmps98
    go_wp2
    go_ret
    exact ⟨rfl, rfl⟩
  go_enter Try.func67, Try.ntmps67
  go_wp2_with fail
  refine hw.mono ?_
  rintro e w' ⟨rfl, rfl⟩
  go_wp2
  go_ret
  exact ⟨rfl, rfl⟩

theorem by2 (W : World) : Calls Try.prog 68 #[.int .u8 2] W fun e w' => e = .returned (.bool false) ∧ w' = W := by
  go_enter Try.func68, Try.ntmps68
  go_wp2
  go_ret
  exact ⟨rfl, rfl⟩

theorem asks13 (W : World) : Calls Try.prog 67 #[.int .u8 13] W fun e w' => e = .returned (.bool false) ∧ w' = W := by
  have hw : Calls Try.prog 98 #[.int .u8 13] W fun e w' => e = .returned (.bool false) ∧ w' = W := by
    go_enter Try.func98, Try.ntmps98
    go_wp2
    go_ret
    exact ⟨rfl, rfl⟩
  go_enter Try.func67, Try.ntmps67
  go_wp2_with fail
  refine hw.mono ?_
  rintro e w' ⟨rfl, rfl⟩
  go_wp2
  go_ret
  exact ⟨rfl, rfl⟩

theorem by13 (W : World) : Calls Try.prog 68 #[.int .u8 13] W fun e w' => e = .returned (.bool false) ∧ w' = W := by
  go_enter Try.func68, Try.ntmps68
  go_wp2
  go_ret
  exact ⟨rfl, rfl⟩

theorem asks15 (W : World) : Calls Try.prog 67 #[.int .u8 15] W fun e w' => e = .returned (.bool true) ∧ w' = W := by
  have hw : Calls Try.prog 98 #[.int .u8 15] W fun e w' => e = .returned (.bool true) ∧ w' = W := by
    go_enter Try.func98, Try.ntmps98
    go_wp2
    go_ret
    exact ⟨rfl, rfl⟩
  go_enter Try.func67, Try.ntmps67
  go_wp2_with fail
  refine hw.mono ?_
  rintro e w' ⟨rfl, rfl⟩
  go_wp2
  go_ret
  exact ⟨rfl, rfl⟩

theorem by15 (W : World) : Calls Try.prog 68 #[.int .u8 15] W fun e w' => e = .returned (.bool true) ∧ w' = W := by
  go_enter Try.func68, Try.ntmps68
  go_wp2
  go_ret
  exact ⟨rfl, rfl⟩

end Go.Proofs.Ytnddfiohofnbaaa

/- Worlds: Make, of a thing of kind 13. -/
namespace Go.Proofs.Ytnddfiohofnbaaa
open Go.RowKit

set_option maxRecDepth 100000 in
set_option maxHeartbeats 8000000 in
theorem make13 {m : Wm} {lo : Nat} {W : World} (h : m.Ok lo W) (hlo : lo ≤ W.heap.size) (home : Nat) (hs : home < m.made.length) (h512 : m.made[home] < 512) (hlen : m.th.length < 100000) :
    Calls Try.prog 39 #[.pointer (some ⟨m.wb, 0, none⟩), .agg (th16 13 (home : Int) 0 0 ⟨#[]⟩ none 0 0 0 0 0 0 0 0 false)] W (MakeRes m 13 home T.zero.v 0 0 0 0 0 false home lo W) := by
  have ht := fun W' : World => (T.zero_ow W' 0 W'.heap.size).inn
  have hzv : T.zero.v.may = true := by rw [T.zero_v, zero_may]
  have hF := fun W' (f : Fr No W W') => form13 (h.no f) home 0 false hs
  have hN := fun W' (f : Fr No W W') => names_w (h.no f) 13 (home : Int) 0 0 ⟨#[]⟩ none 0 [] 0 0 0 0 0 0 false W'.heap.size (ht W') (Nat.le_refl _) (by show T.zero.v.refs.length ≤ _; rw [T.zero_v, zero_refs]; simp)
  have hO := fun W' (f : Fr No W W') => ownWhat_w 13 (home : Int) 0 0 ⟨#[]⟩ none 0 [] 0 0 0 0 0 0 false W' W'.heap.size (ht W') (Nat.le_refl _) hzv
  have hz0 : m.are (T.mk 0 0 ⟨#[]⟩ none 0 [] 0).v.refs = true := by show m.are T.zero.v.refs = true; rw [T.zero_v, zero_refs]; rfl
  rw [hz0] at hN
  simp only [List.length_nil] at hN hO
  have hT := fun W' (_ : Fr No W W') => fits13 (W := W') (home : Int) 0 0 ⟨#[]⟩ none 0 0 0 0 0 0 0 false m.wb
  have hb0 := Blk.new W 83 (th16 13 (home : Int) 0 0 ⟨#[]⟩ none 0 0 0 0 0 0 0 0 false)
  have hf0 := (Fr.refl No W).alloc (.cells (th16 13 (home : Int) 0 0 ⟨#[]⟩ none 0 0 0 0 0 0 0 0 false) 83)
  have HOK := hide h
  have HF := hide hF
  have HN := hide hN
  have HO := hide hO
  have HT := hide hT
  have HB := hide hb0
  have HF0 := hide hf0
  unfold th16 at HF HN HO HT HB HF0 hb0 ⊢
  obtain ⟨d0, d1, d2, d3, d4, d5, d6, d7, d8, d9, d10, d11, d12, d13, d14, d15⟩ := hb0.cells16
  have dq := hb0.lt
  clear hF hN hO hT hb0 hf0 h ht hzv hz0
  go_enter Try.func39, Try.ntmps39
  go_wp2_with fail
  generalize World.alloc W _ = W0 at *
  refine (none_w (HOK.out.no HF0.out)).mono ?_
  rintro e w' ⟨rfl, rfl⟩
  go_wp2_with fail
  refine (HF.out w' HF0.out).mono ?_
  rintro e w1 ⟨rfl, ff⟩
  have hb := HB.out.fr ff fun h => h
  replace HB := hide hb
  replace HF0 := hide (HF0.out.trans ff)
  clear d0 d1 d2 d3 d4 d5 d6 d7 d8 d9 d10 d11 d12 d13 d14 d15 dq ff
  obtain ⟨d0, d1, d2, d3, d4, d5, d6, d7, d8, d9, d10, d11, d12, d13, d14, d15⟩ := hb.cells16
  have dq := hb.lt
  clear hb
  go_wp2_with fail
  refine (HN.out w1 HF0.out).mono ?_
  rintro e w2 ⟨rfl, ff⟩
  have hb := HB.out.fr ff fun h => h
  replace HB := hide hb
  replace HF0 := hide (HF0.out.trans ff)
  clear d0 d1 d2 d3 d4 d5 d6 d7 d8 d9 d10 d11 d12 d13 d14 d15 dq ff
  obtain ⟨d0, d1, d2, d3, d4, d5, d6, d7, d8, d9, d10, d11, d12, d13, d14, d15⟩ := hb.cells16
  have dq := hb.lt
  clear hb
  go_wp2_with fail
  refine (asks13 w2).mono ?_
  rintro e w3 ⟨rfl, rfl⟩
  go_wp2_with fail
  refine (by13 w3).mono ?_
  rintro e w5 ⟨rfl, rfl⟩
  go_wp2_with fail
  refine (HT.out w5 HF0.out).mono ?_
  rintro e w6 ⟨rfl, ff⟩
  have hb := HB.out.fr ff fun h => h
  replace HB := hide hb
  replace HF0 := hide (HF0.out.trans ff)
  clear d0 d1 d2 d3 d4 d5 d6 d7 d8 d9 d10 d11 d12 d13 d14 d15 dq ff
  obtain ⟨d0, d1, d2, d3, d4, d5, d6, d7, d8, d9, d10, d11, d12, d13, d14, d15⟩ := hb.cells16
  have dq := hb.lt
  clear hb
  go_wp2_with fail
  have hok6 := HOK.out.no HF0.out
  have hz : 0 < m.made.length := by omega
  obtain ⟨gD, c, hA2, hg0, hg1⟩ := hok6.made.form hz
  simp only [Value.slice.injEq, true_and] at hA2
  have hcell : w6.cell? ⟨gD, home, none⟩ = some (.int .i64 (m.made[home] : Int)) := by
    have := World.ownsRow.cells hok6.made (g := gD) (by rw [hA2.1]; rfl) home (.int .i64 (m.made[home] : Int)) (by simp [hs])
    rwa [add_at, Nat.zero_add] at this
  have x5 : w6.cell? ⟨m.wb, 5, none⟩ = some (.slice m.D m.made.length m.dc) := by
    have := hok6.blk.cell 5
    simpa [Wm.cells] using this
  rw [hA2.1] at x5
  have xq := hok6.blk.lt
  have hlt5 : decide ((m.made[home] : Int) ≥ 512) = false := by simp; omega
  generalize hmd : m.made[home] = mv at *
  clear hok6 hz hA2
  go_region
  all_goals
    go_simp
    go_wp2_with fail
    have HF7 := hide HF0.out.drew
    refine (HO.out w6.drew HF7.out).mono ?_
    rintro e w8 ⟨⟨k9, n9, s9, A9, cap9, l9, r9⟩, rfl, hv9, hsh9, f9⟩
    have hb := HB.out.fr (((Fr.refl No w6).drew).trans f9) fun h => h
    have hz6 := HF0.out.size
    have hly := lay_w ((HOK.out.no HF7.out).no f9) (by have := f9.size; have := HF7.out.size; omega) 13 k9 n9 s9 A9 cap9 l9 r9 0 0 0 0 0 false home hs (by rw [hmd]; exact h512) (by decide) hlen (hsh9.more (by have := HF7.out.size; omega) (Nat.le_refl _))
    have hval : (Th.val ⟨13, (home : Int), T.mk k9 n9 s9 A9 cap9 l9 r9, 0, 0, 0, 0, 0, false⟩) = .agg (th16 13 (home : Int) k9 n9 s9 A9 l9.length cap9 r9 0 0 0 0 0 false) := rfl
    rw [hval]
    have hbl : ∀ b ∈ (T.mk k9 n9 s9 A9 cap9 l9 r9).blocks, W.heap.size ≤ b := fun b hb => by have := (T.In.blocks _ hsh9.inn b hb).1; have := HF7.out.size; omega
    have HLY := hide hly
    have HV9 := hide hv9
    have HBL := hide hbl
    have HF9 := hide (HF7.out.trans f9)
    have hd0 : w8.cell? ⟨W.heap.size, 0, none⟩ = some (.int .u8 13) := hb.cell 0
    have HB8 := hide hb
    unfold th16 at HLY ⊢
    clear d0 d1 d2 d3 d4 d5 d6 d7 d8 d9 d10 d11 d12 d13 d14 d15 dq hcell x5 xq hlt5 hv9 hsh9 f9 hly hval hbl hb hz6 hd0
    go_wp2_with fail
    refine HLY.out.mono ?_
    rintro e w9 ⟨rfl, hok9, f10⟩
    have hnb : ¬ m.B W.heap.size := fun hb => by have := (HOK.out.lt _ hb).2; omega
    have hb9 := HB8.out.fr f10 hnb
    have hd0 : w9.cell? ⟨W.heap.size, 0, none⟩ = some (.int .u8 13) := hb9.cell 0
    have hq0 := hb9.lt
    have HOK9 := hide hok9
    have HF10 := hide (HF9.out.no.trans f10)
    have hg8 := HF9.out.size
    have HG8 := hide hg8
    clear hok9 f10 hnb hb9 hg8
    go_wp2_with fail
    go_ret2
    exact ⟨rfl, _, _, HV9.out, HG8.out, HBL.out, HOK9.out, HF10.out⟩

end Go.Proofs.Ytnddfiohofnbaaa

/- Worlds: Make, of a gate: its switch turns to it. -/
namespace Go.Proofs.Ytnddfiohofnbaaa
open Go.RowKit

/-- What Make leaves of a gate. -/
def GateRes (m : Wm) (home ofr byr : Int) (xs : Th) (s lo : Nat) (W : World) (e : Ending) (w' : World) : Prop :=
  e = .returned (.tuple #[.int .i64 ((m.th.length : Int) + 1), .int .i64 0]) ∧ ∃ (g : Nat) (t' : T), t'.v = T.zero.v ∧ W.heap.size ≤ g ∧ (∀ b ∈ t'.blocks, W.heap.size ≤ b) ∧
    ((m.add g ⟨15, home, t', 0, 0, ofr, byr, 0, false⟩ s).put (byr - 1).toNat { xs with ofr := (m.th.length : Int) + 1 }).Ok lo w' ∧ Fr m.B W w'

theorem gate_fin {m : Wm} {lo : Nat} {W w9 : World} {g s : Nat} {z : Th} {byr : Int} {x : Nat × Th} (h9 : (m.add g z s).Ok lo w9) (h : m.Ok lo W) (hg : m.get byr = some x) (f : Fr m.B W w9) :
    ((m.add g z s).put (byr - 1).toNat { x.2 with ofr := (m.th.length : Int) + 1 }).Ok lo (w9.setCell ⟨x.1, 10, none⟩ (.int .i64 ((m.th.length : Int) + 1))) ∧ Fr m.B W (w9.setCell ⟨x.1, 10, none⟩ (.int .i64 ((m.th.length : Int) + 1))) := by
  have hx := Wm.get_mem hg
  have hx9 := Wm.get_mem (add_get_old (g := g) (s := s) (x := z) hg)
  have hbx := h9.box _ hx9
  have f1 : Fr (fun j => j = x.1) w9 (w9.setCell ⟨x.1, 10, none⟩ (.int .i64 ((m.th.length : Int) + 1))) := (Fr.refl (fun j => j = x.1) w9).set (fun _ => rfl) _
  refine ⟨?_, f.trans' f1 fun i _ hi => ?_⟩
  · refine ok_put (g := x.1) (x := x.2) h9 (get_at (add_get_old hg)).1 f1 ?_ ?_
    · have := hbx.set_ 10 (.int .i64 ((m.th.length : Int) + 1))
      have hc : x.2.cells.toArray.setIfInBounds 10 (.int .i64 ((m.th.length : Int) + 1)) = ({ x.2 with ofr := (m.th.length : Int) + 1 } : Th).cells.toArray := by
        obtain ⟨xb, kind, hm, ⟨k, n, s, A, cap, l, r⟩, n1, lost, ofr, b, set, full⟩ := x
        rfl
      rwa [hc] at this
    · have hs := h9.vals _ hx9
      exact (hs.fr f1 fun b hb hh => by
        obtain ⟨cs', hb'⟩ := T.Sp.typed _ hs.sp b hb
        exact Blk.ne_ hb' hbx (by decide) hh).more (Nat.le_refl _) f1.size
  · have hi' : i = x.1 := hi
    exact .inr (.inr (.inr (.inr ⟨x, hx, .inl hi'⟩)))

set_option maxRecDepth 100000 in
set_option maxHeartbeats 8000000 in
theorem make15 {m : Wm} {lo : Nat} {W : World} (h : m.Ok lo W) (hlo : lo ≤ W.heap.size) (home : Nat) (hs : home < m.made.length) (h512 : m.made[home] < 512) (hlen : m.th.length < 100000) (ofr byr : Int) {x y : Nat × Th} (hg : m.get byr = some x) (hk5 : x.2.kind = 13) (hxh : x.2.home = (home : Int)) (hxo : x.2.ofr = 0) (hy : m.get ofr = some y) :
    Calls Try.prog 39 #[.pointer (some ⟨m.wb, 0, none⟩), .agg (th16 15 (home : Int) 0 0 ⟨#[]⟩ none 0 0 0 0 0 ofr byr 0 false)] W (GateRes m (home : Int) ofr byr x.2 home lo W) := by
  have ht := fun W' : World => (T.zero_ow W' 0 W'.heap.size).inn
  have hzv : T.zero.v.may = true := by rw [T.zero_v, zero_may]
  have hF := fun W' (f : Fr No W W') => form15 (h.no f) home ofr byr hs
  have hN := fun W' (f : Fr No W W') => names_w (h.no f) 15 (home : Int) 0 0 ⟨#[]⟩ none 0 [] 0 0 0 ofr byr 0 false W'.heap.size (ht W') (Nat.le_refl _) (by show T.zero.v.refs.length ≤ _; rw [T.zero_v, zero_refs]; simp)
  have hO := fun W' (f : Fr No W W') => ownWhat_w 15 (home : Int) 0 0 ⟨#[]⟩ none 0 [] 0 0 0 ofr byr 0 false W' W'.heap.size (ht W') (Nat.le_refl _) hzv
  have hz0 : m.are (T.mk 0 0 ⟨#[]⟩ none 0 [] 0).v.refs = true := by show m.are T.zero.v.refs = true; rw [T.zero_v, zero_refs]; rfl
  rw [hz0] at hN
  simp only [List.length_nil] at hN hO
  have hT := fun W' (f : Fr No W W') => fits15 (h.no f) (home : Int) 0 0 ⟨#[]⟩ none 0 0 0 0 0 ofr byr 0 false hg hk5 hxh hxo hy
  have hI := fun W' (f : Fr No W W') => Is_w (h.no f) ofr
  have hgi : (m.get ofr).isSome = true := by rw [hy]; rfl
  rw [hgi] at hI
  have hI2 := fun W' (f : Fr No W W') => Is_w (h.no f) byr
  have hgi2 : (m.get byr).isSome = true := by rw [hg]; rfl
  rw [hgi2] at hI2
  have HI2 := hide hI2
  have HG := hide hg
  have hb0 := Blk.new W 83 (th16 15 (home : Int) 0 0 ⟨#[]⟩ none 0 0 0 0 0 ofr byr 0 false)
  have hf0 := (Fr.refl No W).alloc (.cells (th16 15 (home : Int) 0 0 ⟨#[]⟩ none 0 0 0 0 0 ofr byr 0 false) 83)
  have HOK := hide h
  have HF := hide hF
  have HN := hide hN
  have HO := hide hO
  have HT := hide hT
  have HI := hide hI
  have HB := hide hb0
  have HF0 := hide hf0
  unfold th16 at HF HN HO HT HB HF0 hb0 ⊢
  obtain ⟨d0, d1, d2, d3, d4, d5, d6, d7, d8, d9, d10, d11, d12, d13, d14, d15⟩ := hb0.cells16
  have dq := hb0.lt
  clear hF hN hO hT hb0 hf0 h hI hgi hI2 hgi2 hg hk5 hxh hxo hy ht hzv hz0
  go_enter Try.func39, Try.ntmps39
  go_wp2_with fail
  generalize World.alloc W _ = W0 at *
  refine (none_w (HOK.out.no HF0.out)).mono ?_
  rintro e w' ⟨rfl, rfl⟩
  go_wp2_with fail
  refine (HF.out w' HF0.out).mono ?_
  rintro e w1 ⟨rfl, ff⟩
  have hb := HB.out.fr ff fun h => h
  replace HB := hide hb
  replace HF0 := hide (HF0.out.trans ff)
  clear d0 d1 d2 d3 d4 d5 d6 d7 d8 d9 d10 d11 d12 d13 d14 d15 dq ff
  obtain ⟨d0, d1, d2, d3, d4, d5, d6, d7, d8, d9, d10, d11, d12, d13, d14, d15⟩ := hb.cells16
  have dq := hb.lt
  clear hb
  go_wp2_with fail
  refine (HN.out w1 HF0.out).mono ?_
  rintro e w2 ⟨rfl, ff⟩
  have hb := HB.out.fr ff fun h => h
  replace HB := hide hb
  replace HF0 := hide (HF0.out.trans ff)
  clear d0 d1 d2 d3 d4 d5 d6 d7 d8 d9 d10 d11 d12 d13 d14 d15 dq ff
  obtain ⟨d0, d1, d2, d3, d4, d5, d6, d7, d8, d9, d10, d11, d12, d13, d14, d15⟩ := hb.cells16
  have dq := hb.lt
  clear hb
  go_wp2_with fail
  refine (asks15 w2).mono ?_
  rintro e w3 ⟨rfl, rfl⟩
  go_wp2_with fail
  refine (HI.out w3 HF0.out).mono ?_
  rintro e w4 ⟨rfl, rfl⟩
  go_wp2_with fail
  refine (by15 w4).mono ?_
  rintro e w5 ⟨rfl, rfl⟩
  go_wp2_with fail
  refine (HI2.out w5 HF0.out).mono ?_
  rintro e w5 ⟨rfl, rfl⟩
  go_wp2_with fail
  refine (HT.out w5 HF0.out).mono ?_
  rintro e w6 ⟨rfl, ff⟩
  have hb := HB.out.fr ff fun h => h
  replace HB := hide hb
  replace HF0 := hide (HF0.out.trans ff)
  clear d0 d1 d2 d3 d4 d5 d6 d7 d8 d9 d10 d11 d12 d13 d14 d15 dq ff
  obtain ⟨d0, d1, d2, d3, d4, d5, d6, d7, d8, d9, d10, d11, d12, d13, d14, d15⟩ := hb.cells16
  have dq := hb.lt
  clear hb
  go_wp2_with fail
  have hok6 := HOK.out.no HF0.out
  have hz : 0 < m.made.length := by omega
  obtain ⟨gD, c, hA2, hg0, hg1⟩ := hok6.made.form hz
  simp only [Value.slice.injEq, true_and] at hA2
  have hcell : w6.cell? ⟨gD, home, none⟩ = some (.int .i64 (m.made[home] : Int)) := by
    have := World.ownsRow.cells hok6.made (g := gD) (by rw [hA2.1]; rfl) home (.int .i64 (m.made[home] : Int)) (by simp [hs])
    rwa [add_at, Nat.zero_add] at this
  have x5 : w6.cell? ⟨m.wb, 5, none⟩ = some (.slice m.D m.made.length m.dc) := by
    have := hok6.blk.cell 5
    simpa [Wm.cells] using this
  rw [hA2.1] at x5
  have xq := hok6.blk.lt
  have hlt5 : decide ((m.made[home] : Int) ≥ 512) = false := by simp; omega
  generalize hmd : m.made[home] = mv at *
  clear hok6 hz hA2
  go_region
  all_goals
    go_simp
    go_wp2_with fail
    have HF7 := hide HF0.out.drew
    refine (HO.out w6.drew HF7.out).mono ?_
    rintro e w8 ⟨⟨k9, n9, s9, A9, cap9, l9, r9⟩, rfl, hv9, hsh9, f9⟩
    have hb := HB.out.fr (((Fr.refl No w6).drew).trans f9) fun h => h
    have hz6 := HF0.out.size
    have hly := lay_w ((HOK.out.no HF7.out).no f9) (by have := f9.size; have := HF7.out.size; omega) 15 k9 n9 s9 A9 cap9 l9 r9 0 0 ofr byr 0 false home hs (by rw [hmd]; exact h512) (by decide) hlen (hsh9.more (by have := HF7.out.size; omega) (Nat.le_refl _))
    have hval : (Th.val ⟨15, (home : Int), T.mk k9 n9 s9 A9 cap9 l9 r9, 0, 0, ofr, byr, 0, false⟩) = .agg (th16 15 (home : Int) k9 n9 s9 A9 l9.length cap9 r9 0 0 ofr byr 0 false) := rfl
    rw [hval]
    have hbl : ∀ b ∈ (T.mk k9 n9 s9 A9 cap9 l9 r9).blocks, W.heap.size ≤ b := fun b hb => by have := (T.In.blocks _ hsh9.inn b hb).1; have := HF7.out.size; omega
    have HLY := hide hly
    have HV9 := hide hv9
    have HBL := hide hbl
    have HF9 := hide (HF7.out.trans f9)
    have hd0 : w8.cell? ⟨W.heap.size, 0, none⟩ = some (.int .u8 15) := hb.cell 0
    have HB8 := hide hb
    unfold th16 at HLY ⊢
    clear d0 d1 d2 d3 d4 d5 d6 d7 d8 d9 d10 d11 d12 d13 d14 d15 dq hcell x5 xq hlt5 hv9 hsh9 f9 hly hval hbl hb hz6 hd0
    go_wp2_with fail
    refine HLY.out.mono ?_
    rintro e w9 ⟨rfl, hok9, f10⟩
    have hnb : ¬ m.B W.heap.size := fun hb => by have := (HOK.out.lt _ hb).2; omega
    have hb9 := HB8.out.fr f10 hnb
    have hd0 : w9.cell? ⟨W.heap.size, 0, none⟩ = some (.int .u8 15) := hb9.cell 0
    have hd11 : w9.cell? ⟨W.heap.size, 11, none⟩ = some (.int .i64 byr) := hb9.cell 11
    have hq0 := hb9.lt
    have hl9 := look_thing (hok9.no ((Fr.refl No w9).drew)) byr
    rw [add_get_old HG.out] at hl9
    simp only [Option.map_some] at hl9
    have hbx9 := hok9.box _ (Wm.get_mem (add_get_old HG.out))
    have xfz := hbx9.frozen 10
    have x10 := box_ofr hbx9
    have xq9 := hbx9.lt
    have x2 := map_cell hok9
    change w9.cell? ⟨m.wb, 2, none⟩ = some (.map (some m.M)) at x2
    have xw := hok9.blk.lt
    change m.wb < w9.heap.size at xw
    change (Instr.lookup 73 (.map (some m.M)) (.int .i64 byr) false).run Try.prog w9.drew = _ at hl9
    have HOK9 := hide hok9
    have HF10 := hide (HF9.out.no.trans f10)
    have hg8 := HF9.out.size
    have HG8 := hide hg8
    have hfin := gate_fin HOK9.out HOK.out HG.out HF10.out
    have HFIN := hide hfin
    clear hok9 f10 hnb hb9 hg8 hbx9 hfin
    go_upto_region 13 with (fail)
    go_region
    all_goals
      go_simp
      go_wp2_with fail
      go_ret2
      exact ⟨rfl, _, _, HV9.out, HG8.out, HBL.out, HFIN.out.1.no (Fr.refl No _).drew, HFIN.out.2.drew⟩

end Go.Proofs.Ytnddfiohofnbaaa

/- Layer 12: there, New. -/
namespace Go.Proofs.Ytnddfiohofnbaaa
open Go.RowKit

section
variable {m : Wm} {lo : Nat} {W : World}

theorem gath_w (h : m.Ok lo W) : Calls Try.prog 74 #[.pointer (some ⟨m.wb, 0, none⟩)] W fun e w' => e = .returned (.bool true) ∧ w' = W := by
  have hS := Sides_w h
  have h1 : decide (0 < m.made.length) = true := by have := h.sides; simp; omega
  clear h
  go_enter Try.func74, Try.ntmps74
  go_wp2_with fail
  refine hS.mono ?_
  rintro e w' ⟨rfl, rfl⟩
  go_wp2
  go_ret
  exact ⟨rfl, rfl⟩

/-- What New leaves. -/
def NewRes (m : Wm) (target : Int) (home lo : Nat) (W : World) (e : Ending) (w' : World) : Prop :=
  e = .returned (.tuple #[.int .i64 ((m.th.length : Int) + 1 + 1), .int .i64 ((m.th.length : Int) + 1), .int .i64 0]) ∧ ∃ (m' : Wm) (g1 g2 : Nat),
    m'.wb = m.wb ∧ m'.th = m.th ++ [(g1, ⟨13, home, T.zero, 0, 0, (m.th.length : Int) + 1 + 1, 0, 0, false⟩), (g2, ⟨15, home, T.zero, 0, 0, target, (m.th.length : Int) + 1, 0, false⟩)] ∧
    m'.made = m.made.set home (m.made.getD home 0 + 1 + 1) ∧ m'.Ok lo w' ∧ Fr m.B W w'

theorem new_th (m : Wm) (g1 g2 s : Nat) (x1 x2 x3 : Th) : (((m.add g1 x1 s).add g2 x2 s).put m.th.length x3).th = m.th ++ [(g1, x3), (g2, x2)] := by
  simp [Wm.put, Wm.add, List.getD_eq_getElem?_getD]

theorem new_made (m : Wm) (g1 g2 s i : Nat) (x1 x2 x3 : Th) (hs : s < m.made.length) : (((m.add g1 x1 s).add g2 x2 s).put i x3).made = m.made.set s (m.made.getD s 0 + 1 + 1) := by
  simp [Wm.put, Wm.add, List.getD_eq_getElem?_getD, hs]

set_option maxRecDepth 100000 in
set_option maxHeartbeats 4000000 in
theorem GNew_ok (h : m.Ok lo W) (hlo : lo ≤ W.heap.size) (home : Nat) (hs : home < m.made.length) (h512 : m.made[home] + 2 ≤ 512) (hlen : m.th.length + 2 < 100000) {target : Int} {y : Nat × Th} (hy : m.get target = some y) :
    Calls Try.prog 46 #[.pointer (some ⟨m.wb, 0, none⟩), .int .i64 (home : Int), .int .i64 target] W (NewRes m target home lo W) := by
  have HTh := hide (gath_w h)
  have HS := hide (Sides_w h)
  have HM := hide (Made_w h hs)
  have hI := Is_w h target
  rw [hy] at hI
  have HI := hide hI
  have hmk := make13 h hlo home hs (by omega) (by omega)
  unfold th16 at hmk
  have HMK := hide hmk
  have h0 : decide ((home : Int) < 0) = false := by simp
  have h1 : decide ((home : Int) ≥ (m.made.length : Int)) = false := by simp; omega
  have hw : IntKind.i64.wrap ((m.made[home] : Int) + 2) = (m.made[home] : Int) + 2 := IntWalk.i64_in _ (by omega)
  have h2 : decide (512 < (m.made[home] : Int) + 2) = false := by simp; omega
  clear hmk hI
  go_enter Try.func46, Try.ntmps46
  go_wp2_with fail
  refine HTh.out.mono ?_
  rintro e w' ⟨rfl, rfl⟩
  go_wp2_with fail
  refine HS.out.mono ?_
  rintro e w' ⟨rfl, rfl⟩
  go_wp2_with fail
  refine HI.out.mono ?_
  rintro e w' ⟨rfl, rfl⟩
  go_wp2_with fail
  refine HM.out.mono ?_
  rintro e w' ⟨rfl, rfl⟩
  go_wp2_with fail
  refine HMK.out.mono ?_
  rintro e w1 ⟨rfl, g1, t1, hv1, hg1, hb1, hok1, f1⟩
  have hmk2 := make15 hok1 (Nat.le_trans hlo f1.size) home (by rw [add_made]; exact hs) (by rw [add_at_made hs]; omega) (by rw [add_len]; omega) target ((m.th.length : Int) + 1) (add_get_new _ _ _) rfl rfl rfl (add_get_old hy)
  have hwb : (m.add g1 ⟨13, home, t1, 0, 0, 0, 0, 0, false⟩ home).wb = m.wb := rfl
  rw [hwb] at hmk2
  unfold th16 GateRes at hmk2
  rw [add_len] at hmk2
  have HMK2 := hide hmk2
  clear hmk2 h0 h1 h2 hw HMK HM HS HTh HI
  go_wp2_with fail
  refine HMK2.out.mono ?_
  rintro e w2 ⟨rfl, g2, t2, hv2, hg2, hb2, hok2, f2⟩
  have hfr : Fr m.B w' w2 := f1.trans' f2 fun i hi hb => add_old hg1 hb1 hb hi
  have hn : ((m.th.length : Int) + 1 - 1).toNat = m.th.length := by omega
  have hcast : ((m.th.length + 1 : Nat) : Int) + 1 = (m.th.length : Int) + 1 + 1 := by omega
  rw [hn, hcast] at hok2
  have hth := new_th m g1 g2 home ⟨13, home, t1, 0, 0, 0, 0, 0, false⟩ ⟨15, home, t2, 0, 0, target, (m.th.length : Int) + 1, 0, false⟩ ⟨13, home, t1, 0, 0, (m.th.length : Int) + 1 + 1, 0, 0, false⟩
  obtain rfl := zero_of (hok2.vals (g1, ⟨13, home, t1, 0, 0, (m.th.length : Int) + 1 + 1, 0, 0, false⟩) (by rw [hth]; simp)) (hv1.trans T.zero_v)
  obtain rfl := zero_of (hok2.vals (g2, ⟨15, home, t2, 0, 0, target, (m.th.length : Int) + 1, 0, false⟩) (by rw [hth]; simp)) (hv2.trans T.zero_v)
  have HFR := hide hfr
  have HOK2 := hide hok2
  clear hfr hok2 hg1 hb1 hg2 hb2 hok1 f1 f2 hwb hth hv1 hv2
  go_wp2_with fail
  refine bodyPost_ret (v := .tuple #[.int .i64 ((m.th.length : Int) + 1 + 1), .int .i64 ((m.th.length : Int) + 1), .int .i64 0]) (by simp [results, Try.results46, go_sem, *]) rfl ?_
  refine ⟨rfl, _, g1, g2, ?_, new_th _ _ _ _ _ _ _, new_made _ _ _ _ _ _ _ _ hs, HOK2.out, HFR.out⟩
  rfl
end

end Go.Proofs.Ytnddfiohofnbaaa

/- A region that draws its order, by what holds whichever operations have come up: each operation is walked once. -/
namespace Go.Proofs.Ytnddfiohofnbaaa

section
variable {P : Program} {ops : Array Oper} {Q : Exit → Act → World → Prop} {md : Region.Mode}

/-- One more has come up. -/
def upd (f : Nat → Bool) (i : Nat) : Nat → Bool := fun j => j == i || f j

def unl (l : List Bool) : Nat := (l.filter fun b => !b).length

theorem unl_set : ∀ (l : List Bool) (i : Nat), l[i]? = some false → unl (l.set i true) + 1 = unl l
  | [], _, h => by simp at h
  | b :: l, 0, h => by simp at h; subst h; simp [unl]
  | b :: l, i + 1, h => by
    have := unl_set l i (by simpa using h)
    cases b <;> simp [unl] at this ⊢ <;> omega

theorem unl_zero : ∀ (l : List Bool) (i : Nat), unl l = 0 → l[i]? = some false → False
  | [], _, _, h => by simp at h
  | b :: l, 0, hz, h => by simp at h; subst h; simp [unl] at hz
  | b :: l, i + 1, hz, h => by
    refine unl_zero l i ?_ (by simpa using h)
    cases b <;> simp [unl] at hz ⊢
    exact hz

/-- Where each operation waits for earlier ones alone, and nothing may come up, all have. -/
theorem ready_all {listed : Array Bool} (hfw : (List.range ops.size).all (fun i => ((ops[i]?).map fun o => o.after.all fun e => !Region.binds md e || decide (e.on < i)).getD true) = true) (h : Region.ready md ops listed = []) (hs : listed.size = ops.size) :
    ∀ i, i < ops.size → listed.getD i false = true := by
  intro i
  induction i using Nat.strongRecOn with
  | ind i ih =>
    intro hi
    cases hl : listed.getD i false with
    | true => rfl
    | false =>
      exfalso
      have hi2 : i < listed.size := by omega
      have hm : i ∈ Region.ready md ops listed := by
        rw [mem_ready]
        refine ⟨?_, ops[i], Array.getElem?_eq_getElem hi, fun e he hbd => ?_⟩
        · simp only [Array.getD, hi2, dif_pos] at hl ⊢
          exact hl
        · have h1 := List.all_eq_true.1 hfw i (List.mem_range.2 hi)
          rw [Array.getElem?_eq_getElem hi] at h1
          simp only [Option.map_some, Option.getD_some, Array.all_eq_true_iff_forall_mem] at h1
          have h2 : e.on < i := by have := h1 e he; rw [hbd] at this; simpa using this
          exact ih e.on h2 (by omega)
      rw [h] at hm
      cases hm

theorem wpAny_inv (I : (Nat → Bool) → Act → World → Prop) (hfw : (List.range ops.size).all (fun i => ((ops[i]?).map fun o => o.after.all fun e => !Region.binds md e || decide (e.on < i)).getD true) = true)
    (hstep : ∀ (i : Nat) (o : Oper) (f : Nat → Bool) (a : Act) (w : World), ops[i]? = some o → f i = false → (∀ e ∈ o.after, Region.binds md e = true → f e.on = true) → I f a w →
      ∀ K' : Act → World → Prop, Shut (∀ a w, I (upd f i) a w → K' a w) → if Region.wanted o (yielded ops a.tmps) = true then Oper.wp P o a w K' Q else K' (a.put o.dst undef) w)
    (hend : ∀ (f : Nat → Bool) (a : Act) (w : World), (∀ i, i < ops.size → f i = true) → I f a w → Q .normal a w) :
    ∀ (fuel : Nat) (listed : Array Bool) (a : Act) (w : World), listed.size = ops.size → unl listed.toList ≤ fuel → I (fun j => listed.getD j false) a w → wpAny P md ops Q fuel listed a w := by
  have hfin : ∀ (listed : Array Bool) (a : Act) (w : World), listed.size = ops.size → I (fun j => listed.getD j false) a w → Region.ready md ops listed = [] → Q .normal a w := fun listed a w hs hI hr =>
    hend _ a w (ready_all hfw hr hs) hI
  intro fuel
  induction fuel with
  | zero =>
    intro listed a w hs hu hI
    have hr : Region.ready md ops listed = [] := by
      refine List.eq_nil_iff_forall_not_mem.2 fun j hj => ?_
      obtain ⟨h1, o, ho, -⟩ := mem_ready.1 hj
      have hj2 := (Array.getElem?_eq_some_iff.1 ho).1
      refine unl_zero listed.toList j (by omega) ?_
      have hj3 : j < listed.size := by omega
      simp only [Array.getD, hj3, dif_pos] at h1
      rw [Array.getElem?_toList, Array.getElem?_eq_getElem hj3]
      exact congrArg some h1
    exact ⟨hr, hfin listed a w hs hI hr⟩
  | succ fuel ih =>
    intro listed a w hs hu hI
    refine ⟨hfin listed a w hs hI, fun i hi => ?_⟩
    obtain ⟨h1, o, ho, hd⟩ := mem_ready.1 hi
    have hi2 := (Array.getElem?_eq_some_iff.1 ho).1
    have hi3 : i < listed.size := by omega
    have hfalse : listed[i]? = some false := by
      simp only [Array.getD, hi3, dif_pos] at h1
      rw [Array.getElem?_eq_getElem hi3]
      exact congrArg some h1
    have hf : listed.getD i false = false := by
      simp only [Array.getD, hi3, dif_pos] at h1 ⊢
      exact h1
    refine wpOp_step ho fun K' hK => hstep i o _ a w ho hf (fun e he hb => hd e he hb) hI K' fun a' w' hI' => hK a' w' ?_
    refine ih (listed.setIfInBounds i true) a' w' (by simpa using hs) ?_ ?_
    · have := unl_set listed.toList i (by rw [Array.getElem?_toList]; exact hfalse)
      rw [Array.toList_setIfInBounds]
      omega
    · have he : (fun j => (listed.setIfInBounds i true).getD j false) = upd (fun j => listed.getD j false) i := by
        funext j
        simp only [upd, Array.getD_eq_getD_getElem?, Array.getElem?_setIfInBounds]
        by_cases hij : i = j
        · subst hij; simp [hi3]
        · have : ¬ j = i := fun h => hij h.symm
          simp [hij, this]
      rw [he]
      exact hI'

/-- The region. -/
theorem wp_region_inv {id : Nat} {a0 : Act} {w0 : World} (I : Act → (Nat → Bool) → Act → World → Prop) (hm : P.follows .mixedOrders = true) (hfw : (List.range ops.size).all (fun i => ((ops[i]?).map fun o => o.after.all fun e => !Region.binds .any e || decide (e.on < i)).getD true) = true)
    (hst : I a0 (fun _ => false) a0 w0.drew)
    (hstep : ∀ (i : Nat) (o : Oper) (f : Nat → Bool) (a : Act) (w : World), ops[i]? = some o → f i = false → (∀ e ∈ o.after, Region.binds .any e = true → f e.on = true) → I a0 f a w →
      ∀ K' : Act → World → Prop, Shut (∀ a w, I a0 (upd f i) a w → K' a w) → if Region.wanted o (yielded ops a.tmps) = true then Oper.wp P o a w K' Q else K' (a.put o.dst undef) w)
    (hend : ∀ (f : Nat → Bool) (a : Act) (w : World), (∀ i, i < ops.size → f i = true) → I a0 f a w → Q .normal a w) : (Code.region id ops true).wp P Q a0 w0 := by
  refine wp_region_any hm (wpAny_inv (I a0) hfw hstep hend _ _ _ _ (by simp) ?_ ?_)
  · have : ∀ n, unl (List.replicate n false) = n := fun n => by
      induction n with
      | zero => rfl
      | succ n ih => simp only [unl, List.replicate_succ] at ih ⊢; simp
    rw [Array.toList_replicate, this]
    exact Nat.le_refl _
  · have he : (fun j => (Array.replicate ops.size false).getD j false) = fun _ => false := by
      funext j
      simp only [Array.getD_eq_getD_getElem?, Array.getElem?_replicate]
      split <;> rfl
    rw [he]
    exact hst
end

end Go.Proofs.Ytnddfiohofnbaaa

/- A region that draws its order inside the wide fence, by what holds whichever operations have come up; a round among its operations. -/
namespace Go.Proofs.Ytnddfiohofnbaaa
open Go.RowKit

section
variable {P : Program} {ops : Array Oper} {Q : Exit → Act → World → Prop} {n : Nat}

theorem upon_wide {o : Oper} {a : Act} {K : Act → World → Prop} {r : Result Next} (h : o.upon P a K Q r) : o.uponIn Fence.wide n P a K Q r := by
  have hd : ∀ p : Prop, (Fence.wide.depth.isSome = true → p) := fun p h => by simp [Fence.wide] at h
  cases r with
  | ok x w' =>
    cases x with
    | value v => exact h
    | skip => exact h
    | defer d => exact h
    | enter f args => exact ⟨hd _, callsIn_wide.2 h⟩
    | row row args => exact ⟨hd _, fun c cs _ => let ⟨v, w', r, s⟩ := h c cs; ⟨v, w', r, stepsIn_wide.2 s⟩⟩
    | _ => exact h.elim
  | halt x w' =>
    cases x with
    | panic v => exact h
    | _ => exact h.elim

theorem wpIn_of_wp {o : Oper} {a : Act} {w : World} {K : Act → World → Prop} (h : o.wp P a w K Q) : o.wpIn Fence.wide n P a w K Q :=
  ⟨fun _ _ => trivial, upon_wide h⟩

theorem wpAnyIn_inv (I : (Nat → Bool) → Act → World → Prop) (hfw : (List.range ops.size).all (fun i => ((ops[i]?).map fun o => o.after.all fun e => !Region.binds .any e || decide (e.on < i)).getD true) = true)
    (hstep : ∀ (i : Nat) (o : Oper) (f : Nat → Bool) (a : Act) (w : World), ops[i]? = some o → f i = false → (∀ e ∈ o.after, Region.binds .any e = true → f e.on = true) → I f a w →
      ∀ K' : Act → World → Prop, Shut (∀ a w, I (upd f i) a w → K' a w) → if Region.wanted o (yielded ops a.tmps) = true then Oper.wpIn Fence.wide n P o a w K' Q else K' (a.put o.dst undef) w)
    (hend : ∀ (f : Nat → Bool) (a : Act) (w : World), (∀ i, i < ops.size → f i = true) → I f a w → Q .normal a w) :
    ∀ (fuel : Nat) (listed : Array Bool) (a : Act) (w : World), listed.size = ops.size → unl listed.toList ≤ fuel → I (fun j => listed.getD j false) a w → wpAnyIn Fence.wide n P .any ops Q fuel listed a w := by
  have hfin : ∀ (listed : Array Bool) (a : Act) (w : World), listed.size = ops.size → I (fun j => listed.getD j false) a w → Region.ready .any ops listed = [] → Q .normal a w := fun listed a w hs hI hr =>
    hend _ a w (ready_all hfw hr hs) hI
  intro fuel
  induction fuel with
  | zero =>
    intro listed a w hs hu hI
    have hr : Region.ready .any ops listed = [] := by
      refine List.eq_nil_iff_forall_not_mem.2 fun j hj => ?_
      obtain ⟨h1, o, ho, -⟩ := mem_ready.1 hj
      have hj2 := (Array.getElem?_eq_some_iff.1 ho).1
      refine unl_zero listed.toList j (by omega) ?_
      have hj3 : j < listed.size := by omega
      simp only [Array.getD, hj3, dif_pos] at h1
      rw [Array.getElem?_toList, Array.getElem?_eq_getElem hj3]
      exact congrArg some h1
    exact ⟨hr, hfin listed a w hs hI hr⟩
  | succ fuel ih =>
    intro listed a w hs hu hI
    refine ⟨hfin listed a w hs hI, fun i hi => ?_⟩
    obtain ⟨h1, o, ho, hd⟩ := mem_ready.1 hi
    have hi2 := (Array.getElem?_eq_some_iff.1 ho).1
    have hi3 : i < listed.size := by omega
    have hfalse : listed[i]? = some false := by
      simp only [Array.getD, hi3, dif_pos] at h1
      rw [Array.getElem?_eq_getElem hi3]
      exact congrArg some h1
    have hf : listed.getD i false = false := by
      simp only [Array.getD, hi3, dif_pos] at h1 ⊢
      exact h1
    have hnext : ∀ a' w', I (upd (fun j => listed.getD j false) i) a' w' → wpAnyIn Fence.wide n P .any ops Q fuel (listed.setIfInBounds i true) a' w' := fun a' w' hI' => by
      refine ih (listed.setIfInBounds i true) a' w' (by simpa using hs) ?_ ?_
      · have := unl_set listed.toList i (by rw [Array.getElem?_toList]; exact hfalse)
        rw [Array.toList_setIfInBounds]
        omega
      · have he : (fun j => (listed.setIfInBounds i true).getD j false) = upd (fun j => listed.getD j false) i := by
          funext j
          simp only [upd, Array.getD_eq_getD_getElem?, Array.getElem?_setIfInBounds]
          by_cases hij : i = j
          · subst hij; simp [hi3]
          · have : ¬ j = i := fun h => hij h.symm
            simp [hij, this]
        rw [he]
        exact hI'
    have hs' := hstep i o _ a w ho hf (fun e he hb => hd e he hb) hI (wpAnyIn Fence.wide n P .any ops Q fuel (listed.setIfInBounds i true)) hnext
    unfold wpOpIn
    rw [ho]
    show if Region.wanted o (yielded ops a.tmps) = true then _ else _
    split
    · rename_i hw; rw [if_pos hw] at hs'; exact hs'
    · rename_i hw; rw [if_neg hw] at hs'; exact ⟨fun _ _ => trivial, hs'⟩

/-- The region. -/
theorem wpIn_region_inv {id : Nat} {a0 : Act} {w0 : World} (I : Act → (Nat → Bool) → Act → World → Prop) (hm : P.follows .mixedOrders = true) (hfw : (List.range ops.size).all (fun i => ((ops[i]?).map fun o => o.after.all fun e => !Region.binds .any e || decide (e.on < i)).getD true) = true)
    (hst : I a0 (fun _ => false) a0 w0.drew)
    (hstep : ∀ (i : Nat) (o : Oper) (f : Nat → Bool) (a : Act) (w : World), ops[i]? = some o → f i = false → (∀ e ∈ o.after, Region.binds .any e = true → f e.on = true) → I a0 f a w →
      ∀ K' : Act → World → Prop, Shut (∀ a w, I a0 (upd f i) a w → K' a w) → if Region.wanted o (yielded ops a.tmps) = true then Oper.wpIn Fence.wide n P o a w K' Q else K' (a.put o.dst undef) w)
    (hend : ∀ (f : Nat → Bool) (a : Act) (w : World), (∀ i, i < ops.size → f i = true) → I a0 f a w → Q .normal a w) : (Code.region id ops true).wpIn Fence.wide n P Q a0 w0 := by
  refine wpIn_region_any hm (wpAnyIn_inv (I a0) hfw hstep hend _ _ _ _ (by simp) ?_ ?_)
  · have : ∀ n, unl (List.replicate n false) = n := fun n => by
      induction n with
      | zero => rfl
      | succ n ih => simp only [unl, List.replicate_succ] at ih ⊢; simp
    rw [Array.toList_replicate, this]
    exact Nat.le_refl _
  · have he : (fun j => (Array.replicate ops.size false).getD j false) = fun _ => false := by
      funext j
      simp only [Array.getD_eq_getD_getElem?, Array.getElem?_replicate]
      split <;> rfl
    rw [he]
    exact hst
end

end Go.Proofs.Ytnddfiohofnbaaa

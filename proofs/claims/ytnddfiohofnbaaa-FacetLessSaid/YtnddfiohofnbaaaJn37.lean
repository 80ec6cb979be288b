/- Texts joined: Wg2, Wg5. -/
import Derived.Test.YtnddfiohofnbaaaJn7
import Derived.Test.YtnddfiohofnbaaaJn9
import Derived.Test.YtnddfiohofnbaaaJn13
import Derived.Test.YtnddfiohofnbaaaJn36
/- Worlds: form, of things of the kinds 1, 2. -/
namespace Go.Proofs.Ytnddfiohofnbaaa
open Go.RowKit

set_option maxRecDepth 100000 in
set_option maxHeartbeats 8000000 in
theorem form1 {m : Wm} {lo : Nat} {W : World} (h : m.Ok lo W) (home : Nat) (hh : home < m.made.length) :
    Calls Try.prog 65 #[.pointer (some ⟨m.wb, 0, none⟩), .agg (th16 1 (home : Int) 0 0 ⟨#[]⟩ none 0 0 0 0 0 0 0 0 false)] W fun e w' => e = .returned (.bool true) ∧ Fr No W w' := by
  have HBare := hide (bare1 (home : Int))
  have HOf := hide of_none
  have hd : decide (0 ≤ (home : Int) ∧ (home : Int) < (m.made.length : Int)) = true := by simp; omega
  have hsd := fun W' (f : Fr No W W') => side_w (h.no f) (home : Int)
  rw [hd] at hsd
  have HSide := hide hsd
  have hbl := blank_w T.zero
  have hmy := fun W' (_ : Fr No W W') => may_zero W'
  have hz : blankB T.zero.v = true := by rw [T.zero_v]; simp [V.zero, blankB]
  rw [hz, T.zero_val] at hbl
  rw [T.zero_val] at hmy
  clear hz
  have HBl := hide hbl
  have HMay := hide hmy
  have hb0 := Blk.new W 83 (th16 1 (home : Int) 0 0 ⟨#[]⟩ none 0 0 0 0 0 0 0 0 false)
  have HF0 := hide ((Fr.refl No W).alloc (.cells (th16 1 (home : Int) 0 0 ⟨#[]⟩ none 0 0 0 0 0 0 0 0 false) 83))
  unfold th16 at HBare hb0 HF0 ⊢
  obtain ⟨d0, d1, d2, d3, d4, d5, d6, d7, d8, d9, d10, d11, d12, d13, d14, d15⟩ := hb0.cells16
  have dq := hb0.lt
  have HB0 := hide hb0
  clear hb0 h hh hd hsd hbl hmy
  go_enter Try.func65, Try.ntmps65
  go_wp2_with fail
  generalize World.alloc W _ = W0 at *
  refine (HBare.out W0).mono ?_
  rintro e w1 ⟨rfl, f1⟩
  have fa := f1.alloc (.cells (th16 1 (home : Int) 0 0 ⟨#[]⟩ none 0 0 0 0 0 0 0 0 false) 83)
  have bb := Blk.new w1 83 (th16 1 (home : Int) 0 0 ⟨#[]⟩ none 0 0 0 0 0 0 0 0 false)
  unfold th16 at fa bb
  have bx := HB0.out.fr fa fun h => h
  have HF1 := hide (HF0.out.trans fa)
  have HBX := hide bx
  have HBB := hide bb
  clear d0 d1 d2 d3 d4 d5 d6 d7 d8 d9 d10 d11 d12 d13 d14 d15 dq
  obtain ⟨d0, d1, d2, d3, d4, d5, d6, d7, d8, d9, d10, d11, d12, d13, d14, d15⟩ := bx.cells16
  obtain ⟨b0, b1, b2, b3, b4, b5, b6, b7, b8, b9, b10, b11, b12, b13, b14, b15⟩ := bb.cells16
  have dq := bx.lt
  have bq := bb.lt
  generalize hgb : w1.heap.size = gb at *
  clear f1 fa bx bb HB0 HF0 hgb
  go_wp2_with fail
  generalize World.alloc w1 _ = w2 at *
  refine (HBl.out w2).mono ?_
  rintro e w3 ⟨rfl, ff⟩
  have bx := HBX.out.fr ff fun h => h
  have bb := HBB.out.fr ff fun h => h
  replace HBX := hide bx
  replace HBB := hide bb
  replace HF1 := hide (HF1.out.trans ff)
  clear d0 d1 d2 d3 d4 d5 d6 d7 d8 d9 d10 d11 d12 d13 d14 d15 dq b0 b1 b2 b3 b4 b5 b6 b7 b8 b9 b10 b11 b12 b13 b14 b15 bq ff
  obtain ⟨d0, d1, d2, d3, d4, d5, d6, d7, d8, d9, d10, d11, d12, d13, d14, d15⟩ := bx.cells16
  obtain ⟨b0, b1, b2, b3, b4, b5, b6, b7, b8, b9, b10, b11, b12, b13, b14, b15⟩ := bb.cells16
  have dq := bx.lt
  have bq := bb.lt
  clear bx bb
  go_wp2_with fail
  refine (HBl.out w3).mono ?_
  rintro e w4 ⟨rfl, ff⟩
  have bx := HBX.out.fr ff fun h => h
  have bb := HBB.out.fr ff fun h => h
  replace HBX := hide bx
  replace HBB := hide bb
  replace HF1 := hide (HF1.out.trans ff)
  clear d0 d1 d2 d3 d4 d5 d6 d7 d8 d9 d10 d11 d12 d13 d14 d15 dq b0 b1 b2 b3 b4 b5 b6 b7 b8 b9 b10 b11 b12 b13 b14 b15 bq ff
  obtain ⟨d0, d1, d2, d3, d4, d5, d6, d7, d8, d9, d10, d11, d12, d13, d14, d15⟩ := bx.cells16
  obtain ⟨b0, b1, b2, b3, b4, b5, b6, b7, b8, b9, b10, b11, b12, b13, b14, b15⟩ := bb.cells16
  have dq := bx.lt
  have bq := bb.lt
  clear bx bb
  go_wp2_with fail
  refine (HSide.out w4 HF1.out).mono ?_
  rintro e w' ⟨rfl, rfl⟩
  go_wp2_with fail
  refine (HMay.out w' HF1.out).mono ?_
  rintro e w5 ⟨rfl, ff⟩
  have bx := HBX.out.fr ff fun h => h
  have bb := HBB.out.fr ff fun h => h
  replace HBX := hide bx
  replace HBB := hide bb
  replace HF1 := hide (HF1.out.trans ff)
  clear d0 d1 d2 d3 d4 d5 d6 d7 d8 d9 d10 d11 d12 d13 d14 d15 dq b0 b1 b2 b3 b4 b5 b6 b7 b8 b9 b10 b11 b12 b13 b14 b15 bq ff
  obtain ⟨d0, d1, d2, d3, d4, d5, d6, d7, d8, d9, d10, d11, d12, d13, d14, d15⟩ := bx.cells16
  obtain ⟨b0, b1, b2, b3, b4, b5, b6, b7, b8, b9, b10, b11, b12, b13, b14, b15⟩ := bb.cells16
  have dq := bx.lt
  have bq := bb.lt
  clear bx bb
  go_wp2_with fail
  refine (HOf.out w5).mono ?_
  rintro e w6 ⟨⟨⟨k9, n9, s9, A9, cap9, l9, r9⟩, rfl⟩, ff⟩
  rw [T.val_mk]
  replace ff := ff.alloc (.cells #[.int .u8 k9, .int .i64 n9, .string s9, .slice A9 l9.length cap9, .int .i64 r9] 37)
  have bx := HBX.out.fr ff fun h => h
  have bb := HBB.out.fr ff fun h => h
  replace HBX := hide bx
  replace HBB := hide bb
  replace HF1 := hide (HF1.out.trans ff)
  clear d0 d1 d2 d3 d4 d5 d6 d7 d8 d9 d10 d11 d12 d13 d14 d15 dq b0 b1 b2 b3 b4 b5 b6 b7 b8 b9 b10 b11 b12 b13 b14 b15 bq ff
  obtain ⟨d0, d1, d2, d3, d4, d5, d6, d7, d8, d9, d10, d11, d12, d13, d14, d15⟩ := bx.cells16
  obtain ⟨b0, b1, b2, b3, b4, b5, b6, b7, b8, b9, b10, b11, b12, b13, b14, b15⟩ := bb.cells16
  have dq := bx.lt
  have bq := bb.lt
  clear bx bb
  go_wp2_with fail
  refine wp_loop_rounds 1 ?_
  rw [rounds_succ]
  go_wp2_with fail
  go_ret
  exact ⟨rfl, HF1.out⟩


set_option maxRecDepth 100000 in
set_option maxHeartbeats 8000000 in
theorem form2 {m : Wm} {lo : Nat} {W : World} (h : m.Ok lo W) (home : Nat) (hh : home < m.made.length) :
    Calls Try.prog 65 #[.pointer (some ⟨m.wb, 0, none⟩), .agg (th16 2 (home : Int) 0 0 ⟨#[]⟩ none 0 0 0 0 0 0 0 0 false)] W fun e w' => e = .returned (.bool true) ∧ Fr No W w' := by
  have HBare := hide (bare2 (home : Int))
  have HOf := hide of_none
  have hd : decide (0 ≤ (home : Int) ∧ (home : Int) < (m.made.length : Int)) = true := by simp; omega
  have hsd := fun W' (f : Fr No W W') => side_w (h.no f) (home : Int)
  rw [hd] at hsd
  have HSide := hide hsd
  have hbl := blank_w T.zero
  have hmy := fun W' (_ : Fr No W W') => may_zero W'
  have hz : blankB T.zero.v = true := by rw [T.zero_v]; simp [V.zero, blankB]
  rw [hz, T.zero_val] at hbl
  rw [T.zero_val] at hmy
  clear hz
  have HBl := hide hbl
  have HMay := hide hmy
  have hb0 := Blk.new W 83 (th16 2 (home : Int) 0 0 ⟨#[]⟩ none 0 0 0 0 0 0 0 0 false)
  have HF0 := hide ((Fr.refl No W).alloc (.cells (th16 2 (home : Int) 0 0 ⟨#[]⟩ none 0 0 0 0 0 0 0 0 false) 83))
  unfold th16 at HBare hb0 HF0 ⊢
  obtain ⟨d0, d1, d2, d3, d4, d5, d6, d7, d8, d9, d10, d11, d12, d13, d14, d15⟩ := hb0.cells16
  have dq := hb0.lt
  have HB0 := hide hb0
  clear hb0 h hh hd hsd hbl hmy
  go_enter Try.func65, Try.ntmps65
  go_wp2_with fail
  generalize World.alloc W _ = W0 at *
  refine (HBare.out W0).mono ?_
  rintro e w1 ⟨rfl, f1⟩
  have fa := f1.alloc (.cells (th16 2 (home : Int) 0 0 ⟨#[]⟩ none 0 0 0 0 0 0 0 0 false) 83)
  have bb := Blk.new w1 83 (th16 2 (home : Int) 0 0 ⟨#[]⟩ none 0 0 0 0 0 0 0 0 false)
  unfold th16 at fa bb
  have bx := HB0.out.fr fa fun h => h
  have HF1 := hide (HF0.out.trans fa)
  have HBX := hide bx
  have HBB := hide bb
  clear d0 d1 d2 d3 d4 d5 d6 d7 d8 d9 d10 d11 d12 d13 d14 d15 dq
  obtain ⟨d0, d1, d2, d3, d4, d5, d6, d7, d8, d9, d10, d11, d12, d13, d14, d15⟩ := bx.cells16
  obtain ⟨b0, b1, b2, b3, b4, b5, b6, b7, b8, b9, b10, b11, b12, b13, b14, b15⟩ := bb.cells16
  have dq := bx.lt
  have bq := bb.lt
  generalize hgb : w1.heap.size = gb at *
  clear f1 fa bx bb HB0 HF0 hgb
  go_wp2_with fail
  generalize World.alloc w1 _ = w2 at *
  refine (HBl.out w2).mono ?_
  rintro e w3 ⟨rfl, ff⟩
  have bx := HBX.out.fr ff fun h => h
  have bb := HBB.out.fr ff fun h => h
  replace HBX := hide bx
  replace HBB := hide bb
  replace HF1 := hide (HF1.out.trans ff)
  clear d0 d1 d2 d3 d4 d5 d6 d7 d8 d9 d10 d11 d12 d13 d14 d15 dq b0 b1 b2 b3 b4 b5 b6 b7 b8 b9 b10 b11 b12 b13 b14 b15 bq ff
  obtain ⟨d0, d1, d2, d3, d4, d5, d6, d7, d8, d9, d10, d11, d12, d13, d14, d15⟩ := bx.cells16
  obtain ⟨b0, b1, b2, b3, b4, b5, b6, b7, b8, b9, b10, b11, b12, b13, b14, b15⟩ := bb.cells16
  have dq := bx.lt
  have bq := bb.lt
  clear bx bb
  go_wp2_with fail
  refine (HBl.out w3).mono ?_
  rintro e w4 ⟨rfl, ff⟩
  have bx := HBX.out.fr ff fun h => h
  have bb := HBB.out.fr ff fun h => h
  replace HBX := hide bx
  replace HBB := hide bb
  replace HF1 := hide (HF1.out.trans ff)
  clear d0 d1 d2 d3 d4 d5 d6 d7 d8 d9 d10 d11 d12 d13 d14 d15 dq b0 b1 b2 b3 b4 b5 b6 b7 b8 b9 b10 b11 b12 b13 b14 b15 bq ff
  obtain ⟨d0, d1, d2, d3, d4, d5, d6, d7, d8, d9, d10, d11, d12, d13, d14, d15⟩ := bx.cells16
  obtain ⟨b0, b1, b2, b3, b4, b5, b6, b7, b8, b9, b10, b11, b12, b13, b14, b15⟩ := bb.cells16
  have dq := bx.lt
  have bq := bb.lt
  clear bx bb
  go_wp2_with fail
  refine (HSide.out w4 HF1.out).mono ?_
  rintro e w' ⟨rfl, rfl⟩
  go_wp2_with fail
  refine (HMay.out w' HF1.out).mono ?_
  rintro e w5 ⟨rfl, ff⟩
  have bx := HBX.out.fr ff fun h => h
  have bb := HBB.out.fr ff fun h => h
  replace HBX := hide bx
  replace HBB := hide bb
  replace HF1 := hide (HF1.out.trans ff)
  clear d0 d1 d2 d3 d4 d5 d6 d7 d8 d9 d10 d11 d12 d13 d14 d15 dq b0 b1 b2 b3 b4 b5 b6 b7 b8 b9 b10 b11 b12 b13 b14 b15 bq ff
  obtain ⟨d0, d1, d2, d3, d4, d5, d6, d7, d8, d9, d10, d11, d12, d13, d14, d15⟩ := bx.cells16
  obtain ⟨b0, b1, b2, b3, b4, b5, b6, b7, b8, b9, b10, b11, b12, b13, b14, b15⟩ := bb.cells16
  have dq := bx.lt
  have bq := bb.lt
  clear bx bb
  go_wp2_with fail
  refine (HOf.out w5).mono ?_
  rintro e w6 ⟨⟨⟨k9, n9, s9, A9, cap9, l9, r9⟩, rfl⟩, ff⟩
  rw [T.val_mk]
  replace ff := ff.alloc (.cells #[.int .u8 k9, .int .i64 n9, .string s9, .slice A9 l9.length cap9, .int .i64 r9] 37)
  have bx := HBX.out.fr ff fun h => h
  have bb := HBB.out.fr ff fun h => h
  replace HBX := hide bx
  replace HBB := hide bb
  replace HF1 := hide (HF1.out.trans ff)
  clear d0 d1 d2 d3 d4 d5 d6 d7 d8 d9 d10 d11 d12 d13 d14 d15 dq b0 b1 b2 b3 b4 b5 b6 b7 b8 b9 b10 b11 b12 b13 b14 b15 bq ff
  obtain ⟨d0, d1, d2, d3, d4, d5, d6, d7, d8, d9, d10, d11, d12, d13, d14, d15⟩ := bx.cells16
  obtain ⟨b0, b1, b2, b3, b4, b5, b6, b7, b8, b9, b10, b11, b12, b13, b14, b15⟩ := bb.cells16
  have dq := bx.lt
  have bq := bb.lt
  clear bx bb
  go_wp2_with fail
  refine wp_loop_rounds 1 ?_
  rw [rounds_succ]
  go_wp2_with fail
  go_ret
  exact ⟨rfl, HF1.out⟩


end Go.Proofs.Ytnddfiohofnbaaa

/- Worlds: fits, asksOf, asksBy, of a cell, a log, a switch, a gate. -/
namespace Go.Proofs.Ytnddfiohofnbaaa
open Go.RowKit

section
variable {m : Wm} {lo : Nat} {W : World}

set_option maxRecDepth 100000 in
set_option maxHeartbeats 4000000 in
theorem fits1 (home k n : Int) (s : ByteArray) (A : Option Addr) (len cap : Nat) (r n1 lost byr set : Int) (full : Bool) (b : Nat) :
    Calls Try.prog 69 #[.pointer (some ⟨b, 0, none⟩), .int .i64 0, .agg (th16 1 home k n s A len cap r n1 lost 0 byr set full)] W fun e w' => e = .returned (.bool true) ∧ Fr No W w' := by
  unfold th16
  go_enter Try.func69, Try.ntmps69
  go_wp2
  go_ret
  exact ⟨rfl, ((Fr.refl No W).alloc _).alloc _⟩

set_option maxRecDepth 100000 in
set_option maxHeartbeats 4000000 in
theorem fits2 (home k n : Int) (s : ByteArray) (A : Option Addr) (len cap : Nat) (r n1 lost byr set : Int) (full : Bool) (b : Nat) :
    Calls Try.prog 69 #[.pointer (some ⟨b, 0, none⟩), .int .i64 0, .agg (th16 2 home k n s A len cap r n1 lost 0 byr set full)] W fun e w' => e = .returned (.bool true) ∧ Fr No W w' := by
  unfold th16
  go_enter Try.func69, Try.ntmps69
  go_wp2
  go_ret
  exact ⟨rfl, ((Fr.refl No W).alloc _).alloc _⟩

set_option maxRecDepth 100000 in
set_option maxHeartbeats 4000000 in
theorem fits13 (home k n : Int) (s : ByteArray) (A : Option Addr) (len cap : Nat) (r n1 lost byr set : Int) (full : Bool) (b : Nat) :
    Calls Try.prog 69 #[.pointer (some ⟨b, 0, none⟩), .int .i64 0, .agg (th16 13 home k n s A len cap r n1 lost 0 byr set full)] W fun e w' => e = .returned (.bool true) ∧ Fr No W w' := by
  have hb1 := Blk.new' (W.alloc (.cells #[.pointer (some ⟨b, 0, none⟩)] 23)) 83 (th16 13 home k n s A len cap r n1 lost 0 byr set full) (g := W.heap.size + 1) (by simp)
  have hf0 := ((Fr.refl No W).alloc (.cells #[.pointer (some ⟨b, 0, none⟩)] 23)).alloc (.cells (th16 13 home k n s A len cap r n1 lost 0 byr set full) 83)
  have HB1 := hide hb1
  have HF0 := hide hf0
  unfold th16 at hb1 HB1 HF0 ⊢
  obtain ⟨d0, d1, d2, d3, d4, d5, d6, d7, d8, d9, d10, d11, d12, d13, d14, d15⟩ := hb1.cells16
  have dq := hb1.lt
  clear hb1 hf0
  go_enter Try.func69, Try.ntmps69
  go_wp2_with fail
  generalize World.alloc (World.alloc W _) _ = W0 at *
  clear d0 d1 d2 d3 d4 d5 d6 d7 d8 d9 d10 d11 d12 d13 d14 d15 dq
  have d10 : ∀ q : ClN W0, q.w.cell? ⟨W.heap.size + 1, 10, none⟩ = some (.int .i64 0) := fun q => (HB1.out.fr q.fr fun h => h).cell 10
  have dq : ∀ q : ClN W0, W.heap.size + 1 < q.w.heap.size := fun q => (HB1.out.fr q.fr fun h => h).lt
  have hinst : Nonempty (ClN W0) := ⟨⟨W0, Fr.refl No W0⟩⟩
  refine wp_region_quiet_cl (fun W' => ∃ q : ClN W0, W' = q.w) (by kernel_rfl) (by kernel_rfl) ⟨⟨_, (Fr.refl No W0).drew⟩, rfl⟩ ?_
  repeat (go_big_quiet_step (fail))
  refine wpQuiet_nil ?_
  rintro w1 ⟨⟨_, f3⟩, rfl⟩
  clear d10 dq hinst
  go_wp2_with fail
  go_ret
  exact ⟨rfl, HF0.out.trans f3⟩

set_option maxRecDepth 100000 in
set_option maxHeartbeats 4000000 in
/-- A gate: its switch is there, of the same side, of no gate yet; its target is there. -/
theorem fits15 (h : m.Ok lo W) (home k n : Int) (s : ByteArray) (A : Option Addr) (len cap : Nat) (r n1 lost ofr byr set : Int) (full : Bool) {x y : Nat × Th} (hg : m.get byr = some x) (hk : x.2.kind = 13) (hh : x.2.home = home) (ho : x.2.ofr = 0) (hy : m.get ofr = some y) :
    Calls Try.prog 69 #[.pointer (some ⟨m.wb, 0, none⟩), .int .i64 0, .agg (th16 15 home k n s A len cap r n1 lost ofr byr set full)] W fun e w' => e = .returned (.bool true) ∧ Fr No W w' := by
  have hb0 := (Blk.new W 23 #[.pointer (some ⟨m.wb, 0, none⟩)]).alloc (.cells (th16 15 home k n s A len cap r n1 lost ofr byr set full) 83)
  have hb1 := Blk.new' (W.alloc (.cells #[.pointer (some ⟨m.wb, 0, none⟩)] 23)) 83 (th16 15 home k n s A len cap r n1 lost ofr byr set full) (g := W.heap.size + 1) (by simp)
  have hf0 := ((Fr.refl No W).alloc (.cells #[.pointer (some ⟨m.wb, 0, none⟩)] 23)).alloc (.cells (th16 15 home k n s A len cap r n1 lost ofr byr set full) 83)
  have HOK := hide h
  have HI := hide fun W' (f : Fr No W W') => by have := Is_w (h.no f) ofr; rw [hy] at this; exact this
  unfold th16 at hb1 ⊢
  have HB0 := hide hb0
  have HB1 := hide hb1
  have HF0 := hide hf0
  have HG := hide hg
  unfold th16 at HF0 HB0
  obtain ⟨d0, d1, d2, d3, d4, d5, d6, d7, d8, d9, d10, d11, d12, d13, d14, d15⟩ := hb1.cells16
  have dq := hb1.lt
  clear hb0 hb1 hf0 h hg hy
  go_enter Try.func69, Try.ntmps69
  go_wp2_with fail
  generalize World.alloc (World.alloc W _) _ = W0 at *
  have hok0 := HOK.out.no HF0.out
  clear d0 d1 d2 d3 d4 d5 d6 d7 d8 d9 d10 d11 d12 d13 d14 d15 dq
  have d10 : ∀ q : ClN W0, q.w.cell? ⟨W.heap.size + 1, 10, none⟩ = some (.int .i64 ofr) := fun q => (HB1.out.fr q.fr fun h => h).cell 10
  have d11 : ∀ q : ClN W0, q.w.cell? ⟨W.heap.size + 1, 11, none⟩ = some (.int .i64 byr) := fun q => (HB1.out.fr q.fr fun h => h).cell 11
  have dq : ∀ q : ClN W0, W.heap.size + 1 < q.w.heap.size := fun q => (HB1.out.fr q.fr fun h => h).lt
  have e0 : ∀ q : ClN W0, q.w.cell? ⟨W.heap.size, 0, none⟩ = some (.pointer (some ⟨m.wb, 0, none⟩)) := fun q => (HB0.out.fr q.fr fun h => h).cell 0
  have eq_ : ∀ q : ClN W0, W.heap.size < q.w.heap.size := fun q => (HB0.out.fr q.fr fun h => h).lt
  have x2 : ∀ q : ClN W0, q.w.cell? ⟨m.wb, 2, none⟩ = some (.map (some m.M)) := fun q => map_cell (hok0.no q.fr)
  have xq2 : ∀ q : ClN W0, m.wb < q.w.heap.size := fun q => (hok0.no q.fr).blk.lt
  have hl : ∀ q : ClN W0, (Instr.lookup 73 (.map (some m.M)) (.int .i64 byr) false).run Try.prog q.w = .ok (.pointer (some ⟨x.1, 0, none⟩)) q.w := fun q => by
    have := look_thing (hok0.no q.fr) byr
    rw [HG.out] at this
    exact this
  have x10 : ∀ q : ClN W0, q.w.cell? ⟨x.1, 10, none⟩ = some (.int .i64 0) := fun q => by
    have := box_ofr ((hok0.no q.fr).box _ (Wm.get_mem HG.out))
    rwa [ho] at this
  have xq : ∀ q : ClN W0, x.1 < q.w.heap.size := fun q => ((hok0.no q.fr).box _ (Wm.get_mem HG.out)).lt
  have HC' : Hid (∀ q : ClN W0, Calls Try.prog 99 #[.int .i64 byr, .int .u8 13, .pointer (some ⟨W.heap.size, 0, none⟩), .pointer (some ⟨W.heap.size + 1, 0, none⟩)] q.w fun e w'' => e = .returned (.bool true) ∧ ∃ q' : ClN W0, w'' = q'.w) := hide fun q => by
    refine (fits1_yes (hok0.no q.fr) (HB0.out.fr q.fr fun h => h) HG.out hk hh (gx := W.heap.size + 1) ((HB1.out.fr q.fr fun h => h).cell 1) (HB1.out.fr q.fr fun h => h).lt).mono ?_
    rintro e w'' ⟨rfl, f⟩
    exact ⟨rfl, ⟨w'', q.fr.trans f⟩, rfl⟩
  have HI' : Hid (∀ q : ClN W0, Calls Try.prog 27 #[.pointer (some ⟨m.wb, 0, none⟩), .int .i64 ofr] q.w fun e w'' => e = .returned (.bool true) ∧ ∃ q' : ClN W0, w'' = q'.w) := hide fun q => by
    refine (HI.out q.w (HF0.out.trans q.fr)).mono ?_
    rintro e w'' ⟨rfl, rfl⟩
    exact ⟨rfl, q, rfl⟩
  have hinst : Nonempty (ClN W0) := ⟨⟨W0, Fr.refl No W0⟩⟩
  clear hok0 ho hk hh
  refine wp_region_quiet_cl (fun W' => ∃ q : ClN W0, W' = q.w) (by kernel_rfl) (by kernel_rfl) ⟨⟨_, (Fr.refl No W0).drew⟩, rfl⟩ ?_
  repeat (go_big_quiet_step (first | (go_at_call 99; exact HC'.out _) | (go_at_call 27; exact HI'.out _)))
  refine wpQuiet_nil ?_
  rintro w1 ⟨⟨_, f3⟩, rfl⟩
  clear d10 d11 dq e0 eq_ x2 xq2 hl x10 xq hinst
  go_wp2_with fail
  go_ret
  exact ⟨rfl, HF0.out.trans f3⟩
end

theorem asks1 (W : World) : Calls Try.prog 67 #[.int .u8 1] W fun e w' => e = .returned (.bool false) ∧ w' = W := by
  have hw : Calls Try.prog 98 #[.int .u8 1] W fun e w' => e = .returned (.bool false) ∧ w' = W := by
    go_enter Try.func98, Try.ntmps98
    go_wp2
    go_ret
    exact ⟨rfl, rfl⟩
  go_enter Try.func67, Try.ntmps67
  go_wp2_with fail
  refine hw.mono ?_
  rintro e w' ⟨rfl, rfl⟩
  go_wp2
  go_ret
  exact ⟨rfl, rfl⟩

theorem by1 (W : World) : Calls Try.prog 68 #[.int .u8 1] W fun e w' => e = .returned (.bool false) ∧ w' = W := by
  go_enter Try.func68, Try.ntmps68
  go_wp2
  go_ret
  exact ⟨rfl, rfl⟩

theorem asks2 (W : World) : Calls Try.prog 67 #[.int .u8 2] W fun e w' => e = .returned (.bool false) ∧ w' = W := by
  have hw : Calls Try.prog 98 #[.int .u8 2] W fun e w' => e = .returned (.bool false) ∧ w' = W := by
    go_enter Try.func98, Try.ntmps98
    go_wp2
    go_ret
    exact ⟨rfl, rfl⟩
  go_enter Try.func67, Try.ntmps67
  go_wp2_with fail
  refine hw.mono ?_
  rintro e w' ⟨rfl, rfl⟩
  go_wp2
  go_ret
  exact ⟨rfl, rfl⟩

theorem by2 (W : World) : Calls Try.prog 68 #[.int .u8 2] W fun e w' => e = .returned (.bool false) ∧ w' = W := by
  go_enter Try.func68, Try.ntmps68
  go_wp2
  go_ret
  exact ⟨rfl, rfl⟩

theorem asks13 (W : World) : Calls Try.prog 67 #[.int .u8 13] W fun e w' => e = .returned (.bool false) ∧ w' = W := by
  have hw : Calls Try.prog 98 #[.int .u8 13] W fun e w' => e = .returned (.bool false) ∧ w' = W := by
    go_enter Try.func98, Try.ntmps98
    go_wp2
    go_ret
    exact ⟨rfl, rfl⟩
  go_enter Try.func67, Try.ntmps67
  go_wp2_with fail
  refine hw.mono ?_
  rintro e w' ⟨rfl, rfl⟩
  go_wp2
  go_ret
  exact ⟨rfl, rfl⟩

theorem by13 (W : World) : Calls Try.prog 68 #[.int .u8 13] W fun e w' => e = .returned (.bool false) ∧ w' = W := by
  go_enter Try.func68, Try.ntmps68
  go_wp2
  go_ret
  exact ⟨rfl, rfl⟩

theorem asks15 (W : World) : Calls Try.prog 67 #[.int .u8 15] W fun e w' => e = .returned (.bool true) ∧ w' = W := by
  have hw : Calls Try.prog 98 #[.int .u8 15] W fun e w' => e = .returned (.bool true) ∧ w' = W := by
    go_enter Try.func98, Try.ntmps98
    go_wp2
    go_ret
    exact ⟨rfl, rfl⟩
  go_enter Try.func67, Try.ntmps67
  go_wp2_with fail
  refine hw.mono ?_
  rintro e w' ⟨rfl, rfl⟩
  go_wp2
  go_ret
  exact ⟨rfl, rfl⟩

theorem by15 (W : World) : Calls Try.prog 68 #[.int .u8 15] W fun e w' => e = .returned (.bool true) ∧ w' = W := by
  go_enter Try.func68, Try.ntmps68
  go_wp2
  go_ret
  exact ⟨rfl, rfl⟩

end Go.Proofs.Ytnddfiohofnbaaa

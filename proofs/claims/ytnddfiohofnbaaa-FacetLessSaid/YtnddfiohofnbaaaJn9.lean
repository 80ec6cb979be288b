/- Texts joined: Wo4. -/
import Derived.Test.YtnddfiohofnbaaaJn6
import Derived.LoopN
/- Worlds: form, of the things that are made here. -/
namespace Go.Proofs.Ytnddfiohofnbaaa
open Go.RowKit

set_option maxRecDepth 100000 in
set_option maxHeartbeats 8000000 in
theorem form5 {m : Wm} {lo : Nat} {W : World} (h : m.Ok lo W) (home : Nat) (hh : home < m.made.length) :
    Calls Try.prog 65 #[.pointer (some ⟨m.wb, 0, none⟩), .agg (th16 5 (home : Int) 0 0 ⟨#[]⟩ none 0 0 0 0 0 0 0 0 false)] W fun e w' => e = .returned (.bool true) ∧ Fr No W w' := by
  have HBare := hide (bare5 (home : Int))
  have HOf := hide of_none
  have hd : decide (0 ≤ (home : Int) ∧ (home : Int) < (m.made.length : Int)) = true := by simp; omega
  have hsd := fun W' (f : Fr No W W') => side_w (h.no f) (home : Int)
  rw [hd] at hsd
  have HSide := hide hsd
  have hbl := blank_w T.zero
  have hmy := fun W' (_ : Fr No W W') => may_zero W'
  have hz : blankB T.zero.v = true := by rw [T.zero_v]; simp [V.zero, blankB]
  rw [hz, T.zero_val] at hbl
  rw [T.zero_val] at hmy
  clear hz
  have HBl := hide hbl
  have HMay := hide hmy
  have hb0 := Blk.new W 83 (th16 5 (home : Int) 0 0 ⟨#[]⟩ none 0 0 0 0 0 0 0 0 false)
  have HF0 := hide ((Fr.refl No W).alloc (.cells (th16 5 (home : Int) 0 0 ⟨#[]⟩ none 0 0 0 0 0 0 0 0 false) 83))
  unfold th16 at HBare hb0 HF0 ⊢
  obtain ⟨d0, d1, d2, d3, d4, d5, d6, d7, d8, d9, d10, d11, d12, d13, d14, d15⟩ := hb0.cells16
  have dq := hb0.lt
  have HB0 := hide hb0
  clear hb0 h hh hd hsd hbl hmy
  go_enter Try.func65, Try.ntmps65
  go_wp2_with fail
  generalize World.alloc W _ = W0 at *
  refine (HBare.out W0).mono ?_
  rintro e w1 ⟨rfl, f1⟩
  have fa := f1.alloc (.cells (th16 5 (home : Int) 0 0 ⟨#[]⟩ none 0 0 0 0 0 0 0 0 false) 83)
  have bb := Blk.new w1 83 (th16 5 (home : Int) 0 0 ⟨#[]⟩ none 0 0 0 0 0 0 0 0 false)
  unfold th16 at fa bb
  have bx := HB0.out.fr fa fun h => h
  have HF1 := hide (HF0.out.trans fa)
  have HBX := hide bx
  have HBB := hide bb
  clear d0 d1 d2 d3 d4 d5 d6 d7 d8 d9 d10 d11 d12 d13 d14 d15 dq
  obtain ⟨d0, d1, d2, d3, d4, d5, d6, d7, d8, d9, d10, d11, d12, d13, d14, d15⟩ := bx.cells16
  obtain ⟨b0, b1, b2, b3, b4, b5, b6, b7, b8, b9, b10, b11, b12, b13, b14, b15⟩ := bb.cells16
  have dq := bx.lt
  have bq := bb.lt
  generalize hgb : w1.heap.size = gb at *
  clear f1 fa bx bb HB0 HF0 hgb
  go_wp2_with fail
  generalize World.alloc w1 _ = w2 at *
  refine (HBl.out w2).mono ?_
  rintro e w3 ⟨rfl, ff⟩
  have bx := HBX.out.fr ff fun h => h
  have bb := HBB.out.fr ff fun h => h
  replace HBX := hide bx
  replace HBB := hide bb
  replace HF1 := hide (HF1.out.trans ff)
  clear d0 d1 d2 d3 d4 d5 d6 d7 d8 d9 d10 d11 d12 d13 d14 d15 dq b0 b1 b2 b3 b4 b5 b6 b7 b8 b9 b10 b11 b12 b13 b14 b15 bq ff
  obtain ⟨d0, d1, d2, d3, d4, d5, d6, d7, d8, d9, d10, d11, d12, d13, d14, d15⟩ := bx.cells16
  obtain ⟨b0, b1, b2, b3, b4, b5, b6, b7, b8, b9, b10, b11, b12, b13, b14, b15⟩ := bb.cells16
  have dq := bx.lt
  have bq := bb.lt
  clear bx bb
  go_wp2_with fail
  refine (HBl.out w3).mono ?_
  rintro e w4 ⟨rfl, ff⟩
  have bx := HBX.out.fr ff fun h => h
  have bb := HBB.out.fr ff fun h => h
  replace HBX := hide bx
  replace HBB := hide bb
  replace HF1 := hide (HF1.out.trans ff)
  clear d0 d1 d2 d3 d4 d5 d6 d7 d8 d9 d10 d11 d12 d13 d14 d15 dq b0 b1 b2 b3 b4 b5 b6 b7 b8 b9 b10 b11 b12 b13 b14 b15 bq ff
  obtain ⟨d0, d1, d2, d3, d4, d5, d6, d7, d8, d9, d10, d11, d12, d13, d14, d15⟩ := bx.cells16
  obtain ⟨b0, b1, b2, b3, b4, b5, b6, b7, b8, b9, b10, b11, b12, b13, b14, b15⟩ := bb.cells16
  have dq := bx.lt
  have bq := bb.lt
  clear bx bb
  go_wp2_with fail
  refine (HSide.out w4 HF1.out).mono ?_
  rintro e w' ⟨rfl, rfl⟩
  go_wp2_with fail
  refine (HMay.out w' HF1.out).mono ?_
  rintro e w5 ⟨rfl, ff⟩
  have bx := HBX.out.fr ff fun h => h
  have bb := HBB.out.fr ff fun h => h
  replace HBX := hide bx
  replace HBB := hide bb
  replace HF1 := hide (HF1.out.trans ff)
  clear d0 d1 d2 d3 d4 d5 d6 d7 d8 d9 d10 d11 d12 d13 d14 d15 dq b0 b1 b2 b3 b4 b5 b6 b7 b8 b9 b10 b11 b12 b13 b14 b15 bq ff
  obtain ⟨d0, d1, d2, d3, d4, d5, d6, d7, d8, d9, d10, d11, d12, d13, d14, d15⟩ := bx.cells16
  obtain ⟨b0, b1, b2, b3, b4, b5, b6, b7, b8, b9, b10, b11, b12, b13, b14, b15⟩ := bb.cells16
  have dq := bx.lt
  have bq := bb.lt
  clear bx bb
  go_wp2_with fail
  refine (HOf.out w5).mono ?_
  rintro e w6 ⟨⟨⟨k9, n9, s9, A9, cap9, l9, r9⟩, rfl⟩, ff⟩
  rw [T.val_mk]
  replace ff := ff.alloc (.cells #[.int .u8 k9, .int .i64 n9, .string s9, .slice A9 l9.length cap9, .int .i64 r9] 37)
  have bx := HBX.out.fr ff fun h => h
  have bb := HBB.out.fr ff fun h => h
  replace HBX := hide bx
  replace HBB := hide bb
  replace HF1 := hide (HF1.out.trans ff)
  clear d0 d1 d2 d3 d4 d5 d6 d7 d8 d9 d10 d11 d12 d13 d14 d15 dq b0 b1 b2 b3 b4 b5 b6 b7 b8 b9 b10 b11 b12 b13 b14 b15 bq ff
  obtain ⟨d0, d1, d2, d3, d4, d5, d6, d7, d8, d9, d10, d11, d12, d13, d14, d15⟩ := bx.cells16
  obtain ⟨b0, b1, b2, b3, b4, b5, b6, b7, b8, b9, b10, b11, b12, b13, b14, b15⟩ := bb.cells16
  have dq := bx.lt
  have bq := bb.lt
  clear bx bb
  go_wp2_with fail
  refine wp_loop_rounds 1 ?_
  rw [rounds_succ]
  go_wp2_with fail
  go_ret
  exact ⟨rfl, HF1.out⟩

set_option maxRecDepth 100000 in
set_option maxHeartbeats 8000000 in
theorem form6 {m : Wm} {lo : Nat} {W : World} (h : m.Ok lo W) (home : Nat) (ofr : Int) (hh : home < m.made.length) :
    Calls Try.prog 65 #[.pointer (some ⟨m.wb, 0, none⟩), .agg (th16 6 (home : Int) 0 0 ⟨#[]⟩ none 0 0 0 0 0 ofr 0 0 false)] W fun e w' => e = .returned (.bool true) ∧ Fr No W w' := by
  have HBare := hide (bare6 (home : Int) ofr)
  have HOf := hide of_none
  have hd : decide (0 ≤ (home : Int) ∧ (home : Int) < (m.made.length : Int)) = true := by simp; omega
  have hsd := fun W' (f : Fr No W W') => side_w (h.no f) (home : Int)
  rw [hd] at hsd
  have HSide := hide hsd
  have hbl := blank_w T.zero
  have hmy := fun W' (_ : Fr No W W') => may_zero W'
  have hz : blankB T.zero.v = true := by rw [T.zero_v]; simp [V.zero, blankB]
  rw [hz, T.zero_val] at hbl
  rw [T.zero_val] at hmy
  clear hz
  have HBl := hide hbl
  have HMay := hide hmy
  have hb0 := Blk.new W 83 (th16 6 (home : Int) 0 0 ⟨#[]⟩ none 0 0 0 0 0 ofr 0 0 false)
  have HF0 := hide ((Fr.refl No W).alloc (.cells (th16 6 (home : Int) 0 0 ⟨#[]⟩ none 0 0 0 0 0 ofr 0 0 false) 83))
  unfold th16 at HBare hb0 HF0 ⊢
  obtain ⟨d0, d1, d2, d3, d4, d5, d6, d7, d8, d9, d10, d11, d12, d13, d14, d15⟩ := hb0.cells16
  have dq := hb0.lt
  have HB0 := hide hb0
  clear hb0 h hh hd hsd hbl hmy
  go_enter Try.func65, Try.ntmps65
  go_wp2_with fail
  generalize World.alloc W _ = W0 at *
  refine (HBare.out W0).mono ?_
  rintro e w1 ⟨rfl, f1⟩
  have fa := f1.alloc (.cells (th16 6 (home : Int) 0 0 ⟨#[]⟩ none 0 0 0 0 0 ofr 0 0 false) 83)
  have bb := Blk.new w1 83 (th16 6 (home : Int) 0 0 ⟨#[]⟩ none 0 0 0 0 0 ofr 0 0 false)
  unfold th16 at fa bb
  have bx := HB0.out.fr fa fun h => h
  have HF1 := hide (HF0.out.trans fa)
  have HBX := hide bx
  have HBB := hide bb
  clear d0 d1 d2 d3 d4 d5 d6 d7 d8 d9 d10 d11 d12 d13 d14 d15 dq
  obtain ⟨d0, d1, d2, d3, d4, d5, d6, d7, d8, d9, d10, d11, d12, d13, d14, d15⟩ := bx.cells16
  obtain ⟨b0, b1, b2, b3, b4, b5, b6, b7, b8, b9, b10, b11, b12, b13, b14, b15⟩ := bb.cells16
  have dq := bx.lt
  have bq := bb.lt
  generalize hgb : w1.heap.size = gb at *
  clear f1 fa bx bb HB0 HF0 hgb
  go_wp2_with fail
  generalize World.alloc w1 _ = w2 at *
  refine (HBl.out w2).mono ?_
  rintro e w3 ⟨rfl, ff⟩
  have bx := HBX.out.fr ff fun h => h
  have bb := HBB.out.fr ff fun h => h
  replace HBX := hide bx
  replace HBB := hide bb
  replace HF1 := hide (HF1.out.trans ff)
  clear d0 d1 d2 d3 d4 d5 d6 d7 d8 d9 d10 d11 d12 d13 d14 d15 dq b0 b1 b2 b3 b4 b5 b6 b7 b8 b9 b10 b11 b12 b13 b14 b15 bq ff
  obtain ⟨d0, d1, d2, d3, d4, d5, d6, d7, d8, d9, d10, d11, d12, d13, d14, d15⟩ := bx.cells16
  obtain ⟨b0, b1, b2, b3, b4, b5, b6, b7, b8, b9, b10, b11, b12, b13, b14, b15⟩ := bb.cells16
  have dq := bx.lt
  have bq := bb.lt
  clear bx bb
  go_wp2_with fail
  refine (HBl.out w3).mono ?_
  rintro e w4 ⟨rfl, ff⟩
  have bx := HBX.out.fr ff fun h => h
  have bb := HBB.out.fr ff fun h => h
  replace HBX := hide bx
  replace HBB := hide bb
  replace HF1 := hide (HF1.out.trans ff)
  clear d0 d1 d2 d3 d4 d5 d6 d7 d8 d9 d10 d11 d12 d13 d14 d15 dq b0 b1 b2 b3 b4 b5 b6 b7 b8 b9 b10 b11 b12 b13 b14 b15 bq ff
  obtain ⟨d0, d1, d2, d3, d4, d5, d6, d7, d8, d9, d10, d11, d12, d13, d14, d15⟩ := bx.cells16
  obtain ⟨b0, b1, b2, b3, b4, b5, b6, b7, b8, b9, b10, b11, b12, b13, b14, b15⟩ := bb.cells16
  have dq := bx.lt
  have bq := bb.lt
  clear bx bb
  go_wp2_with fail
  refine (HSide.out w4 HF1.out).mono ?_
  rintro e w' ⟨rfl, rfl⟩
  go_wp2_with fail
  refine (HMay.out w' HF1.out).mono ?_
  rintro e w5 ⟨rfl, ff⟩
  have bx := HBX.out.fr ff fun h => h
  have bb := HBB.out.fr ff fun h => h
  replace HBX := hide bx
  replace HBB := hide bb
  replace HF1 := hide (HF1.out.trans ff)
  clear d0 d1 d2 d3 d4 d5 d6 d7 d8 d9 d10 d11 d12 d13 d14 d15 dq b0 b1 b2 b3 b4 b5 b6 b7 b8 b9 b10 b11 b12 b13 b14 b15 bq ff
  obtain ⟨d0, d1, d2, d3, d4, d5, d6, d7, d8, d9, d10, d11, d12, d13, d14, d15⟩ := bx.cells16
  obtain ⟨b0, b1, b2, b3, b4, b5, b6, b7, b8, b9, b10, b11, b12, b13, b14, b15⟩ := bb.cells16
  have dq := bx.lt
  have bq := bb.lt
  clear bx bb
  go_wp2_with fail
  refine (HOf.out w5).mono ?_
  rintro e w6 ⟨⟨⟨k9, n9, s9, A9, cap9, l9, r9⟩, rfl⟩, ff⟩
  rw [T.val_mk]
  replace ff := ff.alloc (.cells #[.int .u8 k9, .int .i64 n9, .string s9, .slice A9 l9.length cap9, .int .i64 r9] 37)
  have bx := HBX.out.fr ff fun h => h
  have bb := HBB.out.fr ff fun h => h
  replace HBX := hide bx
  replace HBB := hide bb
  replace HF1 := hide (HF1.out.trans ff)
  clear d0 d1 d2 d3 d4 d5 d6 d7 d8 d9 d10 d11 d12 d13 d14 d15 dq b0 b1 b2 b3 b4 b5 b6 b7 b8 b9 b10 b11 b12 b13 b14 b15 bq ff
  obtain ⟨d0, d1, d2, d3, d4, d5, d6, d7, d8, d9, d10, d11, d12, d13, d14, d15⟩ := bx.cells16
  obtain ⟨b0, b1, b2, b3, b4, b5, b6, b7, b8, b9, b10, b11, b12, b13, b14, b15⟩ := bb.cells16
  have dq := bx.lt
  have bq := bb.lt
  clear bx bb
  go_wp2_with fail
  refine wp_loop_rounds 1 ?_
  rw [rounds_succ]
  go_wp2_with fail
  go_ret
  exact ⟨rfl, HF1.out⟩

set_option maxRecDepth 100000 in
set_option maxHeartbeats 8000000 in
theorem form7 {m : Wm} {lo : Nat} {W : World} (h : m.Ok lo W) (home : Nat) (k n : Int) (s : ByteArray) (A : Option Addr) (cap : Nat) (l : List T) (r : Int) (ofr : Int) (hi : Nat) (ht : (T.mk k n s A cap l r).In W 0 hi) (hhi : hi ≤ W.heap.size) (hm : (T.mk k n s A cap l r).v.may = true) (hh : home < m.made.length) :
    Calls Try.prog 65 #[.pointer (some ⟨m.wb, 0, none⟩), .agg (th16 7 (home : Int) k n s A l.length cap r 0 0 ofr 0 0 false)] W fun e w' => e = .returned (.bool true) ∧ Fr No W w' := by
  have HBare := hide (bare7 (home : Int) k n s A l.length cap r ofr)
  have HOf := hide of_none
  have hd : decide (0 ≤ (home : Int) ∧ (home : Int) < (m.made.length : Int)) = true := by simp; omega
  have hsd := fun W' (f : Fr No W W') => side_w (h.no f) (home : Int)
  rw [hd] at hsd
  have HSide := hide hsd
  have hbl := blank_w (T.mk k n s A cap l r)
  have hmy := fun W' (f : Fr No W W') => may_any (T.mk k n s A cap l r) W' 0 hi (ht.no f hhi) (Nat.le_trans hhi f.size)
  rw [hm, T.val_mk] at hmy
  rw [T.val_mk] at hbl
  generalize blankB (T.mk k n s A cap l r).v = q at hbl
  clear ht hhi hm
  have HBl := hide hbl
  have HMay := hide hmy
  have hb0 := Blk.new W 83 (th16 7 (home : Int) k n s A l.length cap r 0 0 ofr 0 0 false)
  have HF0 := hide ((Fr.refl No W).alloc (.cells (th16 7 (home : Int) k n s A l.length cap r 0 0 ofr 0 0 false) 83))
  unfold th16 at HBare hb0 HF0 ⊢
  obtain ⟨d0, d1, d2, d3, d4, d5, d6, d7, d8, d9, d10, d11, d12, d13, d14, d15⟩ := hb0.cells16
  have dq := hb0.lt
  have HB0 := hide hb0
  clear hb0 h hh hd hsd hbl hmy
  go_enter Try.func65, Try.ntmps65
  go_wp2_with fail
  generalize World.alloc W _ = W0 at *
  refine (HBare.out W0).mono ?_
  rintro e w1 ⟨rfl, f1⟩
  have fa := f1.alloc (.cells (th16 7 (home : Int) k n s A l.length cap r 0 0 ofr 0 0 false) 83)
  have bb := Blk.new w1 83 (th16 7 (home : Int) k n s A l.length cap r 0 0 ofr 0 0 false)
  unfold th16 at fa bb
  have bx := HB0.out.fr fa fun h => h
  have HF1 := hide (HF0.out.trans fa)
  have HBX := hide bx
  have HBB := hide bb
  clear d0 d1 d2 d3 d4 d5 d6 d7 d8 d9 d10 d11 d12 d13 d14 d15 dq
  obtain ⟨d0, d1, d2, d3, d4, d5, d6, d7, d8, d9, d10, d11, d12, d13, d14, d15⟩ := bx.cells16
  obtain ⟨b0, b1, b2, b3, b4, b5, b6, b7, b8, b9, b10, b11, b12, b13, b14, b15⟩ := bb.cells16
  have dq := bx.lt
  have bq := bb.lt
  generalize hgb : w1.heap.size = gb at *
  clear f1 fa bx bb HB0 HF0 hgb
  go_wp2_with fail
  generalize World.alloc w1 _ = w2 at *
  cases q with
  | true =>
    refine (HBl.out w2).mono ?_
    rintro e w3 ⟨rfl, ff⟩
    have bx := HBX.out.fr ff fun h => h
    have bb := HBB.out.fr ff fun h => h
    replace HBX := hide bx
    replace HBB := hide bb
    replace HF1 := hide (HF1.out.trans ff)
    clear d0 d1 d2 d3 d4 d5 d6 d7 d8 d9 d10 d11 d12 d13 d14 d15 dq b0 b1 b2 b3 b4 b5 b6 b7 b8 b9 b10 b11 b12 b13 b14 b15 bq ff
    obtain ⟨d0, d1, d2, d3, d4, d5, d6, d7, d8, d9, d10, d11, d12, d13, d14, d15⟩ := bx.cells16
    obtain ⟨b0, b1, b2, b3, b4, b5, b6, b7, b8, b9, b10, b11, b12, b13, b14, b15⟩ := bb.cells16
    have dq := bx.lt
    have bq := bb.lt
    clear bx bb
    go_wp2_with fail
    refine (HBl.out w3).mono ?_
    rintro e w4 ⟨rfl, ff⟩
    have bx := HBX.out.fr ff fun h => h
    have bb := HBB.out.fr ff fun h => h
    replace HBX := hide bx
    replace HBB := hide bb
    replace HF1 := hide (HF1.out.trans ff)
    clear d0 d1 d2 d3 d4 d5 d6 d7 d8 d9 d10 d11 d12 d13 d14 d15 dq b0 b1 b2 b3 b4 b5 b6 b7 b8 b9 b10 b11 b12 b13 b14 b15 bq ff
    obtain ⟨d0, d1, d2, d3, d4, d5, d6, d7, d8, d9, d10, d11, d12, d13, d14, d15⟩ := bx.cells16
    obtain ⟨b0, b1, b2, b3, b4, b5, b6, b7, b8, b9, b10, b11, b12, b13, b14, b15⟩ := bb.cells16
    have dq := bx.lt
    have bq := bb.lt
    clear bx bb
    go_wp2_with fail
    refine (HSide.out w4 HF1.out).mono ?_
    rintro e w' ⟨rfl, rfl⟩
    go_wp2_with fail
    refine (HMay.out w' HF1.out).mono ?_
    rintro e w5 ⟨rfl, ff⟩
    have bx := HBX.out.fr ff fun h => h
    have bb := HBB.out.fr ff fun h => h
    replace HBX := hide bx
    replace HBB := hide bb
    replace HF1 := hide (HF1.out.trans ff)
    clear d0 d1 d2 d3 d4 d5 d6 d7 d8 d9 d10 d11 d12 d13 d14 d15 dq b0 b1 b2 b3 b4 b5 b6 b7 b8 b9 b10 b11 b12 b13 b14 b15 bq ff
    obtain ⟨d0, d1, d2, d3, d4, d5, d6, d7, d8, d9, d10, d11, d12, d13, d14, d15⟩ := bx.cells16
    obtain ⟨b0, b1, b2, b3, b4, b5, b6, b7, b8, b9, b10, b11, b12, b13, b14, b15⟩ := bb.cells16
    have dq := bx.lt
    have bq := bb.lt
    clear bx bb
    go_wp2_with fail
    refine (HOf.out w5).mono ?_
    rintro e w6 ⟨⟨⟨k9, n9, s9, A9, cap9, l9, r9⟩, rfl⟩, ff⟩
    rw [T.val_mk]
    replace ff := ff.alloc (.cells #[.int .u8 k9, .int .i64 n9, .string s9, .slice A9 l9.length cap9, .int .i64 r9] 37)
    have bx := HBX.out.fr ff fun h => h
    have bb := HBB.out.fr ff fun h => h
    replace HBX := hide bx
    replace HBB := hide bb
    replace HF1 := hide (HF1.out.trans ff)
    clear d0 d1 d2 d3 d4 d5 d6 d7 d8 d9 d10 d11 d12 d13 d14 d15 dq b0 b1 b2 b3 b4 b5 b6 b7 b8 b9 b10 b11 b12 b13 b14 b15 bq ff
    obtain ⟨d0, d1, d2, d3, d4, d5, d6, d7, d8, d9, d10, d11, d12, d13, d14, d15⟩ := bx.cells16
    obtain ⟨b0, b1, b2, b3, b4, b5, b6, b7, b8, b9, b10, b11, b12, b13, b14, b15⟩ := bb.cells16
    have dq := bx.lt
    have bq := bb.lt
    clear bx bb
    go_wp2_with fail
    refine wp_loop_rounds 1 ?_
    rw [rounds_succ]
    go_wp2_with fail
    go_ret
    exact ⟨rfl, HF1.out⟩
  | false =>
    refine (HBl.out w2).mono ?_
    rintro e w3 ⟨rfl, ff⟩
    have bx := HBX.out.fr ff fun h => h
    have bb := HBB.out.fr ff fun h => h
    replace HBX := hide bx
    replace HBB := hide bb
    replace HF1 := hide (HF1.out.trans ff)
    clear d0 d1 d2 d3 d4 d5 d6 d7 d8 d9 d10 d11 d12 d13 d14 d15 dq b0 b1 b2 b3 b4 b5 b6 b7 b8 b9 b10 b11 b12 b13 b14 b15 bq ff
    obtain ⟨d0, d1, d2, d3, d4, d5, d6, d7, d8, d9, d10, d11, d12, d13, d14, d15⟩ := bx.cells16
    obtain ⟨b0, b1, b2, b3, b4, b5, b6, b7, b8, b9, b10, b11, b12, b13, b14, b15⟩ := bb.cells16
    have dq := bx.lt
    have bq := bb.lt
    clear bx bb
    go_wp2_with fail
    refine (HSide.out w3 HF1.out).mono ?_
    rintro e w' ⟨rfl, rfl⟩
    go_wp2_with fail
    refine (HMay.out w' HF1.out).mono ?_
    rintro e w4 ⟨rfl, ff⟩
    have bx := HBX.out.fr ff fun h => h
    have bb := HBB.out.fr ff fun h => h
    replace HBX := hide bx
    replace HBB := hide bb
    replace HF1 := hide (HF1.out.trans ff)
    clear d0 d1 d2 d3 d4 d5 d6 d7 d8 d9 d10 d11 d12 d13 d14 d15 dq b0 b1 b2 b3 b4 b5 b6 b7 b8 b9 b10 b11 b12 b13 b14 b15 bq ff
    obtain ⟨d0, d1, d2, d3, d4, d5, d6, d7, d8, d9, d10, d11, d12, d13, d14, d15⟩ := bx.cells16
    obtain ⟨b0, b1, b2, b3, b4, b5, b6, b7, b8, b9, b10, b11, b12, b13, b14, b15⟩ := bb.cells16
    have dq := bx.lt
    have bq := bb.lt
    clear bx bb
    go_wp2_with fail
    refine (HOf.out w4).mono ?_
    rintro e w5 ⟨⟨⟨k9, n9, s9, A9, cap9, l9, r9⟩, rfl⟩, ff⟩
    rw [T.val_mk]
    replace ff := ff.alloc (.cells #[.int .u8 k9, .int .i64 n9, .string s9, .slice A9 l9.length cap9, .int .i64 r9] 37)
    have bx := HBX.out.fr ff fun h => h
    have bb := HBB.out.fr ff fun h => h
    replace HBX := hide bx
    replace HBB := hide bb
    replace HF1 := hide (HF1.out.trans ff)
    clear d0 d1 d2 d3 d4 d5 d6 d7 d8 d9 d10 d11 d12 d13 d14 d15 dq b0 b1 b2 b3 b4 b5 b6 b7 b8 b9 b10 b11 b12 b13 b14 b15 bq ff
    obtain ⟨d0, d1, d2, d3, d4, d5, d6, d7, d8, d9, d10, d11, d12, d13, d14, d15⟩ := bx.cells16
    obtain ⟨b0, b1, b2, b3, b4, b5, b6, b7, b8, b9, b10, b11, b12, b13, b14, b15⟩ := bb.cells16
    have dq := bx.lt
    have bq := bb.lt
    clear bx bb
    go_wp2_with fail
    refine wp_loop_rounds 1 ?_
    rw [rounds_succ]
    go_wp2_with fail
    go_ret
    exact ⟨rfl, HF1.out⟩

end Go.Proofs.Ytnddfiohofnbaaa

/- Texts joined: Gq5, Gx, Gc, Gr, Gy, Ge. -/
import Derived.Test.YtlejelbefmkakaaGreatJn1
import Derived.Test.YtlejelbefmkakaaGreatJn2
import Derived.Test.YtlejelbefmkakaaGreatJn8
import Derived.Deep.AppendLies
import Derived.Deep.Upon
import Derived.LoopN
import Derived.Deep.Cut
import Derived.Deep.CutRange
import Derived.Deep.RegionHeld3
namespace Go.Proofs.YtlejelbefmkakaaGreat
open Go.RowKit
section
variable {m : Gm} {lo : Nat} {W : World}
set_option maxRecDepth 100000 in
set_option maxHeartbeats 4000000 in
theorem gfits0 (b : Nat) (home k n : Int) (s : ByteArray) (A : Option Addr) (len cap : Nat) (r0 : Int) (VA : Option Addr) (vl vc : Nat) (n1 lost ofr byr set : Int) (full : Bool) (CA : Option Addr) (cl cc : Nat) (NA : Option Addr) (nl nc : Nat) (r kd : Int) (hk : kd ≠ 6 ∧ kd ≠ 7 ∧ kd ≠ 9 ∧ kd ≠ 11 ∧ kd ≠ 13 ∧ kd ≠ 14 ∧ kd ≠ 15 ∧ kd ≠ 16) :
 Calls Tryz.prog 158 #[.pointer (some ⟨b, 0, none⟩), .int .i64 r, .agg (c16 kd home k n s A len cap r0 VA vl vc n1 lost ofr byr set full CA cl cc NA nl nc)] W fun e w' => e = .returned (.bool true) ∧ Fr No W w' := by
 obtain ⟨h6, h7, h9, h11, h13, h14, h15, h16⟩ := hk
 have e6 : (kd == 6) = false := by simpa using h6
 have e7 : (kd == 7) = false := by simpa using h7
 have e9 : (kd == 9) = false := by simpa using h9
 have e11 : (kd == 11) = false := by simpa using h11
 have e13 : (kd == 13) = false := by simpa using h13
 have e14 : (kd == 14) = false := by simpa using h14
 have e15 : (kd == 15) = false := by simpa using h15
 have e16 : (kd == 16) = false := by simpa using h16
 unfold c16
 clear h6 h7 h9 h11 h13 h14 h15 h16
 go_enter Tryz.func158, Tryz.ntmps158
 go_wp2
 go_ret
 exact ⟨rfl, ((Fr.refl No W).alloc _).alloc _⟩
set_option maxRecDepth 100000 in
set_option maxHeartbeats 4000000 in
theorem gfits7 (h : m.Ok lo W) (home k n : Int) (s : ByteArray) (A : Option Addr) (len cap : Nat) (r0 : Int) (VA : Option Addr) (vl vc : Nat) (n1 lost ofr byr set : Int) (full : Bool) (CA : Option Addr) (cl cc : Nat) (NA : Option Addr) (nl nc : Nat) (r : Int) :
 Calls Tryz.prog 158 #[.pointer (some ⟨m.wb, 0, none⟩), .int .i64 r, .agg (c16 7 home k n s A len cap r0 VA vl vc n1 lost ofr byr set full CA cl cc NA nl nc)] W fun e w' => e = .returned (.bool (m.hkB ofr 5 home)) ∧ Fr No W w' := by
 have hb0 := (Blk.new W 31 #[.pointer (some ⟨m.wb, 0, none⟩)]).alloc (.cells (c16 7 home k n s A len cap r0 VA vl vc n1 lost ofr byr set full CA cl cc NA nl nc) 138)
 have hb1 := Blk.new' (W.alloc (.cells #[.pointer (some ⟨m.wb, 0, none⟩)] 31)) 138 (c16 7 home k n s A len cap r0 VA vl vc n1 lost ofr byr set full CA cl cc NA nl nc) (g := W.heap.size + 1) (by simp)
 have hf0 := ((Fr.refl No W).alloc (.cells #[.pointer (some ⟨m.wb, 0, none⟩)] 31)).alloc (.cells (c16 7 home k n s A len cap r0 VA vl vc n1 lost ofr byr set full CA cl cc NA nl nc) 138)
 obtain ⟨ans, hans⟩ : ∃ q, (m.hkB ofr 5 home) = q := ⟨_, rfl⟩
 rw [hans]
 have HQ := hide hans
 clear hans
 have hc := fits1_g (h.no hf0) hb0 (r := ofr) (k := 5) (by decide) (gx := W.heap.size + 1) (hb1.cell 1) hb1.lt
 unfold c16 at hc
 have HC := hide hc
 clear hc
 unfold c16 at hb0 hb1 hf0 ⊢
 have HB0 := hide hb0
 have HB1 := hide hb1
 have HF0 := hide hf0
 have HOK := hide h
 obtain ⟨d0, d1, d2, d3, d4, d5, d6, d7, d8, d9, d10, d11, d12, d13, d14, d15⟩ := hb1.cells16
 have dq := hb1.lt
 have e0 := hb0.cell 0
 have eq_ := hb0.lt
 simp only [lq1, lq3] at e0
 clear hb0 hb1 hf0 h
 go_enter Tryz.func158, Tryz.ntmps158
 go_wp2_with fail
 generalize World.alloc (World.alloc W _) _ = W0 at *
 refine HC.out.mono ?_
 rintro e w1 ⟨rfl, f1⟩
 clear d0 d1 d2 d3 d4 d5 d6 d7 d8 d9 d10 d11 d12 d13 d14 d15 dq e0 eq_
 go_wp2
 go_ret
 exact ⟨by rw [← HQ.out]; rfl, HF0.out.trans f1⟩
set_option maxRecDepth 100000 in
set_option maxHeartbeats 4000000 in
theorem gfits9 (h : m.Ok lo W) (home k n : Int) (s : ByteArray) (A : Option Addr) (len cap : Nat) (r0 : Int) (VA : Option Addr) (vl vc : Nat) (n1 lost ofr byr set : Int) (full : Bool) (CA : Option Addr) (cl cc : Nat) (NA : Option Addr) (nl nc : Nat) (r : Int) :
 Calls Tryz.prog 158 #[.pointer (some ⟨m.wb, 0, none⟩), .int .i64 r, .agg (c16 9 home k n s A len cap r0 VA vl vc n1 lost ofr byr set full CA cl cc NA nl nc)] W fun e w' => e = .returned (.bool (m.hkB ofr 8 home)) ∧ Fr No W w' := by
 have hb0 := (Blk.new W 31 #[.pointer (some ⟨m.wb, 0, none⟩)]).alloc (.cells (c16 9 home k n s A len cap r0 VA vl vc n1 lost ofr byr set full CA cl cc NA nl nc) 138)
 have hb1 := Blk.new' (W.alloc (.cells #[.pointer (some ⟨m.wb, 0, none⟩)] 31)) 138 (c16 9 home k n s A len cap r0 VA vl vc n1 lost ofr byr set full CA cl cc NA nl nc) (g := W.heap.size + 1) (by simp)
 have hf0 := ((Fr.refl No W).alloc (.cells #[.pointer (some ⟨m.wb, 0, none⟩)] 31)).alloc (.cells (c16 9 home k n s A len cap r0 VA vl vc n1 lost ofr byr set full CA cl cc NA nl nc) 138)
 obtain ⟨ans, hans⟩ : ∃ q, (m.hkB ofr 8 home) = q := ⟨_, rfl⟩
 rw [hans]
 have HQ := hide hans
 clear hans
 have hc := fits1_g (h.no hf0) hb0 (r := ofr) (k := 8) (by decide) (gx := W.heap.size + 1) (hb1.cell 1) hb1.lt
 unfold c16 at hc
 have HC := hide hc
 clear hc
 unfold c16 at hb0 hb1 hf0 ⊢
 have HB0 := hide hb0
 have HB1 := hide hb1
 have HF0 := hide hf0
 have HOK := hide h
 obtain ⟨d0, d1, d2, d3, d4, d5, d6, d7, d8, d9, d10, d11, d12, d13, d14, d15⟩ := hb1.cells16
 have dq := hb1.lt
 have e0 := hb0.cell 0
 have eq_ := hb0.lt
 simp only [lq1, lq3] at e0
 clear hb0 hb1 hf0 h
 go_enter Tryz.func158, Tryz.ntmps158
 go_wp2_with fail
 generalize World.alloc (World.alloc W _) _ = W0 at *
 refine HC.out.mono ?_
 rintro e w1 ⟨rfl, f1⟩
 clear d0 d1 d2 d3 d4 d5 d6 d7 d8 d9 d10 d11 d12 d13 d14 d15 dq e0 eq_
 go_wp2
 go_ret
 exact ⟨by rw [← HQ.out]; rfl, HF0.out.trans f1⟩
set_option maxRecDepth 100000 in
set_option maxHeartbeats 4000000 in
theorem gfits6 (h : m.Ok lo W) (home k n : Int) (s : ByteArray) (A : Option Addr) (len cap : Nat) (r0 : Int) (VA : Option Addr) (vl vc : Nat) (n1 lost ofr byr set : Int) (full : Bool) (CA : Option Addr) (cl cc : Nat) (NA : Option Addr) (nl nc : Nat) (r : Int) :
 Calls Tryz.prog 158 #[.pointer (some ⟨m.wb, 0, none⟩), .int .i64 r, .agg (c16 6 home k n s A len cap r0 VA vl vc n1 lost ofr byr set full CA cl cc NA nl nc)] W fun e w' => e = .returned (.bool (m.hkB ofr 5 home && !m.othB r 6 ofr)) ∧ Fr No W w' := by
 have hb0 := (Blk.new W 31 #[.pointer (some ⟨m.wb, 0, none⟩)]).alloc (.cells (c16 6 home k n s A len cap r0 VA vl vc n1 lost ofr byr set full CA cl cc NA nl nc) 138)
 have hb1 := Blk.new' (W.alloc (.cells #[.pointer (some ⟨m.wb, 0, none⟩)] 31)) 138 (c16 6 home k n s A len cap r0 VA vl vc n1 lost ofr byr set full CA cl cc NA nl nc) (g := W.heap.size + 1) (by simp)
 have hf0 := ((Fr.refl No W).alloc (.cells #[.pointer (some ⟨m.wb, 0, none⟩)] 31)).alloc (.cells (c16 6 home k n s A len cap r0 VA vl vc n1 lost ofr byr set full CA cl cc NA nl nc) 138)
 obtain ⟨ans, hans⟩ : ∃ q, (m.hkB ofr 5 home && !m.othB r 6 ofr) = q := ⟨_, rfl⟩
 rw [hans]
 have HQ := hide hans
 clear hans
 have hc := fits1_g (h.no hf0) hb0 (r := ofr) (k := 5) (by decide) (gx := W.heap.size + 1) (hb1.cell 1) hb1.lt
 have HN := hide fun W' (f : Fr No W W') => otherB_g (h.no f) r 6 ofr
 unfold c16 at hc
 have HC := hide hc
 clear hc
 unfold c16 at hb0 hb1 hf0 ⊢
 have HB0 := hide hb0
 have HB1 := hide hb1
 have HF0 := hide hf0
 have HOK := hide h
 obtain ⟨d0, d1, d2, d3, d4, d5, d6, d7, d8, d9, d10, d11, d12, d13, d14, d15⟩ := hb1.cells16
 have dq := hb1.lt
 have e0 := hb0.cell 0
 have eq_ := hb0.lt
 simp only [lq1, lq3] at e0
 clear hb0 hb1 hf0 h
 go_enter Tryz.func158, Tryz.ntmps158
 go_wp2_with fail
 generalize World.alloc (World.alloc W _) _ = W0 at *
 refine HC.out.mono ?_
 rintro e w1 ⟨rfl, f1⟩
 have hb := HB1.out.fr f1 fun h => h
 have hb2 := HB0.out.fr f1 fun h => h
 clear d0 d1 d2 d3 d4 d5 d6 d7 d8 d9 d10 d11 d12 d13 d14 d15 dq e0 eq_
 obtain ⟨d0, d1, d2, d3, d4, d5, d6, d7, d8, d9, d10, d11, d12, d13, d14, d15⟩ := hb.cells16
 have dq := hb.lt
 have e0 : w1.cell? ⟨W.heap.size, 0, none⟩ = some (.pointer (some ⟨m.wb, 0, none⟩)) := hb2.cell 0
 have eq_ := hb2.lt
 clear hb hb2
 have HF1 := hide (HF0.out.trans f1)
 generalize m.hkB ofr 5 home = q1 at *
 generalize m.othB r 6 ofr = q2 at *
 clear f1
 cases q1
 · go_wp2
   go_ret
   exact ⟨by rw [← HQ.out]; simp, HF1.out⟩
 · go_wp2_with fail
   refine (HN.out w1 HF1.out).mono ?_
   rintro e w2 ⟨rfl, f2⟩
   clear d0 d1 d2 d3 d4 d5 d6 d7 d8 d9 d10 d11 d12 d13 d14 d15 dq e0 eq_
   go_wp2
   go_ret
   exact ⟨by rw [← HQ.out]; simp, HF1.out.trans f2⟩
set_option maxRecDepth 100000 in
set_option maxHeartbeats 4000000 in
theorem gfits11 (h : m.Ok lo W) (home k n : Int) (s : ByteArray) (A : Option Addr) (len cap : Nat) (r0 : Int) (VA : Option Addr) (vl vc : Nat) (n1 lost ofr byr set : Int) (full : Bool) (CA : Option Addr) (cl cc : Nat) (NA : Option Addr) (nl nc : Nat) (r : Int) :
 Calls Tryz.prog 158 #[.pointer (some ⟨m.wb, 0, none⟩), .int .i64 r, .agg (c16 11 home k n s A len cap r0 VA vl vc n1 lost ofr byr set full CA cl cc NA nl nc)] W fun e w' => e = .returned (.bool (m.hkB ofr 10 home && !m.othB r 11 ofr)) ∧ Fr No W w' := by
 have hb0 := (Blk.new W 31 #[.pointer (some ⟨m.wb, 0, none⟩)]).alloc (.cells (c16 11 home k n s A len cap r0 VA vl vc n1 lost ofr byr set full CA cl cc NA nl nc) 138)
 have hb1 := Blk.new' (W.alloc (.cells #[.pointer (some ⟨m.wb, 0, none⟩)] 31)) 138 (c16 11 home k n s A len cap r0 VA vl vc n1 lost ofr byr set full CA cl cc NA nl nc) (g := W.heap.size + 1) (by simp)
 have hf0 := ((Fr.refl No W).alloc (.cells #[.pointer (some ⟨m.wb, 0, none⟩)] 31)).alloc (.cells (c16 11 home k n s A len cap r0 VA vl vc n1 lost ofr byr set full CA cl cc NA nl nc) 138)
 obtain ⟨ans, hans⟩ : ∃ q, (m.hkB ofr 10 home && !m.othB r 11 ofr) = q := ⟨_, rfl⟩
 rw [hans]
 have HQ := hide hans
 clear hans
 have hc := fits1_g (h.no hf0) hb0 (r := ofr) (k := 10) (by decide) (gx := W.heap.size + 1) (hb1.cell 1) hb1.lt
 have HN := hide fun W' (f : Fr No W W') => otherB_g (h.no f) r 11 ofr
 unfold c16 at hc
 have HC := hide hc
 clear hc
 unfold c16 at hb0 hb1 hf0 ⊢
 have HB0 := hide hb0
 have HB1 := hide hb1
 have HF0 := hide hf0
 have HOK := hide h
 obtain ⟨d0, d1, d2, d3, d4, d5, d6, d7, d8, d9, d10, d11, d12, d13, d14, d15⟩ := hb1.cells16
 have dq := hb1.lt
 have e0 := hb0.cell 0
 have eq_ := hb0.lt
 simp only [lq1, lq3] at e0
 clear hb0 hb1 hf0 h
 go_enter Tryz.func158, Tryz.ntmps158
 go_wp2_with fail
 generalize World.alloc (World.alloc W _) _ = W0 at *
 refine HC.out.mono ?_
 rintro e w1 ⟨rfl, f1⟩
 have hb := HB1.out.fr f1 fun h => h
 have hb2 := HB0.out.fr f1 fun h => h
 clear d0 d1 d2 d3 d4 d5 d6 d7 d8 d9 d10 d11 d12 d13 d14 d15 dq e0 eq_
 obtain ⟨d0, d1, d2, d3, d4, d5, d6, d7, d8, d9, d10, d11, d12, d13, d14, d15⟩ := hb.cells16
 have dq := hb.lt
 have e0 : w1.cell? ⟨W.heap.size, 0, none⟩ = some (.pointer (some ⟨m.wb, 0, none⟩)) := hb2.cell 0
 have eq_ := hb2.lt
 clear hb hb2
 have HF1 := hide (HF0.out.trans f1)
 generalize m.hkB ofr 10 home = q1 at *
 generalize m.othB r 11 ofr = q2 at *
 clear f1
 cases q1
 · go_wp2
   go_ret
   exact ⟨by rw [← HQ.out]; simp, HF1.out⟩
 · go_wp2_with fail
   refine (HN.out w1 HF1.out).mono ?_
   rintro e w2 ⟨rfl, f2⟩
   clear d0 d1 d2 d3 d4 d5 d6 d7 d8 d9 d10 d11 d12 d13 d14 d15 dq e0 eq_
   go_wp2
   go_ret
   exact ⟨by rw [← HQ.out]; simp, HF1.out.trans f2⟩
set_option maxRecDepth 100000 in
set_option maxHeartbeats 4000000 in
theorem gfits16 (h : m.Ok lo W) (home k n : Int) (s : ByteArray) (A : Option Addr) (len cap : Nat) (r0 : Int) (VA : Option Addr) (vl vc : Nat) (n1 lost ofr byr set : Int) (full : Bool) (CA : Option Addr) (cl cc : Nat) (NA : Option Addr) (nl nc : Nat) (r : Int) :
 Calls Tryz.prog 158 #[.pointer (some ⟨m.wb, 0, none⟩), .int .i64 r, .agg (c16 16 home k n s A len cap r0 VA vl vc n1 lost ofr byr set full CA cl cc NA nl nc)] W fun e w' => e = .returned (.bool (m.hkB byr 3 home && (m.get ofr).isSome)) ∧ Fr No W w' := by
 have hb0 := (Blk.new W 31 #[.pointer (some ⟨m.wb, 0, none⟩)]).alloc (.cells (c16 16 home k n s A len cap r0 VA vl vc n1 lost ofr byr set full CA cl cc NA nl nc) 138)
 have hb1 := Blk.new' (W.alloc (.cells #[.pointer (some ⟨m.wb, 0, none⟩)] 31)) 138 (c16 16 home k n s A len cap r0 VA vl vc n1 lost ofr byr set full CA cl cc NA nl nc) (g := W.heap.size + 1) (by simp)
 have hf0 := ((Fr.refl No W).alloc (.cells #[.pointer (some ⟨m.wb, 0, none⟩)] 31)).alloc (.cells (c16 16 home k n s A len cap r0 VA vl vc n1 lost ofr byr set full CA cl cc NA nl nc) 138)
 obtain ⟨ans, hans⟩ : ∃ q, (m.hkB byr 3 home && (m.get ofr).isSome) = q := ⟨_, rfl⟩
 rw [hans]
 have HQ := hide hans
 clear hans
 have hc := fits1_g (h.no hf0) hb0 (r := byr) (k := 3) (by decide) (gx := W.heap.size + 1) (hb1.cell 1) hb1.lt
 have HN := hide fun W' (f : Fr No W W') => gIs_w (h.no f) ofr
 unfold c16 at hc
 have HC := hide hc
 clear hc
 unfold c16 at hb0 hb1 hf0 ⊢
 have HB0 := hide hb0
 have HB1 := hide hb1
 have HF0 := hide hf0
 have HOK := hide h
 obtain ⟨d0, d1, d2, d3, d4, d5, d6, d7, d8, d9, d10, d11, d12, d13, d14, d15⟩ := hb1.cells16
 have dq := hb1.lt
 have e0 := hb0.cell 0
 have eq_ := hb0.lt
 simp only [lq1, lq3] at e0
 clear hb0 hb1 hf0 h
 go_enter Tryz.func158, Tryz.ntmps158
 go_wp2_with fail
 generalize World.alloc (World.alloc W _) _ = W0 at *
 refine HC.out.mono ?_
 rintro e w1 ⟨rfl, f1⟩
 have hb := HB1.out.fr f1 fun h => h
 have hb2 := HB0.out.fr f1 fun h => h
 clear d0 d1 d2 d3 d4 d5 d6 d7 d8 d9 d10 d11 d12 d13 d14 d15 dq e0 eq_
 obtain ⟨d0, d1, d2, d3, d4, d5, d6, d7, d8, d9, d10, d11, d12, d13, d14, d15⟩ := hb.cells16
 have dq := hb.lt
 have e0 : w1.cell? ⟨W.heap.size, 0, none⟩ = some (.pointer (some ⟨m.wb, 0, none⟩)) := hb2.cell 0
 have eq_ := hb2.lt
 clear hb hb2
 have HF1 := hide (HF0.out.trans f1)
 generalize m.hkB byr 3 home = q1 at *
 generalize (m.get ofr).isSome = q2 at *
 clear f1
 cases q1
 · go_wp2
   go_ret
   exact ⟨by rw [← HQ.out]; simp, HF1.out⟩
 · go_wp2_with fail
   refine (HN.out w1 HF1.out).mono ?_
   rintro e w2 ⟨rfl, rfl⟩
   clear d0 d1 d2 d3 d4 d5 d6 d7 d8 d9 d10 d11 d12 d13 d14 d15 dq e0 eq_
   go_wp2
   go_ret
   exact ⟨by rw [← HQ.out]; simp, HF1.out⟩
set_option maxRecDepth 100000 in
set_option maxHeartbeats 4000000 in
theorem gfits15 (h : m.Ok lo W) (home k n : Int) (s : ByteArray) (A : Option Addr) (len cap : Nat) (r0 : Int) (VA : Option Addr) (vl vc : Nat) (n1 lost ofr byr set : Int) (full : Bool) (CA : Option Addr) (cl cc : Nat) (NA : Option Addr) (nl nc : Nat) (r : Int) :
 Calls Tryz.prog 158 #[.pointer (some ⟨m.wb, 0, none⟩), .int .i64 r, .agg (c16 15 home k n s A len cap r0 VA vl vc n1 lost ofr byr set full CA cl cc NA nl nc)] W fun e w' => e = .returned (.bool (m.hkB byr 13 home && (m.get ofr).isSome && (match m.get byr with | some y => y.2.ofr == r | none => false))) ∧ Fr No W w' := by
 have hb0 := (Blk.new W 31 #[.pointer (some ⟨m.wb, 0, none⟩)]).alloc (.cells (c16 15 home k n s A len cap r0 VA vl vc n1 lost ofr byr set full CA cl cc NA nl nc) 138)
 have hb1 := Blk.new' (W.alloc (.cells #[.pointer (some ⟨m.wb, 0, none⟩)] 31)) 138 (c16 15 home k n s A len cap r0 VA vl vc n1 lost ofr byr set full CA cl cc NA nl nc) (g := W.heap.size + 1) (by simp)
 have hf0 := ((Fr.refl No W).alloc (.cells #[.pointer (some ⟨m.wb, 0, none⟩)] 31)).alloc (.cells (c16 15 home k n s A len cap r0 VA vl vc n1 lost ofr byr set full CA cl cc NA nl nc) 138)
 obtain ⟨ans, hans⟩ : ∃ q, (m.hkB byr 13 home && (m.get ofr).isSome && (match m.get byr with | some y => y.2.ofr == r | none => false)) = q := ⟨_, rfl⟩
 rw [hans]
 have HQ := hide hans
 clear hans
 unfold c16 at hb0 hb1 hf0 ⊢
 have HB0 := hide hb0
 have HB1 := hide hb1
 have HF0 := hide hf0
 have HOK := hide h
 obtain ⟨d0, d1, d2, d3, d4, d5, d6, d7, d8, d9, d10, d11, d12, d13, d14, d15⟩ := hb1.cells16
 have dq := hb1.lt
 have e0 := hb0.cell 0
 have eq_ := hb0.lt
 simp only [lq1, lq3] at e0
 clear hb0 hb1 hf0 h
 go_enter Tryz.func158, Tryz.ntmps158
 go_wp2_with fail
 generalize World.alloc (World.alloc W _) _ = W0 at *
 have hok0 := HOK.out.no HF0.out
 clear d0 d1 d2 d3 d4 d5 d6 d7 d8 d9 d10 d11 d12 d13 d14 d15 dq e0 eq_
 have d10 : ∀ q : ClN W0, q.w.cell? ⟨W.heap.size + 1, 10, none⟩ = some (.int .i64 ofr) := fun q => (HB1.out.fr q.fr fun h => h).cell 10
 have d11 : ∀ q : ClN W0, q.w.cell? ⟨W.heap.size + 1, 11, none⟩ = some (.int .i64 byr) := fun q => (HB1.out.fr q.fr fun h => h).cell 11
 have d12 : ∀ q : ClN W0, q.w.cell? ⟨W.heap.size + 1, 12, none⟩ = some (.int .u8 set) := fun q => (HB1.out.fr q.fr fun h => h).cell 12
 have dq : ∀ q : ClN W0, W.heap.size + 1 < q.w.heap.size := fun q => (HB1.out.fr q.fr fun h => h).lt
 have e0 : ∀ q : ClN W0, q.w.cell? ⟨W.heap.size, 0, none⟩ = some (.pointer (some ⟨m.wb, 0, none⟩)) := fun q => (HB0.out.fr q.fr fun h => h).cell 0
 have eq_ : ∀ q : ClN W0, W.heap.size < q.w.heap.size := fun q => (HB0.out.fr q.fr fun h => h).lt
 have x2 : ∀ q : ClN W0, q.w.cell? ⟨m.wb, 2, none⟩ = some (.map (some m.M)) := fun q => gmap_cell (hok0.no q.fr)
 have xq2 : ∀ q : ClN W0, m.wb < q.w.heap.size := fun q => (hok0.no q.fr).blk.lt
 have hinst : Nonempty (ClN W0) := ⟨⟨W0, Fr.refl No W0⟩⟩
 have HC : Hid (∀ q : ClN W0, Calls Tryz.prog 214 #[.int .i64 byr, .int .u8 13, .pointer (some ⟨W.heap.size, 0, none⟩), .pointer (some ⟨W.heap.size + 1, 0, none⟩)] q.w fun e w'' => e = .returned (.bool (m.hkB byr 13 home)) ∧ ∃ q' : ClN W0, w'' = q'.w) := hide fun q => by
  refine (fits1_g (hok0.no q.fr) (HB0.out.fr q.fr fun h => h) (by decide) (gx := W.heap.size + 1) ((HB1.out.fr q.fr fun h => h).cell 1) (HB1.out.fr q.fr fun h => h).lt).mono ?_
  rintro e w'' ⟨rfl, f⟩
  exact ⟨rfl, ⟨w'', q.fr.trans f⟩, rfl⟩
 have HI : Hid (∀ q : ClN W0, Calls Tryz.prog 58 #[.pointer (some ⟨m.wb, 0, none⟩), .int .i64 ofr] q.w fun e w'' => e = .returned (.bool (m.get ofr).isSome) ∧ ∃ q' : ClN W0, w'' = q'.w) := hide fun q => by
  refine (gIs_w (hok0.no q.fr) ofr).mono ?_
  rintro e w'' ⟨rfl, rfl⟩
  exact ⟨rfl, q, rfl⟩
 cases hq1 : m.hkB byr 13 home with
 | false =>
  rw [hq1] at HC HQ
  generalize (m.get ofr).isSome = q2 at *
  clear hok0 hq1
  refine wp_region_quiet_cl (fun W' => ∃ q : ClN W0, W' = q.w) (by kernel_rfl) (by kernel_rfl) ⟨⟨_, (Fr.refl No W0).drew⟩, rfl⟩ ?_
  repeat (go_big_quiet_step (first | (go_at_call 214; exact HC.out _) | (go_at_call 58; exact HI.out _)))
  refine wpQuiet_nil ?_
  rintro w1 ⟨⟨_, f3⟩, rfl⟩
  clear d10 d11 d12 dq e0 eq_ x2 xq2 hinst HC HI
  go_wp2_with fail
  go_ret
  exact ⟨by rw [← HQ.out]; simp, HF0.out.trans f3⟩
 | true =>
  obtain ⟨y, hy⟩ : ∃ y, m.get byr = some y := by
   unfold Gm.hkB at hq1
   cases hg : m.get byr with
   | none => rw [hg] at hq1; cases hq1
   | some y => exact ⟨y, rfl⟩
  have hl : ∀ q : ClN W0, (Instr.lookup 34 (.map (some m.M)) (.int .i64 byr) false).run Tryz.prog q.w = .ok (.pointer (some ⟨y.1, 0, none⟩)) q.w := fun q => by
   have := gook_thing (hok0.no q.fr) byr
   rw [hy] at this
   exact this
  have x10 : ∀ q : ClN W0, q.w.cell? ⟨y.1, 10, none⟩ = some (.int .i64 y.2.ofr) := fun q => (gbox_at ((hok0.no q.fr).box _ (Gm.get_mem hy))).2.2.1
  have xq : ∀ q : ClN W0, y.1 < q.w.heap.size := fun q => ((hok0.no q.fr).box _ (Gm.get_mem hy)).lt
  rw [hq1] at HC
  have hq := HQ.out
  rw [hq1, hy] at hq
  simp only at hq
  clear HQ
  have HQ := hide hq
  clear hq
  generalize (m.get ofr).isSome = q2 at *
  generalize y.2.ofr = yo at *
  clear hok0 hq1 hy
  cases q2
  · refine wp_region_quiet_cl (fun W' => ∃ q : ClN W0, W' = q.w) (by kernel_rfl) (by kernel_rfl) ⟨⟨_, (Fr.refl No W0).drew⟩, rfl⟩ ?_
    repeat (go_big_quiet_step (first | (go_at_call 214; exact HC.out _) | (go_at_call 58; exact HI.out _)))
    refine wpQuiet_nil ?_
    rintro w1 ⟨⟨_, f3⟩, rfl⟩
    clear d10 d11 d12 dq e0 eq_ x2 xq2 hinst HC HI hl x10 xq
    go_wp2_with fail
    go_ret
    exact ⟨by rw [← HQ.out]; simp, HF0.out.trans f3⟩
  · refine wp_region_quiet_cl (fun W' => ∃ q : ClN W0, W' = q.w) (by kernel_rfl) (by kernel_rfl) ⟨⟨_, (Fr.refl No W0).drew⟩, rfl⟩ ?_
    repeat (go_big_quiet_step (first | (go_at_call 214; exact HC.out _) | (go_at_call 58; exact HI.out _)))
    refine wpQuiet_nil ?_
    rintro w1 ⟨⟨_, f3⟩, rfl⟩
    clear d10 d11 d12 dq e0 eq_ x2 xq2 hinst HC HI hl x10 xq
    go_wp2_with fail
    go_ret
    exact ⟨by rw [← HQ.out]; simp, HF0.out.trans f3⟩
set_option maxRecDepth 100000 in
set_option maxHeartbeats 4000000 in
theorem gfits13 (h : m.Ok lo W) (home k n : Int) (s : ByteArray) (A : Option Addr) (len cap : Nat) (r0 : Int) (VA : Option Addr) (vl vc : Nat) (n1 lost ofr byr set : Int) (full : Bool) (CA : Option Addr) (cl cc : Nat) (NA : Option Addr) (nl nc : Nat) (r : Int) :
 Calls Tryz.prog 158 #[.pointer (some ⟨m.wb, 0, none⟩), .int .i64 r, .agg (c16 13 home k n s A len cap r0 VA vl vc n1 lost ofr byr set full CA cl cc NA nl nc)] W fun e w' => e = .returned (.bool (ofr == 0 || (m.kind ofr == 15 && (match m.get ofr with | some y => y.2.byr == r | none => false)))) ∧ Fr No W w' := by
 have hb0 := (Blk.new W 31 #[.pointer (some ⟨m.wb, 0, none⟩)]).alloc (.cells (c16 13 home k n s A len cap r0 VA vl vc n1 lost ofr byr set full CA cl cc NA nl nc) 138)
 have hb1 := Blk.new' (W.alloc (.cells #[.pointer (some ⟨m.wb, 0, none⟩)] 31)) 138 (c16 13 home k n s A len cap r0 VA vl vc n1 lost ofr byr set full CA cl cc NA nl nc) (g := W.heap.size + 1) (by simp)
 have hf0 := ((Fr.refl No W).alloc (.cells #[.pointer (some ⟨m.wb, 0, none⟩)] 31)).alloc (.cells (c16 13 home k n s A len cap r0 VA vl vc n1 lost ofr byr set full CA cl cc NA nl nc) 138)
 obtain ⟨ans, hans⟩ : ∃ q, (ofr == 0 || (m.kind ofr == 15 && (match m.get ofr with | some y => y.2.byr == r | none => false))) = q := ⟨_, rfl⟩
 rw [hans]
 have HQ := hide hans
 clear hans
 unfold c16 at hb0 hb1 hf0 ⊢
 have HB0 := hide hb0
 have HB1 := hide hb1
 have HF0 := hide hf0
 have HOK := hide h
 obtain ⟨d0, d1, d2, d3, d4, d5, d6, d7, d8, d9, d10, d11, d12, d13, d14, d15⟩ := hb1.cells16
 have dq := hb1.lt
 have e0 := hb0.cell 0
 have eq_ := hb0.lt
 simp only [lq1, lq3] at e0
 clear hb0 hb1 hf0 h
 go_enter Tryz.func158, Tryz.ntmps158
 go_wp2_with fail
 generalize World.alloc (World.alloc W _) _ = W0 at *
 have hok0 := HOK.out.no HF0.out
 clear d0 d1 d2 d3 d4 d5 d6 d7 d8 d9 d10 d11 d12 d13 d14 d15 dq e0 eq_
 have d10 : ∀ q : ClN W0, q.w.cell? ⟨W.heap.size + 1, 10, none⟩ = some (.int .i64 ofr) := fun q => (HB1.out.fr q.fr fun h => h).cell 10
 have d11 : ∀ q : ClN W0, q.w.cell? ⟨W.heap.size + 1, 11, none⟩ = some (.int .i64 byr) := fun q => (HB1.out.fr q.fr fun h => h).cell 11
 have d12 : ∀ q : ClN W0, q.w.cell? ⟨W.heap.size + 1, 12, none⟩ = some (.int .u8 set) := fun q => (HB1.out.fr q.fr fun h => h).cell 12
 have dq : ∀ q : ClN W0, W.heap.size + 1 < q.w.heap.size := fun q => (HB1.out.fr q.fr fun h => h).lt
 have e0 : ∀ q : ClN W0, q.w.cell? ⟨W.heap.size, 0, none⟩ = some (.pointer (some ⟨m.wb, 0, none⟩)) := fun q => (HB0.out.fr q.fr fun h => h).cell 0
 have eq_ : ∀ q : ClN W0, W.heap.size < q.w.heap.size := fun q => (HB0.out.fr q.fr fun h => h).lt
 have x2 : ∀ q : ClN W0, q.w.cell? ⟨m.wb, 2, none⟩ = some (.map (some m.M)) := fun q => gmap_cell (hok0.no q.fr)
 have xq2 : ∀ q : ClN W0, m.wb < q.w.heap.size := fun q => (hok0.no q.fr).blk.lt
 have hinst : Nonempty (ClN W0) := ⟨⟨W0, Fr.refl No W0⟩⟩
 have HC : Hid (∀ q : ClN W0, Calls Tryz.prog 44 #[.pointer (some ⟨m.wb, 0, none⟩), .int .i64 ofr] q.w fun e w'' => e = .returned (.int .u8 (m.kind ofr)) ∧ ∃ q' : ClN W0, w'' = q'.w) := hide fun q => by
  refine (gKind_w (hok0.no q.fr) ofr).mono ?_
  rintro e w'' ⟨rfl, rfl⟩
  exact ⟨rfl, q, rfl⟩
 cases hq0 : (ofr == 0) with
 | true =>
  rw [hq0] at HQ
  clear hok0
  refine wp_region_quiet_cl (fun W' => ∃ q : ClN W0, W' = q.w) (by kernel_rfl) (by kernel_rfl) ⟨⟨_, (Fr.refl No W0).drew⟩, rfl⟩ ?_
  repeat (go_big_quiet_step ((go_at_call 44; exact HC.out _)))
  refine wpQuiet_nil ?_
  rintro w1 ⟨⟨_, f3⟩, rfl⟩
  clear d10 d11 d12 dq e0 eq_ x2 xq2 hinst HC
  go_wp2_with fail
  go_ret
  exact ⟨by rw [← HQ.out]; simp, HF0.out.trans f3⟩
 | false =>
  cases hq1 : (m.kind ofr == 15) with
  | false =>
   rw [hq0, hq1] at HQ
   clear hok0
   generalize m.kind ofr = kd at *
   refine wp_region_quiet_cl (fun W' => ∃ q : ClN W0, W' = q.w) (by kernel_rfl) (by kernel_rfl) ⟨⟨_, (Fr.refl No W0).drew⟩, rfl⟩ ?_
   repeat (go_big_quiet_step ((go_at_call 44; exact HC.out _)))
   refine wpQuiet_nil ?_
   rintro w1 ⟨⟨_, f3⟩, rfl⟩
   clear d10 d11 d12 dq e0 eq_ x2 xq2 hinst HC
   go_wp2_with fail
   go_ret
   exact ⟨by rw [← HQ.out]; simp, HF0.out.trans f3⟩
  | true =>
   obtain ⟨y, hy⟩ : ∃ y, m.get ofr = some y := by
    cases hg : m.get ofr with
    | none => unfold Gm.kind at hq1; rw [hg] at hq1; simp at hq1
    | some y => exact ⟨y, rfl⟩
   have hl : ∀ q : ClN W0, (Instr.lookup 34 (.map (some m.M)) (.int .i64 ofr) false).run Tryz.prog q.w = .ok (.pointer (some ⟨y.1, 0, none⟩)) q.w := fun q => by
    have := gook_thing (hok0.no q.fr) ofr
    rw [hy] at this
    exact this
   have x10 : ∀ q : ClN W0, q.w.cell? ⟨y.1, 11, none⟩ = some (.int .i64 y.2.byr) := fun q => (gbox_at ((hok0.no q.fr).box _ (Gm.get_mem hy))).2.2.2.1
   have xq : ∀ q : ClN W0, y.1 < q.w.heap.size := fun q => ((hok0.no q.fr).box _ (Gm.get_mem hy)).lt
   have hq := HQ.out
   rw [hq0, hq1, hy] at hq
   simp only at hq
   clear HQ
   have HQ := hide hq
   clear hq
   generalize m.kind ofr = kd at *
   generalize y.2.byr = yo at *
   clear hok0 hy
   refine wp_region_quiet_cl (fun W' => ∃ q : ClN W0, W' = q.w) (by kernel_rfl) (by kernel_rfl) ⟨⟨_, (Fr.refl No W0).drew⟩, rfl⟩ ?_
   repeat (go_big_quiet_step ((go_at_call 44; exact HC.out _)))
   refine wpQuiet_nil ?_
   rintro w1 ⟨⟨_, f3⟩, rfl⟩
   clear d10 d11 d12 dq e0 eq_ x2 xq2 hinst HC hl x10 xq
   go_wp2_with fail
   go_ret
   exact ⟨by rw [← HQ.out]; simp, HF0.out.trans f3⟩
set_option maxRecDepth 100000 in
set_option maxHeartbeats 4000000 in
theorem gfits14 (h : m.Ok lo W) (home k n : Int) (s : ByteArray) (A : Option Addr) (len cap : Nat) (r0 : Int) (VA : Option Addr) (vl vc : Nat) (n1 lost ofr byr set : Int) (full : Bool) (CA : Option Addr) (cl cc : Nat) (NA : Option Addr) (nl nc : Nat) (r : Int) {a : Nat} (ha : m.Abl ofr a) :
 Calls Tryz.prog 158 #[.pointer (some ⟨m.wb, 0, none⟩), .int .i64 r, .agg (c16 14 home k n s A len cap r0 VA vl vc n1 lost ofr byr set full CA cl cc NA nl nc)] W fun e w' => e = .returned (.bool ((m.get ofr).isSome && m.kind ofr != 14 && set != (a : Int) && bits .andNot .u8 set (a : Int) == 0 && (match m.fget ofr set with | some f => f == r | none => true))) ∧ Fr No W w' := by
 have hb0 := (Blk.new W 31 #[.pointer (some ⟨m.wb, 0, none⟩)]).alloc (.cells (c16 14 home k n s A len cap r0 VA vl vc n1 lost ofr byr set full CA cl cc NA nl nc) 138)
 have hb1 := Blk.new' (W.alloc (.cells #[.pointer (some ⟨m.wb, 0, none⟩)] 31)) 138 (c16 14 home k n s A len cap r0 VA vl vc n1 lost ofr byr set full CA cl cc NA nl nc) (g := W.heap.size + 1) (by simp)
 have hf0 := ((Fr.refl No W).alloc (.cells #[.pointer (some ⟨m.wb, 0, none⟩)] 31)).alloc (.cells (c16 14 home k n s A len cap r0 VA vl vc n1 lost ofr byr set full CA cl cc NA nl nc) 138)
 obtain ⟨ans, hans⟩ : ∃ q, ((m.get ofr).isSome && m.kind ofr != 14 && set != (a : Int) && bits .andNot .u8 set (a : Int) == 0 && (match m.fget ofr set with | some f => f == r | none => true)) = q := ⟨_, rfl⟩
 rw [hans]
 have HQ := hide hans
 clear hans
 have HA := hide (Able_w (h.no hf0) ha)
 unfold c16 at HA
 clear ha
 unfold c16 at hb0 hb1 hf0 ⊢
 have HB0 := hide hb0
 have HB1 := hide hb1
 have HF0 := hide hf0
 have HOK := hide h
 obtain ⟨d0, d1, d2, d3, d4, d5, d6, d7, d8, d9, d10, d11, d12, d13, d14, d15⟩ := hb1.cells16
 have dq := hb1.lt
 have e0 := hb0.cell 0
 have eq_ := hb0.lt
 simp only [lq1, lq3] at e0
 clear hb0 hb1 hf0 h
 go_enter Tryz.func158, Tryz.ntmps158
 go_wp2_with fail
 generalize World.alloc (World.alloc W _) _ = W0 at *
 refine HA.out.mono ?_
 rintro e wA ⟨rfl, fA⟩
 have fA' := HF0.out.trans fA
 have hokA := HOK.out.no fA'
 have hbA := HB1.out.fr fA fun h => h
 have hb2A := HB0.out.fr fA fun h => h
 have HIs := hide fun W' (f : Fr No wA W') => gIs_w (hokA.no f) ofr
 have HKd := hide fun W' (f : Fr No wA W') => gKind_w (hokA.no f) ofr
 clear d0 d1 d2 d3 d4 d5 d6 d7 d8 d9 d10 d11 d12 d13 d14 d15 dq e0 eq_
 have d10 : ∀ q : ClN wA, q.w.cell? ⟨W.heap.size + 1, 10, none⟩ = some (.int .i64 ofr) := fun q => (hbA.fr q.fr fun h => h).cell 10
 have d12 : ∀ q : ClN wA, q.w.cell? ⟨W.heap.size + 1, 12, none⟩ = some (.int .u8 set) := fun q => (hbA.fr q.fr fun h => h).cell 12
 have dq : ∀ q : ClN wA, W.heap.size + 1 < q.w.heap.size := fun q => (hbA.fr q.fr fun h => h).lt
 have e0 : ∀ q : ClN wA, q.w.cell? ⟨W.heap.size, 0, none⟩ = some (.pointer (some ⟨m.wb, 0, none⟩)) := fun q => (hb2A.fr q.fr fun h => h).cell 0
 have eq_ : ∀ q : ClN wA, W.heap.size < q.w.heap.size := fun q => (hb2A.fr q.fr fun h => h).lt
 have x3 : ∀ q : ClN wA, q.w.cell? ⟨m.wb, 3, none⟩ = some (.map (some m.F)) := fun q => gfac_cell (hokA.no q.fr)
 have xq3 : ∀ q : ClN wA, m.wb < q.w.heap.size := fun q => (hokA.no q.fr).blk.lt
 have hinst : Nonempty (ClN wA) := ⟨⟨wA, Fr.refl No wA⟩⟩
 have hl : ∀ q : ClN wA, (Instr.lookup 35 (.map (some m.F)) (.agg #[.int .i64 ofr, .int .u8 set]) true).run Tryz.prog q.w = .ok (m.findV ofr set) q.w := fun q => look_fac (hokA.no q.fr) ofr set
 have HBA := hide hbA
 have HB2A := hide hb2A
 have HFA := hide fA'
 clear hokA hbA hb2A fA fA' HA
 unfold Gm.findV at hl
 generalize (m.get ofr).isSome = q1 at *
 generalize m.kind ofr = kd at *
 cases hf : m.fget ofr set with
 | none => 
  rw [hf] at hl HQ
  simp only at hl
  go_wp2_with fail
  refine wp_region_quiet_cl (fun W' => ∃ q : ClN wA, W' = q.w) (by kernel_rfl) (by kernel_rfl) ⟨⟨_, (Fr.refl No wA).drew⟩, rfl⟩ ?_
  repeat (go_big_quiet_step (fail))
  refine wpQuiet_nil ?_
  rintro w1 ⟨⟨_, f3⟩, rfl⟩
  clear d10 d12 dq e0 eq_ x3 xq3 hinst hl
  have hb := HBA.out.fr f3 fun h => h
  have hb2 := HB2A.out.fr f3 fun h => h
  obtain ⟨d0, d1, d2, d3, d4, d5, d6, d7, d8, d9, d10, d11, d12, d13, d14, d15⟩ := hb.cells16
  have dq := hb.lt
  have e0 := hb2.cell 0
  simp only [lq1, lq3] at e0
  have eq_ := hb2.lt
  have HF3 := hide (HFA.out.trans f3)
  have HI3 := hide (HIs.out _ f3)
  have HK3 := hide (HKd.out _ f3)
  clear hb hb2 f3 HIs HKd hf
  go_wp2_with fail
  refine HI3.out.mono ?_
  rintro e w' ⟨rfl, rfl⟩
  cases q1
  · go_wp2_with fail
    go_ret
    exact ⟨by rw [← HQ.out]; simp, HF3.out⟩
  · go_wp2_with fail
    refine HK3.out.mono ?_
    rintro e w' ⟨rfl, rfl⟩
    cases hk14 : (kd != 14)
    · go_wp2_with fail
      go_ret
      exact ⟨by rw [← HQ.out]; simp [*], HF3.out⟩
    · cases hsa : (set != (a : Int))
      · go_wp2_with fail
        go_ret
        exact ⟨by rw [← HQ.out]; simp [*], HF3.out⟩
      · cases han : (bits .andNot .u8 set (a : Int) == 0)
        · go_wp2_with fail
          go_ret
          exact ⟨by rw [← HQ.out]; simp [*], HF3.out⟩
        · go_wp2_with fail
          go_ret
          exact ⟨by rw [← HQ.out]; simp [*], HF3.out⟩
 | some f => 
  rw [hf] at hl HQ
  simp only at hl
  go_wp2_with fail
  refine wp_region_quiet_cl (fun W' => ∃ q : ClN wA, W' = q.w) (by kernel_rfl) (by kernel_rfl) ⟨⟨_, (Fr.refl No wA).drew⟩, rfl⟩ ?_
  repeat (go_big_quiet_step (fail))
  refine wpQuiet_nil ?_
  rintro w1 ⟨⟨_, f3⟩, rfl⟩
  clear d10 d12 dq e0 eq_ x3 xq3 hinst hl
  have hb := HBA.out.fr f3 fun h => h
  have hb2 := HB2A.out.fr f3 fun h => h
  obtain ⟨d0, d1, d2, d3, d4, d5, d6, d7, d8, d9, d10, d11, d12, d13, d14, d15⟩ := hb.cells16
  have dq := hb.lt
  have e0 := hb2.cell 0
  simp only [lq1, lq3] at e0
  have eq_ := hb2.lt
  have HF3 := hide (HFA.out.trans f3)
  have HI3 := hide (HIs.out _ f3)
  have HK3 := hide (HKd.out _ f3)
  clear hb hb2 f3 HIs HKd hf
  go_wp2_with fail
  refine HI3.out.mono ?_
  rintro e w' ⟨rfl, rfl⟩
  cases q1
  · go_wp2_with fail
    go_ret
    exact ⟨by rw [← HQ.out]; simp, HF3.out⟩
  · go_wp2_with fail
    refine HK3.out.mono ?_
    rintro e w' ⟨rfl, rfl⟩
    cases hk14 : (kd != 14)
    · go_wp2_with fail
      go_ret
      exact ⟨by rw [← HQ.out]; simp [*], HF3.out⟩
    · cases hsa : (set != (a : Int))
      · go_wp2_with fail
        go_ret
        exact ⟨by rw [← HQ.out]; simp [*], HF3.out⟩
      · cases han : (bits .andNot .u8 set (a : Int) == 0)
        · go_wp2_with fail
          go_ret
          exact ⟨by rw [← HQ.out]; simp [*], HF3.out⟩
        · go_wp2_with fail
          go_ret
          exact ⟨by rw [← HQ.out]; simp [*], HF3.out⟩
end
end Go.Proofs.YtlejelbefmkakaaGreat

namespace Go.Proofs.YtlejelbefmkakaaGreat
open Go.RowKit
def G.esz : G → Nat
 | .mk _ subs => 1 + (subs.attach.map fun s => (s.1.2.attach.map fun x => G.esz x.1).sum).sum
termination_by g => g
decreasing_by
 have h1 := List.sizeOf_lt_of_mem s.2
 have h2 := List.sizeOf_lt_of_mem x.2
 obtain ⟨⟨A, l⟩, hs⟩ := s
 simp at h1 h2 ⊢
 omega
theorem G.esz_one (c : List Value) (A : Option Addr) (l : List G) : (G.mk c [(A, l)]).esz = 1 + (l.map G.esz).sum := by
 rw [G.esz]
 simp
def kindOf : List Value → Int
 | .int _ k :: _ => k
 | _ => 0
def G.edp : G → Nat
 | .mk c subs => if kindOf c ≠ 3 ∧ subs.all (fun s => s.2.isEmpty) = true then 0 else 1 + top (subs.attach.flatMap fun s => s.1.2.attach.map fun x => G.edp x.1)
termination_by g => g
decreasing_by
 have h1 := List.sizeOf_lt_of_mem s.2
 have h2 := List.sizeOf_lt_of_mem x.2
 obtain ⟨⟨A, l⟩, hs⟩ := s
 simp at h1 h2 ⊢
 omega
theorem G.edp_one (k : Int) (c : List Value) (A : Option Addr) (l : List G) : (G.mk (.int .u8 k :: c) [(A, l)]).edp = if k ≠ 3 ∧ l = [] then 0 else 1 + top (l.map G.edp) := by
 rw [G.edp]
 simp [kindOf]
def G.eok (g : G) (p d : Nat) : Bool := decide (g.esz ≤ p) && decide (g.edp ≤ d)
def G.ssz : G → Nat
 | .mk _ subs => 1 + ((subs.attach.zipIdx).map fun s => if 2 ≤ s.2 ∧ s.2 ≤ 4 then (s.1.1.2.attach.map fun x => G.ssz x.1).sum else 0).sum
termination_by g => g
decreasing_by
 have h1 := List.sizeOf_lt_of_mem s.1.2
 have h2 := List.sizeOf_lt_of_mem x.2
 obtain ⟨⟨⟨A, l⟩, hs⟩, i⟩ := s
 simp at h1 h2 ⊢
 omega
theorem G.ssz_six (c : List Value) (A1 A2 A3 A4 A5 A6 : Option Addr) (l1 l2 l3 l4 l5 l6 : List G) :
 (G.mk c [(A1, l1), (A2, l2), (A3, l3), (A4, l4), (A5, l5), (A6, l6)]).ssz = 1 + ((l3.map G.ssz).sum + ((l4.map G.ssz).sum + (l5.map G.ssz).sum)) := by
 rw [G.ssz]
 simp
def stOk (c : List Value) (subs : List (Option Addr × List G)) : Bool :=
 match c, subs with
 | [_, _, _, _, _, k1, n1, s1, x1, k2, n2, s2, x2, _, _, _, _], [(A1, l1), (A2, l2), _, _, _, (_, l6)] => decide (l6.length ≤ 64) && ((G.mk [k1, n1, s1, x1] [(A1, l1)]).eok 512 16 && (G.mk [k2, n2, s2, x2] [(A2, l2)]).eok 512 16)
 | _, _ => false
def G.sok : G → Bool
 | .mk c subs => stOk c subs && ((subs.attach.zipIdx).all fun s => if 2 ≤ s.2 ∧ s.2 ≤ 4 then s.1.1.2.attach.all (fun x => G.sok x.1) else true)
termination_by g => g
decreasing_by
 have h1 := List.sizeOf_lt_of_mem s.1.2
 have h2 := List.sizeOf_lt_of_mem x.2
 obtain ⟨⟨⟨A, l⟩, hs⟩, i⟩ := s
 simp at h1 h2 ⊢
 omega
theorem G.sok_six (op : Int) (nm sc : ByteArray) (ab wh : Int) (k1 n1 : Int) (s1 : ByteArray) (A1 : Option Addr) (m1 z1 : Nat) (k2 n2 : Int) (s2 : ByteArray) (A2 : Option Addr) (m2 z2 : Nat) (A3 : Option Addr) (m3 z3 : Nat) (A4 : Option Addr) (m4 z4 : Nat) (A5 : Option Addr) (m5 z5 : Nat) (A6 : Option Addr) (m6 z6 : Nat) (l1 l2 l3 l4 l5 l6 : List G) :
 (G.mk (stC op nm sc ab wh k1 n1 s1 A1 m1 z1 k2 n2 s2 A2 m2 z2 A3 m3 z3 A4 m4 z4 A5 m5 z5 A6 m6 z6) [(A1, l1), (A2, l2), (A3, l3), (A4, l4), (A5, l5), (A6, l6)]).sok =
  (decide (l6.length ≤ 64) && ((G.mk [.int .u8 k1, .int .i64 n1, .string s1, .slice A1 m1 z1] [(A1, l1)]).eok 512 16 && (G.mk [.int .u8 k2, .int .i64 n2, .string s2, .slice A2 m2 z2] [(A2, l2)]).eok 512 16) && (l3.all G.sok && (l4.all G.sok && l5.all G.sok))) := by
 rw [G.sok]
 have h : ∀ l : List G, (l.attach.all fun x => G.sok x.1) = l.all G.sok := fun l => by simp
 simp only [stC, stOk, List.attach_cons, List.attach_nil, List.map_cons, List.map_nil, List.zipIdx_cons, List.zipIdx_nil, List.all_cons, List.all_nil, h]
 simp
def esT (l : List G) (j : Nat) : Nat := ((l.map G.esz).take j).sum
def ssT (l : List G) (j : Nat) : Nat := ((l.map G.ssz).take j).sum
theorem esT_succ (l : List G) (j : Nat) (h : j < l.length) : esT l (j + 1) = esT l j + l[j].esz := by
 unfold esT; rw [sum_take_succ _ _ (by simpa using h)]; simp
theorem esT_all (l : List G) : esT l l.length = (l.map G.esz).sum := by
 unfold esT; rw [List.take_of_length_le (by simp)]
theorem esT_le (l : List G) (j : Nat) : esT l j ≤ (l.map G.esz).sum := sum_take_le _ _
theorem ssT_succ (l : List G) (j : Nat) (h : j < l.length) : ssT l (j + 1) = ssT l j + l[j].ssz := by
 unfold ssT; rw [sum_take_succ _ _ (by simpa using h)]; simp
theorem ssT_all (l : List G) : ssT l l.length = (l.map G.ssz).sum := by
 unfold ssT; rw [List.take_of_length_le (by simp)]
theorem ssT_le (l : List G) (j : Nat) : ssT l j ≤ (l.map G.ssz).sum := sum_take_le _ _
def LitP (L p d : Nat) (g : G) (w : World) (e : Ending) (w' : World) : Prop :=
 e = .returned (.bool (g.eok (512 - p) d)) ∧ Fr (· = L) w w' ∧ (g.eok (512 - p) d = true → w'.cell? ⟨L, 0, none⟩ = some (.int .i64 ((p + g.esz : Nat) : Int)) ∧ w'.frozen? ⟨L, 0, none⟩ = false)
end Go.Proofs.YtlejelbefmkakaaGreat

namespace Go.Proofs.YtlejelbefmkakaaGreat
open Go.RowKit
structure Lies (w : World) (lo hi : Nat) (A : Option Addr) (n size : Nat) (xs : List Value) : Prop where
 len : xs.length = n * size
 one : ∀ u ∈ xs, u.oneCell' = true
 at_ : n ≠ 0 → ∃ b o, A = some ⟨b, o, none⟩ ∧ lo ≤ b ∧ b < hi ∧ ∀ j u, xs[j]? = some u → w.cell? ⟨b, o + j, none⟩ = some u
theorem fr_grownG {w w' : World} {row : Option Nat} (h : w.grownBy w' row) : Fr (fun i => some i = row) w w' := (Fr.refl _ w).grown h fun _k hk _ => hk.symm
def CloneP (e : TypeId) (size n : Nat) (xs : List Value) (w : World) (en : Ending) (w' : World) : Prop :=
 ∃ A c, en = .returned (.slice A n c) ∧ w'.ownsRow w.heap.size e size (.slice A n c) n xs ∧ Fr No w w'
theorem run_clone_lies {P : Program} (t e ty : TypeId) (i0 : TypeInfo) (z : Value) (size bytes : Nat) (ht : P.underlying t = some (.slice e)) (hi : P.info? e = some i0) (hz : i0.zero = some z)
 (hsize : i0.size = size) (hby : i0.bytes = bytes) (hzs : z.cells.size = size) (hsz : 0 < size) (w : World) (lo hi' : Nat) (a : Addr) (n cap : Nat) (xs : List Value) (h : Lies w lo hi' (some a) n size xs) (hh : hi' ≤ w.heap.size) (hm : n ≤ maxLen) (hb : n * bytes ≤ 140737488355328) :
 ∃ A c w', (Builtin.append_ #[t, t] ty #[.slice (some ⟨w.heap.size, 0, none⟩) 0 0, .slice (some a) n cap]).run P (w.alloc (.cells #[] e)) = .ok (.slice A n c) w' ∧ w'.ownsRow w.heap.size e size (.slice A n c) n xs ∧ Fr No w w' := by
 have fr := (Fr.refl No w).alloc (.cells #[] e)
 have hown : (w.alloc (.cells #[] e)).ownsRow w.heap.size e size (.slice (some ⟨w.heap.size, 0, none⟩) 0 0) 0 [] :=
  ⟨by simp, .inr ⟨w.heap.size, 0, #[], rfl, Nat.le_refl _, heap_alloc_new w _, Nat.le_refl _, by unfold maxLen; omega, by simp, by simp⟩⟩
 by_cases h0 : n = 0
 · subst h0
   obtain rfl : xs = [] := List.eq_nil_of_length_eq_zero (by have := h.len; simpa using this)
   exact ⟨some ⟨w.heap.size, 0, none⟩, 0, _, run_append_nothing (P := P) _ t t ty e i0 ht hi (some ⟨w.heap.size, 0, none⟩) 0 0 (Nat.le_refl _) _ (Src.ofSlice _ ht a 0 cap [] (by simp) (by simp) (by simp)), hown, fr⟩
 · obtain ⟨b, o, hA, hb0, hb1, hc⟩ := h.at_ h0
   injection hA with hA
   subst hA
   obtain ⟨g, c, w', hrun, hown', hgr, hat, hlt⟩ := run_append_lies (P := P) (w.alloc (.cells #[] e)) t ty w.heap.size e i0 z size bytes ht hi hz hsize hby hzs hsz (.slice (some ⟨w.heap.size, 0, none⟩) 0 0) 0 [] hown ⟨b, o, none⟩ n cap xs h.len (fun j u hu => by
    rw [add_at, fr.cell (b := b) (by omega) (fun h => h)]
    exact hc j u hu) h.one (by omega) (by omega) (by simpa using hb) (by simp) _ rfl
   refine ⟨some ⟨g, 0, none⟩, c, w', by simpa using hrun, by simpa using hown', fr.trans' (fr_grownG hgr) (fun i hi h => by simp [Value.ownBlock] at h; omega)⟩
theorem infoSide : (Tryz.prog.info? 23).map (fun i => (i.zero, i.size, i.bytes)) = some (some (.int .i64 0), 1, 8) := by kernel_rfl
set_option maxRecDepth 100000 in
theorem cloneSide (A : Option Addr) (n cap : Nat) (xs : List Value) (w : World) (lo hi : Nat) (h : Lies w lo hi A n 1 xs) (hh : hi ≤ w.heap.size) (hb : n * 8 ≤ 140737488351232) :
 Calls Tryz.prog 148 #[.slice A n cap] w (CloneP 23 1 n xs w) := by
 have heq := fun (w : World) (A : Option Addr) (n c : Nat) => Lib.run_eql_slice_nil (P := Tryz.prog) w 32 23 A n c 0 0 Tryz.underlying32
 cases A with
 | none =>
  obtain rfl : n = 0 := by
   by_cases hn : n = 0
   · exact hn
   · obtain ⟨b, o, hA, -⟩ := h.at_ hn
     cases hA
  obtain rfl : xs = [] := List.eq_nil_of_length_eq_zero (by have := h.len; simpa using this)
  go_enter Tryz.func148, Tryz.ntmps148
  go_wp2
  go_ret
  exact ⟨none, 0, rfl, World.ownsRow_nil _ _ _ _, Fr.refl _ _⟩
 | some a =>
  obtain ⟨i0, hi0, hz0, hz1, hz2⟩ := info_parts infoSide
  obtain ⟨A, c, w', hrun, ho, hf⟩ := run_clone_lies (P := Tryz.prog) 32 23 32 i0 _ 1 8 Tryz.underlying32 hi0 hz0 hz1 hz2 rfl (by omega) w lo hi a n cap xs h hh (by unfold maxLen; omega) (by omega)
  have HO := hide ho
  have HF := hide hf
  clear ho hf h hi0 hz0 hz1 hz2
  go_enter Tryz.func148, Tryz.ntmps148
  go_wp2_with (at_builtin; (refine wpList_plain rfl fun K hK => ?_); unfold Oper.wp; simp [execOp, resolve, invoke, builtin, hrun, Result.andThen, Act.eval]; refine hK _ _ ?_)
  go_ret
  exact ⟨A, c, rfl, HO.out, HF.out⟩
theorem infoInt : (Tryz.prog.info? 3).map (fun i => (i.zero, i.size, i.bytes)) = some (some (.int .i64 0), 1, 8) := by kernel_rfl
set_option maxRecDepth 100000 in
theorem cloneInt (A : Option Addr) (n cap : Nat) (xs : List Value) (w : World) (lo hi : Nat) (h : Lies w lo hi A n 1 xs) (hh : hi ≤ w.heap.size) (hb : n * 8 ≤ 140737488351232) :
 Calls Tryz.prog 149 #[.slice A n cap] w (CloneP 3 1 n xs w) := by
 have heq := fun (w : World) (A : Option Addr) (n c : Nat) => Lib.run_eql_slice_nil (P := Tryz.prog) w 36 3 A n c 0 0 Tryz.underlying36
 cases A with
 | none =>
  obtain rfl : n = 0 := by
   by_cases hn : n = 0
   · exact hn
   · obtain ⟨b, o, hA, -⟩ := h.at_ hn
     cases hA
  obtain rfl : xs = [] := List.eq_nil_of_length_eq_zero (by have := h.len; simpa using this)
  go_enter Tryz.func149, Tryz.ntmps149
  go_wp2
  go_ret
  exact ⟨none, 0, rfl, World.ownsRow_nil _ _ _ _, Fr.refl _ _⟩
 | some a =>
  obtain ⟨i0, hi0, hz0, hz1, hz2⟩ := info_parts infoInt
  obtain ⟨A, c, w', hrun, ho, hf⟩ := run_clone_lies (P := Tryz.prog) 36 3 36 i0 _ 1 8 Tryz.underlying36 hi0 hz0 hz1 hz2 rfl (by omega) w lo hi a n cap xs h hh (by unfold maxLen; omega) (by omega)
  have HO := hide ho
  have HF := hide hf
  clear ho hf h hi0 hz0 hz1 hz2
  go_enter Tryz.func149, Tryz.ntmps149
  go_wp2_with (at_builtin; (refine wpList_plain rfl fun K hK => ?_); unfold Oper.wp; simp [execOp, resolve, invoke, builtin, hrun, Result.andThen, Act.eval]; refine hK _ _ ?_)
  go_ret
  exact ⟨A, c, rfl, HO.out, HF.out⟩
theorem infoVal : (Tryz.prog.info? 28).map (fun i => (i.zero, i.size, i.bytes)) = some (some (.agg #[.int .u8 0, .int .i64 0, .string ⟨#[]⟩, .slice none 0 0, .int .i64 0]), 5, 64) := by kernel_rfl
set_option maxRecDepth 100000 in
theorem cloneVal (A : Option Addr) (n cap : Nat) (xs : List Value) (w : World) (lo hi : Nat) (h : Lies w lo hi A n 5 xs) (hh : hi ≤ w.heap.size) (hb : n * 64 ≤ 140737488351232) :
 Calls Tryz.prog 200 #[.slice A n cap] w (CloneP 28 5 n xs w) := by
 have heq := fun (w : World) (A : Option Addr) (n c : Nat) => Lib.run_eql_slice_nil (P := Tryz.prog) w 26 28 A n c 0 0 Tryz.underlying26
 cases A with
 | none =>
  obtain rfl : n = 0 := by
   by_cases hn : n = 0
   · exact hn
   · obtain ⟨b, o, hA, -⟩ := h.at_ hn
     cases hA
  obtain rfl : xs = [] := List.eq_nil_of_length_eq_zero (by have := h.len; simpa using this)
  go_enter Tryz.func200, Tryz.ntmps200
  go_wp2
  go_ret
  exact ⟨none, 0, rfl, World.ownsRow_nil _ _ _ _, Fr.refl _ _⟩
 | some a =>
  obtain ⟨i0, hi0, hz0, hz1, hz2⟩ := info_parts infoVal
  obtain ⟨A, c, w', hrun, ho, hf⟩ := run_clone_lies (P := Tryz.prog) 26 28 26 i0 _ 5 64 Tryz.underlying26 hi0 hz0 hz1 hz2 rfl (by omega) w lo hi a n cap xs h hh (by unfold maxLen; omega) (by omega)
  have HO := hide ho
  have HF := hide hf
  clear ho hf h hi0 hz0 hz1 hz2
  go_enter Tryz.func200, Tryz.ntmps200
  go_wp2_with (at_builtin; (refine wpList_plain rfl fun K hK => ?_); unfold Oper.wp; simp [execOp, resolve, invoke, builtin, hrun, Result.andThen, Act.eval]; refine hK _ _ ?_)
  go_ret
  exact ⟨A, c, rfl, HO.out, HF.out⟩
theorem infoNam : (Tryz.prog.info? 260).map (fun i => (i.zero, i.size, i.bytes)) = some (some (.agg #[.string ⟨#[]⟩, .int .u8 0, .int .i64 0, .string ⟨#[]⟩, .slice none 0 0, .int .i64 0]), 6, 80) := by kernel_rfl
set_option maxRecDepth 100000 in
theorem cloneNam (A : Option Addr) (n cap : Nat) (xs : List Value) (w : World) (lo hi : Nat) (h : Lies w lo hi A n 6 xs) (hh : hi ≤ w.heap.size) (hb : n * 80 ≤ 140737488351232) :
 Calls Tryz.prog 201 #[.slice A n cap] w (CloneP 260 6 n xs w) := by
 have heq := fun (w : World) (A : Option Addr) (n c : Nat) => Lib.run_eql_slice_nil (P := Tryz.prog) w 136 260 A n c 0 0 Tryz.underlying136
 cases A with
 | none =>
  obtain rfl : n = 0 := by
   by_cases hn : n = 0
   · exact hn
   · obtain ⟨b, o, hA, -⟩ := h.at_ hn
     cases hA
  obtain rfl : xs = [] := List.eq_nil_of_length_eq_zero (by have := h.len; simpa using this)
  go_enter Tryz.func201, Tryz.ntmps201
  go_wp2
  go_ret
  exact ⟨none, 0, rfl, World.ownsRow_nil _ _ _ _, Fr.refl _ _⟩
 | some a =>
  obtain ⟨i0, hi0, hz0, hz1, hz2⟩ := info_parts infoNam
  obtain ⟨A, c, w', hrun, ho, hf⟩ := run_clone_lies (P := Tryz.prog) 136 260 136 i0 _ 6 80 Tryz.underlying136 hi0 hz0 hz1 hz2 rfl (by omega) w lo hi a n cap xs h hh (by unfold maxLen; omega) (by omega)
  have HO := hide ho
  have HF := hide hf
  clear ho hf h hi0 hz0 hz1 hz2
  go_enter Tryz.func201, Tryz.ntmps201
  go_wp2_with (at_builtin; (refine wpList_plain rfl fun K hK => ?_); unfold Oper.wp; simp [execOp, resolve, invoke, builtin, hrun, Result.andThen, Act.eval]; refine hK _ _ ?_)
  go_ret
  exact ⟨A, c, rfl, HO.out, HF.out⟩
theorem infoExp : (Tryz.prog.info? 308).map (fun i => (i.zero, i.size, i.bytes)) = some (some (.agg #[.int .u8 0, .int .i64 0, .string ⟨#[]⟩, .slice none 0 0]), 4, 56) := by kernel_rfl
set_option maxRecDepth 100000 in
theorem cloneExp (A : Option Addr) (n cap : Nat) (xs : List Value) (w : World) (lo hi : Nat) (h : Lies w lo hi A n 4 xs) (hh : hi ≤ w.heap.size) (hb : n * 56 ≤ 140737488351232) :
 Calls Tryz.prog 273 #[.slice A n cap] w (CloneP 308 4 n xs w) := by
 have heq := fun (w : World) (A : Option Addr) (n c : Nat) => Lib.run_eql_slice_nil (P := Tryz.prog) w 306 308 A n c 0 0 Tryz.underlying306
 cases A with
 | none =>
  obtain rfl : n = 0 := by
   by_cases hn : n = 0
   · exact hn
   · obtain ⟨b, o, hA, -⟩ := h.at_ hn
     cases hA
  obtain rfl : xs = [] := List.eq_nil_of_length_eq_zero (by have := h.len; simpa using this)
  go_enter Tryz.func273, Tryz.ntmps273
  go_wp2
  go_ret
  exact ⟨none, 0, rfl, World.ownsRow_nil _ _ _ _, Fr.refl _ _⟩
 | some a =>
  obtain ⟨i0, hi0, hz0, hz1, hz2⟩ := info_parts infoExp
  obtain ⟨A, c, w', hrun, ho, hf⟩ := run_clone_lies (P := Tryz.prog) 306 308 306 i0 _ 4 56 Tryz.underlying306 hi0 hz0 hz1 hz2 rfl (by omega) w lo hi a n cap xs h hh (by unfold maxLen; omega) (by omega)
  have HO := hide ho
  have HF := hide hf
  clear ho hf h hi0 hz0 hz1 hz2
  go_enter Tryz.func273, Tryz.ntmps273
  go_wp2_with (at_builtin; (refine wpList_plain rfl fun K hK => ?_); unfold Oper.wp; simp [execOp, resolve, invoke, builtin, hrun, Result.andThen, Act.eval]; refine hK _ _ ?_)
  go_ret
  exact ⟨A, c, rfl, HO.out, HF.out⟩
theorem infoStr : (Tryz.prog.info? 9).map (fun i => (i.zero, i.size, i.bytes)) = some (some (.string ⟨#[]⟩), 1, 16) := by kernel_rfl
set_option maxRecDepth 100000 in
theorem cloneStr (A : Option Addr) (n cap : Nat) (xs : List Value) (w : World) (lo hi : Nat) (h : Lies w lo hi A n 1 xs) (hh : hi ≤ w.heap.size) (hb : n * 16 ≤ 140737488351232) :
 Calls Tryz.prog 253 #[.slice A n cap] w (CloneP 9 1 n xs w) := by
 have heq := fun (w : World) (A : Option Addr) (n c : Nat) => Lib.run_eql_slice_nil (P := Tryz.prog) w 309 9 A n c 0 0 Tryz.underlying309
 cases A with
 | none =>
  obtain rfl : n = 0 := by
   by_cases hn : n = 0
   · exact hn
   · obtain ⟨b, o, hA, -⟩ := h.at_ hn
     cases hA
  obtain rfl : xs = [] := List.eq_nil_of_length_eq_zero (by have := h.len; simpa using this)
  go_enter Tryz.func253, Tryz.ntmps253
  go_wp2
  go_ret
  exact ⟨none, 0, rfl, World.ownsRow_nil _ _ _ _, Fr.refl _ _⟩
 | some a =>
  obtain ⟨i0, hi0, hz0, hz1, hz2⟩ := info_parts infoStr
  obtain ⟨A, c, w', hrun, ho, hf⟩ := run_clone_lies (P := Tryz.prog) 309 9 309 i0 _ 1 16 Tryz.underlying309 hi0 hz0 hz1 hz2 rfl (by omega) w lo hi a n cap xs h hh (by unfold maxLen; omega) (by omega)
  have HO := hide ho
  have HF := hide hf
  clear ho hf h hi0 hz0 hz1 hz2
  go_enter Tryz.func253, Tryz.ntmps253
  go_wp2_with (at_builtin; (refine wpList_plain rfl fun K hK => ?_); unfold Oper.wp; simp [execOp, resolve, invoke, builtin, hrun, Result.andThen, Act.eval]; refine hK _ _ ?_)
  go_ret
  exact ⟨A, c, rfl, HO.out, HF.out⟩
theorem infoStm : (Tryz.prog.info? 311).map (fun i => (i.zero, i.size, i.bytes)) = some (some (.agg #[.int .u8 0, .string ⟨#[]⟩, .string ⟨#[]⟩, .int .u8 0, .int .u8 0, .int .u8 0, .int .i64 0, .string ⟨#[]⟩, .slice none 0 0, .int .u8 0, .int .i64 0, .string ⟨#[]⟩, .slice none 0 0, .slice none 0 0, .slice none 0 0, .slice none 0 0, .slice none 0 0]), 17, 256) := by kernel_rfl
set_option maxRecDepth 100000 in
theorem cloneStm (A : Option Addr) (n cap : Nat) (xs : List Value) (w : World) (lo hi : Nat) (h : Lies w lo hi A n 17 xs) (hh : hi ≤ w.heap.size) (hb : n * 256 ≤ 140737488351232) :
 Calls Tryz.prog 251 #[.slice A n cap] w (CloneP 311 17 n xs w) := by
 have heq := fun (w : World) (A : Option Addr) (n c : Nat) => Lib.run_eql_slice_nil (P := Tryz.prog) w 135 311 A n c 0 0 Tryz.underlying135
 cases A with
 | none =>
  obtain rfl : n = 0 := by
   by_cases hn : n = 0
   · exact hn
   · obtain ⟨b, o, hA, -⟩ := h.at_ hn
     cases hA
  obtain rfl : xs = [] := List.eq_nil_of_length_eq_zero (by have := h.len; simpa using this)
  go_enter Tryz.func251, Tryz.ntmps251
  go_wp2
  go_ret
  exact ⟨none, 0, rfl, World.ownsRow_nil _ _ _ _, Fr.refl _ _⟩
 | some a =>
  obtain ⟨i0, hi0, hz0, hz1, hz2⟩ := info_parts infoStm
  obtain ⟨A, c, w', hrun, ho, hf⟩ := run_clone_lies (P := Tryz.prog) 135 311 135 i0 _ 17 256 Tryz.underlying135 hi0 hz0 hz1 hz2 rfl (by omega) w lo hi a n cap xs h hh (by unfold maxLen; omega) (by omega)
  have HO := hide ho
  have HF := hide hf
  clear ho hf h hi0 hz0 hz1 hz2
  go_enter Tryz.func251, Tryz.ntmps251
  go_wp2_with (at_builtin; (refine wpList_plain rfl fun K hK => ?_); unfold Oper.wp; simp [execOp, resolve, invoke, builtin, hrun, Result.andThen, Act.eval]; refine hK _ _ ?_)
  go_ret
  exact ⟨A, c, rfl, HO.out, HF.out⟩
end Go.Proofs.YtlejelbefmkakaaGreat

namespace Go.Proofs.YtlejelbefmkakaaGreat
open Go.RowKit
def setRow (w : World) (g : Nat) : Nat → List Value → World
 | _, [] => w
 | o, u :: us => setRow (w.setCell ⟨g, o, none⟩ u) g (o + 1) us
theorem setRow_fr {S : Nat → Prop} {a : World} {g : Nat} (hg : g < a.heap.size → S g) : ∀ (us : List Value) (o : Nat) (w : World), Fr S a w → Fr S a (setRow w g o us)
 | [], _, _, h => h
 | u :: us, o, _w, h => setRow_fr hg us (o + 1) _ (h.set hg u)
theorem setRow_size (g : Nat) : ∀ (us : List Value) (o : Nat) (w : World), (setRow w g o us).heap.size = w.heap.size
 | [], _, _ => rfl
 | u :: us, o, w => (setRow_size g us (o + 1) _).trans (by simp [World.setCell])
theorem chunk_succ {u : Value} {us xs : List Value} {o : Nat} (h : o + (us.length + 1) ≤ xs.length) : (xs.set o u).take (o + 1) ++ us ++ (xs.set o u).drop (o + 1 + us.length) = xs.take o ++ (u :: us) ++ xs.drop (o + (us.length + 1)) := by
 have h1 : (xs.set o u).take (o + 1) = xs.take o ++ [u] := by
  rw [List.take_succ_eq_append_getElem (by simp; omega)]
  simp [List.take_set_of_le]
 have h2 : (xs.set o u).drop (o + 1 + us.length) = xs.drop (o + (us.length + 1)) := by
  rw [List.drop_set_of_lt (by omega)]
  congr 1
  omega
 rw [h1, h2]
 simp
theorem owns_putK {w : World} {base e size g n cap i : Nat} {xs : List Value} {u : Value} (h : w.ownsRow base e size (.slice (some ⟨g, 0, none⟩) n cap) n xs) : (w.setCell ⟨g, i, none⟩ u).ownsRow base e size (.slice (some ⟨g, 0, none⟩) n cap) n (xs.set i u) := by
 refine ⟨by simp [h.1], ?_⟩
 rcases h.2 with ⟨h1, _⟩ | ⟨g', cap', cur, h1, hb, hg, hc, hm, hsz, hx⟩
 · cases h1
 · simp only [Value.slice.injEq, Option.some.injEq, Addr.mk.injEq, and_true, true_and] at h1
   obtain ⟨rfl, rfl⟩ := h1
   refine .inr ⟨g, cap, cur.setIfInBounds i u, rfl, hb, ?_, hc, hm, by simp [hsz], ?_⟩
   · have : Blk (w.setCell ⟨g, i, none⟩ u) g e (cur.setIfInBounds i u) := Blk.set_ hg i u
     exact this
   · rw [← hx, Array.toList_setIfInBounds, List.take_set]
theorem owns_chunk {base : Nat} {e : TypeId} {size g n cap : Nat} : ∀ (us : List Value) (o : Nat) (w : World) (xs : List Value), w.ownsRow base e size (.slice (some ⟨g, 0, none⟩) n cap) n xs → o + us.length ≤ xs.length →
 (setRow w g o us).ownsRow base e size (.slice (some ⟨g, 0, none⟩) n cap) n (xs.take o ++ us ++ xs.drop (o + us.length))
 | [], o, w, xs, h, _ => by simpa [setRow] using h
 | u :: us, o, w, xs, h, hl => by
  have h1 := owns_putK (i := o) (u := u) h
  have h2 := owns_chunk us (o + 1) _ _ h1 (by simp at hl ⊢; omega)
  rw [setRow]
  rw [chunk_succ (by simpa using hl)] at h2
  exact h2
theorem row_of_owns {w : World} {base lo hi : Nat} {e : TypeId} {size : Nat} {A : Option Addr} {cap : Nat} {l : List G} (_hs : 0 < size) (h : w.ownsRow base e size (.slice A l.length cap) l.length (gCells l)) (hc : ∀ x ∈ l, x.c.length = size) (hin : ∀ x ∈ l, x.In w lo hi) (hb : lo ≤ base) (hh : w.heap.size ≤ hi) : (G.row A l).In w lo hi := by
 refine G.row_in.2 ⟨fun hne => ?_, hin⟩
 obtain ⟨g, c, hA, hg0, hg1⟩ := h.form (List.length_pos_iff.2 hne)
 simp only [Value.slice.injEq, true_and] at hA
 obtain ⟨rfl, rfl⟩ := hA
 refine ⟨g, 0, rfl, by omega, by omega, fun i x hx j u hu => ?_⟩
 have hxl := hc x (List.mem_of_getElem? hx)
 have := World.ownsRow.cells h (g := g) rfl _ _ (gCells_get hc hx hu)
 rw [add_at, ← Nat.add_assoc] at this
 rw [hxl]
 exact this
theorem row_td {w : World} {base : Nat} {e : TypeId} {size : Nat} {A : Option Addr} {cap n : Nat} {xs : List Value} {l : List G} (he : e = 28 ∨ e = 308 ∨ e = 311 ∨ e = 260 ∨ e = 9) (h : w.ownsRow base e size (.slice A n cap) n xs) (hn : n = l.length) (ht : ∀ x ∈ l, x.Td w) : (G.row A l).Td w := by
 subst hn
 intro b hb
 rcases G.row_has hb with ⟨a, rfl, hl, rfl⟩ | ⟨x, hx, hh⟩
 · rcases h.2 with ⟨h0, -⟩ | ⟨g, cap', cur, h1, -, hg, -⟩
   · cases h0
   · simp only [Value.slice.injEq, Option.some.injEq, true_and] at h1
     obtain ⟨rfl, rfl⟩ := h1
     exact ⟨e, cur, he, hg⟩
 · exact ht x hx b hh
theorem gCells_chunk {l1 l2 : List G} {x y : G} {size : Nat} (h1 : ∀ z ∈ l1, z.c.length = size) (hx : x.c.length = size) (hy : y.c.length = size) :
 (gCells (l1 ++ x :: l2)).take (l1.length * size) ++ y.c ++ (gCells (l1 ++ x :: l2)).drop (l1.length * size + y.c.length) = gCells ((l1 ++ [y]) ++ l2) := by
 have e1 : (gCells l1).length = l1.length * size := gCells_length h1
 have e2 : gCells (l1 ++ x :: l2) = gCells l1 ++ (x.c ++ gCells l2) := by simp [gCells]
 rw [e2, ← e1, List.take_left, hy, ← List.drop_drop, List.drop_left, ← hx, List.drop_left]
 simp [gCells]
theorem lies_row {w : World} {lo hi : Nat} {A : Option Addr} {l : List G} {size : Nat} (h : (G.row A l).In w lo hi) (hc : ∀ x ∈ l, x.c.length = size) (h1 : ∀ x ∈ l, ∀ u ∈ x.c, u.oneCell' = true) (hs : 0 < size) : Lies w lo hi A l.length size (gCells l) := by
 refine ⟨gCells_length hc, fun u hu => ?_, fun hn => ?_⟩
 · obtain ⟨x, hx, hu⟩ := List.mem_flatMap.1 hu
   exact h1 x hx u hu
 · obtain ⟨b, o, rfl, h0, h2, hcell⟩ := (G.row_in.1 h).1 (by rintro rfl; simp at hn)
   refine ⟨b, o, rfl, h0, h2, fun j u hu => ?_⟩
   have hj : j < l.length * size := by rw [← gCells_length hc]; exact (List.getElem?_eq_some_iff.1 hu).1
   have hi : j / size < l.length := by rw [Nat.div_lt_iff_lt_mul hs]; exact hj
   have hx := List.getElem?_eq_getElem hi
   have hxc := hc _ (List.getElem_mem hi)
   have hr : j % size < l[j / size].c.length := by rw [hxc]; exact Nat.mod_lt _ hs
   have hu2 := List.getElem?_eq_getElem hr
   have e := gCells_get hc hx hu2
   have ej : j / size * size + j % size = j := by rw [Nat.mul_comm]; exact Nat.div_add_mod j size
   rw [ej, hu] at e
   have := hcell _ _ hx _ _ hu2
   rw [hxc, Nat.add_assoc, ej] at this
   rw [this]
   exact e.symm ▸ rfl
end Go.Proofs.YtlejelbefmkakaaGreat

namespace Go.Proofs.YtlejelbefmkakaaGreat
open Go.RowKit
theorem fits_one : ∀ {fs : List Fd} {c : List Value} {s : List (Option Addr × List G)}, FitsF fs c s → ∀ u ∈ c, u.oneCell' = true
 | [], c, s, h, u, hu => by obtain ⟨rfl, rfl⟩ := h; simp at hu
 | .int k :: fs, [], s, h, _, _ => h.elim
 | .int k :: fs, v :: c, s, h, u, hu => by
  obtain ⟨⟨n, rfl, -⟩, h2⟩ := h
  rcases List.mem_cons.1 hu with rfl | hu
  · rfl
  · exact fits_one h2 u hu
 | .bool :: fs, [], s, h, _, _ => h.elim
 | .bool :: fs, v :: c, s, h, u, hu => by
  obtain ⟨⟨n, rfl⟩, h2⟩ := h
  rcases List.mem_cons.1 hu with rfl | hu
  · rfl
  · exact fits_one h2 u hu
 | .str :: fs, [], s, h, _, _ => h.elim
 | .str :: fs, v :: c, s, h, u, hu => by
  obtain ⟨⟨n, rfl, -⟩, h2⟩ := h
  rcases List.mem_cons.1 hu with rfl | hu
  · rfl
  · exact fits_one h2 u hu
 | .sl e z :: fs, [], s, h, _, _ => h.elim
 | .sl e z :: fs, v :: c, [], h, _, _ => h.elim
 | .sl e z :: fs, v :: c, x :: s, h, u, hu => by
  obtain ⟨⟨n, rfl, -⟩, h2⟩ := h
  rcases List.mem_cons.1 hu with rfl | hu
  · rfl
  · exact fits_one h2 u hu
theorem ty_one {t : TypeId} {g : G} (h : Ty t g) : ∀ u ∈ g.c, u.oneCell' = true := by
 cases h with
 | mk _ _ _ h hk => exact fits_one h
theorem Lies.no {w w' : World} {lo hi : Nat} {A : Option Addr} {n size : Nat} {xs : List Value} (h : Lies w lo hi A n size xs) (f : Fr No w w') (hh : hi ≤ w.heap.size) : Lies w' lo hi A n size xs := by
 refine ⟨h.len, h.one, fun hn => ?_⟩
 obtain ⟨b, o, hA, h0, h1, hc⟩ := h.at_ hn
 exact ⟨b, o, hA, h0, h1, fun j u hu => (f.cell (by omega) fun h => h).trans (hc j u hu)⟩
def OwnXP (t : TypeId) (g : G) (w : World) (e : Ending) (w' : World) : Prop :=
 ∃ g' : G, e = .returned (.agg g'.c.toArray) ∧ Ty t g' ∧ g'.er = g.er ∧ g'.In w' w.heap.size w'.heap.size ∧ g'.Td w' ∧ Fr No w w'
structure OwnRI (e : TypeId) (size : Nat) (w : World) (base mid : Nat) (A : Option Addr) (cap : Nat) (l : List G) (j : Nat) (l' : List G) (wr : World) : Prop where
 len : l'.length = j
 ty : ∀ x ∈ l', Ty e x
 er : l'.map G.er = (l.take j).map G.er
 fr : Fr No w wr
 row : wr.ownsRow base e size (.slice A l.length cap) l.length (gCells (l' ++ l.drop j))
 gm : ∀ g, (Value.slice A l.length cap).ownBlock = some g → g < mid
 inn : ∀ x ∈ l', x.In wr mid wr.heap.size
 td : ∀ x ∈ l', x.Td wr
 big : w.heap.size ≤ base ∧ base ≤ mid ∧ mid ≤ wr.heap.size
section
variable {e : TypeId} {size : Nat} {w wr w2 : World} {base mid : Nat} {A : Option Addr} {cap : Nat} {l l' : List G} {j : Nat}
theorem OwnRI.no (h : OwnRI e size w base mid A cap l j l' wr) (f : Fr No wr w2) : OwnRI e size w base mid A cap l j l' w2 :=
 ⟨h.len, h.ty, h.er, h.fr.trans f, owns_fr h.row f fun _ _ h => h, h.gm, fun x hx => G.In.more (Nat.le_refl _) f.size _ ((h.inn x hx).no f (Nat.le_refl _)), fun x hx => (h.td x hx).fr f fun _ _ h => h, h.big.1, h.big.2.1, Nat.le_trans h.big.2.2 f.size⟩
theorem OwnRI.at_ (h : OwnRI e size w base mid A cap l j l' wr) (hj : j < l.length) (hc : ∀ x ∈ l, x.c.length = size) (hc' : ∀ x ∈ l', x.c.length = size) : ∃ g, A = some ⟨g, 0, none⟩ ∧ base ≤ g ∧ g < mid ∧ (∀ i u, l[j].c[i]? = some u → wr.cell? ⟨g, j * size + i, none⟩ = some u) ∧ ∀ i, wr.frozen? ⟨g, i, none⟩ = false := by
 obtain ⟨g, c, hA, hg0, hg1⟩ := h.row.form (by omega)
 simp only [Value.slice.injEq, true_and] at hA
 obtain ⟨rfl, rfl⟩ := hA
 refine ⟨g, rfl, hg0, h.gm g rfl, fun i u hu => ?_, fun i => World.ownsRow.frozenAt h.row i⟩
 have hx : (l' ++ l.drop j)[j]? = some l[j] := by
  rw [List.getElem?_append_right (by rw [h.len]; exact Nat.le_refl _), h.len, Nat.sub_self, List.getElem?_drop]
  simp [hj]
 have := World.ownsRow.cells h.row (g := g) rfl _ _ (gCells_get (n := size) (fun x hx => by
  rcases List.mem_append.1 hx with hx | hx
  · exact hc' x hx
  · exact hc x (List.mem_of_mem_drop hx)) hx hu)
 rwa [add_at, Nat.zero_add] at this
theorem OwnRI.step {g : Nat} (h : OwnRI e size w base mid (some ⟨g, 0, none⟩) cap l j l' wr) (hj : j < l.length) (hc : ∀ x ∈ l, x.c.length = size) (hc' : ∀ x ∈ l', x.c.length = size) (f : Fr No wr w2) {y : G} (hy : Ty e y) (hye : y.er = l[j].er) (hyl : y.c.length = size)
 (hyi : y.In w2 wr.heap.size w2.heap.size) (hyt : y.Td w2) : OwnRI e size w base mid (some ⟨g, 0, none⟩) cap l (j + 1) (l' ++ [y]) (setRow w2 g (j * size) y.c) := by
 have hdrop : l.drop j = l[j] :: l.drop (j + 1) := List.drop_eq_getElem_cons hj
 have h2 := h.no f
 have hgm := h.gm g rfl
 have hgb := (owns_lt h.row g rfl).1
 have hb := h.big
 have fs : Fr (fun i => i = g) w2 (setRow w2 g (j * size) y.c) := setRow_fr (S := fun i => i = g) (fun _ => rfl) _ _ _ (Fr.refl (fun i => i = g) w2)
 have hsz : (gCells (l' ++ l.drop j)).length = l.length * size := h2.row.1
 have hle : j * size + y.c.length ≤ (gCells (l' ++ l.drop j)).length := by
  rw [hsz, hyl, ← Nat.succ_mul]
  exact Nat.mul_le_mul_right _ hj
 have hchunk := owns_chunk y.c (j * size) w2 _ h2.row hle
 rw [hdrop] at hchunk
 have e1 := gCells_chunk (l1 := l') (l2 := l.drop (j + 1)) (x := l[j]) (y := y) (size := size) hc' (hc _ (List.getElem_mem hj)) hyl
 rw [h.len] at e1
 rw [e1] at hchunk
 have hs2 := f.size
 refine ⟨by simp [h.len], fun x hx => ?_, ?_, h2.fr.trans' fs (fun i hi h => ?_), hchunk, h.gm, fun x hx => ?_, fun x hx => ?_, h.big.1, h.big.2.1, ?_⟩
 · rcases List.mem_append.1 hx with hx | hx
   · exact h.ty x hx
   · simp at hx; subst hx; exact hy
 · rw [List.map_append, h.er, List.take_succ_eq_append_getElem hj, List.map_append]
   simp [hye]
 · have h' : i = g := h
   omega
 · rcases List.mem_append.1 hx with hx | hx
   · exact G.In.more (Nat.le_refl _) fs.size _ ((h2.inn x hx).fr fs (Nat.le_refl _) fun i h0 h1 hi => by have h' : i = g := hi; omega)
   · simp at hx; subst hx
     exact G.In.more (by omega) fs.size _ (hyi.fr fs (Nat.le_refl _) fun i h0 h1 hi => by have h' : i = g := hi; omega)
 · rcases List.mem_append.1 hx with hx | hx
   · exact (h2.td x hx).fr fs fun b hb hi => by have h' : b = g := hi; have := G.In.has hb (h2.inn x hx); omega
   · simp at hx; subst hx
     exact hyt.fr fs fun b hb hi => by have h' : b = g := hi; have := G.In.has hb hyi; omega
 · have := fs.size
   omega
theorem OwnRI.row_in (h : OwnRI e size w base mid A cap l l.length l' wr) (hs : 0 < size) (hc' : ∀ x ∈ l', x.c.length = size) : (G.row A l').In wr base wr.heap.size := by
 have hr := h.row
 rw [List.drop_length, List.append_nil] at hr
 have hl := h.len
 rw [← hl] at hr
 exact row_of_owns hs hr hc' (fun x hx => G.In.more (Nat.le_trans (Nat.le_refl _) h.big.2.1) (Nat.le_refl _) _ (h.inn x hx)) (Nat.le_refl _) (Nat.le_refl _)
theorem OwnRI.row_td (h : OwnRI e size w base mid A cap l l.length l' wr) (he : e = 28 ∨ e = 308 ∨ e = 311 ∨ e = 260 ∨ e = 9) : (G.row A l').Td wr :=
 Go.Proofs.YtlejelbefmkakaaGreat.row_td he h.row h.len.symm h.td
theorem OwnRI.ers (h : OwnRI e size w base mid A cap l l.length l' wr) : l'.map G.er = l.map G.er := by
 rw [h.er, List.take_length]
theorem OwnRI.start (ho : wr.ownsRow base e size (.slice A l.length cap) l.length (gCells l)) (f : Fr No w wr) (hb : w.heap.size ≤ base) (hb2 : base ≤ wr.heap.size) : OwnRI e size w base wr.heap.size A cap l 0 [] wr :=
 ⟨rfl, by simp, by simp, f, by simpa using ho, fun g hg => (owns_lt ho g hg).2, by simp, by simp, hb, hb2, Nat.le_refl _⟩
end
end Go.Proofs.YtlejelbefmkakaaGreat

namespace Go.Proofs.YtlejelbefmkakaaGreat
open Go.RowKit
theorem wf_of_u8 {n : Int} (h0 : 0 ≤ n) (h1 : n < 256) : (Lit.int .u8 n).wf = true := by
 have e0 : IntKind.u8.min = 0 := by decide
 have e1 : IntKind.u8.max = 255 := by decide
 simp only [Lit.wf, e0, e1, Bool.and_eq_true, decide_eq_true_eq]
 omega
theorem wf_of_i64 {n : Int} (h0 : -9223372036854775808 ≤ n) (h1 : n ≤ 9223372036854775807) : (Lit.int .i64 n).wf = true := by
 have e0 : IntKind.i64.min = -9223372036854775808 := by decide
 have e1 : IntKind.i64.max = 9223372036854775807 := by decide
 simp only [Lit.wf, e0, e1, Bool.and_eq_true, decide_eq_true_eq]
 omega
theorem owns_leK {w : World} {base : Nat} {e : TypeId} {size n cap : Nat} {A : Option Addr} {xs : List Value} (h : w.ownsRow base e size (.slice A n cap) n xs) : n ≤ cap := by
 rcases h.2 with ⟨h0, h1⟩ | ⟨g, cap', cur, h0, -, -, h3, -⟩
 · simp at h0; omega
 · simp at h0; omega
theorem cells4_fr {w w2 : World} {g p : Nat} {a b c d : Value} (f : Fr No w w2) (hg : g < w.heap.size) (x0 : w.cell? ⟨g, p, none⟩ = some a) (x1 : w.cell? ⟨g, p + 1, none⟩ = some b) (x2 : w.cell? ⟨g, p + 2, none⟩ = some c) (x3 : w.cell? ⟨g, p + 3, none⟩ = some d) (hz : ∀ i, w.frozen? ⟨g, i, none⟩ = false) :
 ∃ a b c d, w2.cell? ⟨g, p, none⟩ = some a ∧ w2.cell? ⟨g, p + 1, none⟩ = some b ∧ w2.cell? ⟨g, p + 2, none⟩ = some c ∧ w2.cell? ⟨g, p + 3, none⟩ = some d ∧ (∀ i, w2.frozen? ⟨g, i, none⟩ = false) ∧ g < w2.heap.size :=
 ⟨a, b, c, d, (f.cell hg fun h => h).trans x0, (f.cell hg fun h => h).trans x1, (f.cell hg fun h => h).trans x2, (f.cell hg fun h => h).trans x3, fun i => (f.frozen hg fun h => h).trans (hz i), Nat.lt_of_lt_of_le hg f.size⟩
set_option maxRecDepth 100000 in
set_option maxHeartbeats 8000000 in
theorem ownExpr_any (g : G) : ∀ (w : World) (lo hi : Nat), Ty 308 g → g.In w lo hi → hi ≤ w.heap.size → Calls Tryz.prog 252 #[.agg g.c.toArray] w (OwnXP 308 g w) := by
 induction g using G.ind with
 | h c subs ih =>
  intro w lo hi hty hin hh
  obtain ⟨k, n, s, A, cap, l, e, fit, hk⟩ := ty_expr hty
  injection e with e1 e2
  subst e1 e2
  have hrow := G.in_rows.1 hin A l (by simp)
  have hcl : ∀ x ∈ l, x.c.length = 4 := fun x hx => (hasTy_length (hk x hx)).trans (by rw [flat_expr]; rfl)
  have hlies := lies_row hrow hcl (fun x hx => ty_one (hk x hx)) (by omega)
  have hlen := fit.len1
  have HC := hide fun W' (f : Fr No w W') => cloneExp A l.length cap (gCells l) W' lo hi (hlies.no f hh) (Nat.le_trans hh f.size) hlen
  have HIH := hide fun (x : G) (hx : x ∈ l) W' (f : Fr No w W') => ih A l (by simp) x hx W' lo hi (hk x hx) ((G.in_mk.1 hin A l (by simp)).2 x hx |>.no f hh) (Nat.le_trans hh f.size)
  have HFIT := hide fit
  have HCL := hide hcl
  have HTY := hide hk
  have hb0 := (Blk.new w 308 #[.int .u8 k, .int .i64 n, .string s, .slice A l.length cap]).alloc (.cells #[.int .u8 0, .int .i64 0, .string ⟨#[]⟩, .slice none 0 0] 308)
  have hb1 := Blk.new' (w.alloc (.cells #[.int .u8 k, .int .i64 n, .string s, .slice A l.length cap] 308)) 308 #[.int .u8 0, .int .i64 0, .string ⟨#[]⟩, .slice none 0 0] (g := w.heap.size + 1) (by simp)
  have hf0 := ((Fr.refl No w).alloc (.cells #[.int .u8 k, .int .i64 n, .string s, .slice A l.length cap] 308)).alloc (.cells #[.int .u8 0, .int .i64 0, .string ⟨#[]⟩, .slice none 0 0] 308)
  have HB0 := hide hb0
  have HB1 := hide hb1
  have HF0 := hide hf0
  have hz0 : w.heap.size + 2 ≤ ((w.alloc (.cells #[.int .u8 k, .int .i64 n, .string s, .slice A l.length cap] 308)).alloc (.cells #[.int .u8 0, .int .i64 0, .string ⟨#[]⟩, .slice none 0 0] 308)).heap.size := by simp
  have HZ0 := hide hz0
  clear hb0 hb1 hf0 hz0 fit hcl hk hlies hrow hin hty ih
  show Calls Tryz.prog 252 #[.agg #[.int .u8 k, .int .i64 n, .string s, .slice A l.length cap]] w _
  go_enter Tryz.func252, Tryz.ntmps252
  go_wp2_with fail
  generalize hW0 : World.alloc (World.alloc w _) _ = W0 at *
  refine (HC.out W0 HF0.out).mono ?_
  rintro e w1 ⟨A', c', rfl, ho, f1⟩
  have hb := HB0.out.fr f1 fun h => h
  have hz := hb.frozen
  have hq := hb.lt
  have h30 : w1.cell? ⟨w.heap.size, 3, none⟩ = some (.slice A l.length cap) := hb.cell 3
  go_upto_region 2 with (fail)
  have hb' := hb.set_ 3 (.slice A' l.length c')
  have hb1 := (HB1.out.fr f1 fun h => h).far (p := ⟨w.heap.size, 3, none⟩) (by simp) (.slice A' l.length c')
  have hlt0 : ∀ g, (Value.slice A' l.length c').ownBlock = some g → w.heap.size + 2 ≤ g ∧ g < w1.heap.size := fun g hg => by have := owns_lt ho g hg; have := HZ0.out; omega
  have fs : Fr (fun i => i = w.heap.size) w1 (w1.setCell ⟨w.heap.size, 3, none⟩ (.slice A' l.length c')) := (Fr.refl (fun i => i = w.heap.size) w1).set (fun _ => rfl) _
  have ho' := owns_fr ho fs fun g hg h => by have h' : g = w.heap.size := h; have := (hlt0 g hg).1; omega
  have hf1 : Fr No w (w1.setCell ⟨w.heap.size, 3, none⟩ (.slice A' l.length c')) := (HF0.out.trans f1).trans' fs fun i hi h => by have h' : i = w.heap.size := h; omega
  have hst := OwnRI.start (w := w) ho' hf1 (by have := HZ0.out; omega) (by have := fs.size; have := f1.size; omega)
  simp only [List.setIfInBounds_toArray, List.set_cons_zero, List.set_cons_succ] at hb'
  clear hb hz hq fs ho' hf1 hlt0 ho f1 h30
  generalize World.setCell w1 _ _ = W1 at *
  have HB0' := hide hb'
  have HB1' := hide hb1
  have HST := hide hst
  have HM0 := hide (show w.heap.size + 2 ≤ W0.heap.size from HZ0.out)
  have h3 : W1.cell? ⟨w.heap.size, 3, none⟩ = some (.slice A' l.length c') := hb'.cell 3
  have hq3 := hb'.lt
  clear hb' hb1 hst HC HB0 HB1
  go_wp2_with fail
  go_loopw [12] (fun i wr => ∃ (j : Nat) (l' : List G), j ≤ l.length ∧ i = .int .i64 j ∧ OwnRI 308 4 w W0.heap.size W1.heap.size A' c' l j l' wr ∧ Blk wr w.heap.size 308 #[.int .u8 k, .int .i64 n, .string s, .slice A' l.length c'] ∧ Blk wr (w.heap.size + 1) 308 #[.int .u8 0, .int .i64 0, .string ⟨#[]⟩, .slice none 0 0])
   (fun i _ => l.length - (intOf i).toNat)
  case atStart => exact ⟨0, [], Nat.zero_le _, rfl, HST.out, HB0'.out, HB1'.out⟩
  case round =>
   obtain ⟨j, l', hj, rfl, inv, b0, b1⟩ := hrel
   have hcl' : ∀ x ∈ l', x.c.length = 4 := fun x hx => (hasTy_length (inv.ty x hx)).trans (by rw [flat_expr]; rfl)
   by_cases hlt : j < l.length
   · obtain ⟨gr, rfl, hg0, hg1, hce, hfz⟩ := inv.at_ hlt HCL.out hcl'
     obtain ⟨k1, n1, s1, A1, cap1, l1, hx, -, -⟩ := ty_expr (HTY.out _ (List.getElem_mem hlt))
     rw [hx] at hce
     have x0 : wr.cell? ⟨gr, j * 4, none⟩ = some (.int .u8 k1) := hce 0 _ rfl
     have x1 : wr.cell? ⟨gr, j * 4 + 1, none⟩ = some (.int .i64 n1) := hce 1 _ rfl
     have x2 : wr.cell? ⟨gr, j * 4 + 2, none⟩ = some (.string s1) := hce 2 _ rfl
     have x3 : wr.cell? ⟨gr, j * 4 + 3, none⟩ = some (.slice A1 l1.length cap1) := hce 3 _ rfl
     have hgl : gr < wr.heap.size := by have := inv.big.2.2; omega
     have IH := HIH.out l[j] (List.getElem_mem hlt)
     rw [hx] at IH
     have d3 : wr.cell? ⟨w.heap.size, 3, none⟩ = some (.slice (some ⟨gr, 0, none⟩) l.length c') := b0.cell 3
     have dq := b0.lt
     have HIV := hide inv
     have HIH2 := hide IH
     have HX := hide hx
     have HB0r := hide b0
     have HB1r := hide b1
     clear hce inv IH hx b0 b1 HIH
     go_upto_region 5 with (fail)
     have HY := hide (Blk.new wr 308 #[.int .u8 k1, .int .i64 n1, .string s1, .slice A1 l1.length cap1])
     have hfa := (Fr.refl No wr).alloc (.cells #[.int .u8 k1, .int .i64 n1, .string s1, .slice A1 l1.length cap1] 308)
     have HFA := hide hfa
     have hsa : wr.heap.size + 1 ≤ (wr.alloc (.cells #[.int .u8 k1, .int .i64 n1, .string s1, .slice A1 l1.length cap1] 308)).heap.size := by simp
     clear hfa
     generalize hWa : World.alloc wr _ = Wa at *
     have y0 : Wa.cell? ⟨wr.heap.size, 0, none⟩ = some (.int .u8 k1) := HY.out.cell 0
     have y1 : Wa.cell? ⟨wr.heap.size, 1, none⟩ = some (.int .i64 n1) := HY.out.cell 1
     have y2 : Wa.cell? ⟨wr.heap.size, 2, none⟩ = some (.string s1) := HY.out.cell 2
     have y3 : Wa.cell? ⟨wr.heap.size, 3, none⟩ = some (.slice A1 l1.length cap1) := HY.out.cell 3
     have yq := HY.out.lt
     have z3 : Wa.cell? ⟨w.heap.size, 3, none⟩ = some (.slice (some ⟨gr, 0, none⟩) l.length c') := (HFA.out.cell dq fun h => h).trans d3
     have zq : w.heap.size < Wa.heap.size := by omega
     have HXX := hide (fun (w2 : World) (f : Fr No wr w2) => cells4_fr f hgl x0 x1 x2 x3 hfz)
     have HD3 := hide (fun (w2 : World) (f : Fr No wr w2) => And.intro ((f.cell (o := 3) (s := none) dq fun h => h).trans d3) (Nat.lt_of_lt_of_le dq f.size))
     have HG0 := hide hg0
     clear x0 x1 x2 x3 hfz d3 dq hsa hWa h3 hq3 hg0 hg1 hgl
     go_region_with ((go_at_call 252; refine (HIH2.out _ (HIV.out.fr.trans HFA.out.drew)).mono ?_; rintro e w2 ⟨y, he, hty, her, hyin, htd, f2⟩; obtain ⟨k2, n2, s2, A2, cap2, l2, rfl, -, -⟩ := ty_expr hty; obtain rfl : e = .returned (.agg #[.int .u8 k2, .int .i64 n2, .string s2, .slice A2 l2.length cap2]) := he; have f02 := HFA.out.drew.trans f2; obtain ⟨v3, vq⟩ := HD3.out _ f02; obtain ⟨u0v, u1v, u2v, u3v, u0, u1, u2, u3, uf, ug⟩ := HXX.out _ f02; have HTY2 := hide hty; have HER := hide her; have HYI := hide hyin; have HTD := hide htd; have HF2 := hide f02; clear hty her hyin htd f2 f02))
     all_goals
      go_simp
      go_wp2_with fail
      go_roundw
      case rel =>
       have hst := HIV.out.step hlt HCL.out hcl' HF2.out HTY2.out (by rw [HX.out]; exact HER.out) rfl (G.In.more (by have := HFA.out.size; exact this) (Nat.le_refl _) _ HYI.out) HTD.out
       have hne : w.heap.size ≠ gr ∧ w.heap.size + 1 ≠ gr := by have := HG0.out; have := HM0.out; omega
       have hfs : Fr (fun i => i = gr) w2 (setRow w2 gr (j * 4) [.int .u8 k2, .int .i64 n2, .string s2, .slice A2 l2.length cap2]) := setRow_fr (S := fun i => i = gr) (fun _ => rfl) _ _ _ (Fr.refl (fun i => i = gr) w2)
       have hq0 := (HB0r.out.fr HF2.out fun h => h).fr hfs hne.1
       have hq1 := (HB1r.out.fr HF2.out fun h => h).fr hfs hne.2
       exact ⟨j + 1, _, hlt, by go_num, hst, hq0, hq1⟩
      case measure => simp [intOf]; omega
   · obtain rfl : l.length = j := by omega
     have c0 : wr.cell? ⟨w.heap.size, 0, none⟩ = some (.int .u8 k) := b0.cell 0
     have c1 : wr.cell? ⟨w.heap.size, 1, none⟩ = some (.int .i64 n) := b0.cell 1
     have c2 : wr.cell? ⟨w.heap.size, 2, none⟩ = some (.string s) := b0.cell 2
     have c3 : wr.cell? ⟨w.heap.size, 3, none⟩ = some (.slice A' l.length c') := b0.cell 3
     have cq := b0.lt
     have d0 : wr.cell? ⟨w.heap.size + 1, 0, none⟩ = some (.int .u8 0) := b1.cell 0
     have d1 : wr.cell? ⟨w.heap.size + 1, 1, none⟩ = some (.int .i64 0) := b1.cell 1
     have d2 : wr.cell? ⟨w.heap.size + 1, 2, none⟩ = some (.string ⟨#[]⟩) := b1.cell 2
     have d3 : wr.cell? ⟨w.heap.size + 1, 3, none⟩ = some (.slice none 0 0) := b1.cell 3
     have df := b1.frozen
     have dq := b1.lt
     have HIV := hide inv
     clear inv b0 b1 h3 hq3
     go_wp2
     refine bodyPost_ret (v := .agg #[.int .u8 k, .int .i64 n, .string s, .slice A' l.length c']) (by simp [results, Tryz.results252, go_sem, *]) rfl ?_
     generalize hW : World.setCell _ _ _ = W
     have hfr : Fr (fun i => i = w.heap.size + 1) wr W := by
      rw [← hW]
      repeat (first | with_reducible exact Fr.refl _ wr | with_reducible refine Fr.set ?_ (by simp) _)
     have inv := HIV.out
     have hm0 := HM0.out
     have hb := inv.big
     have hri := inv.row_in (by omega) hcl'
     have hrt := inv.row_td (.inr (.inl rfl))
     have hne : ∀ b, (G.row A' l').Has b → ¬ (b = w.heap.size + 1) := fun b hbb h => by have := G.In.has hbb hri; omega
     have hri' := hri.frH hfr (Nat.le_refl _) hne
     refine ⟨.mk [.int .u8 k, .int .i64 n, .string s, .slice A' l.length c'] [(A', l')], rfl, ?_, ?_, ?_, ?_, inv.fr.trans' hfr fun i hi h => by have h' : i = w.heap.size + 1 := h; omega⟩
     · have hfit := HFIT.out
       rw [← inv.len]
       refine .mk _ _ _ ?_ fun i e A'' l'' x he hs hx => ?_
       · rw [flat_expr]
         exact ⟨⟨k, rfl, wf_of_u8 hfit.k0 hfit.k1⟩, ⟨n, rfl, wf_of_i64 hfit.n0 hfit.n1⟩, ⟨s, rfl, hfit.s1⟩, ⟨c', rfl, by rw [inv.len]; exact owns_leK inv.row, by rw [inv.len]; exact hfit.len1⟩, rfl, rfl⟩
       · rw [flat_expr] at he
         cases i with
         | zero =>
          simp [sls] at he hs
          obtain ⟨rfl, rfl⟩ := hs
          subst he
          exact inv.ty x hx
         | succ i => simp at hs
     · rw [G.er_mk, G.er_mk]
       simp [erV, inv.ers]
     · refine G.in_rows.2 fun A'' l'' hm => ?_
       simp at hm
       obtain ⟨rfl, rfl⟩ := hm
       exact G.In.more (by omega) hfr.size _ hri'
     · intro b hbb
       obtain ⟨A'', l'', hm, hh2⟩ := G.mk_has.1 hbb
       simp at hm
       obtain ⟨rfl, rfl⟩ := hm
       exact hrt.fr hfr hne b hh2
end Go.Proofs.YtlejelbefmkakaaGreat

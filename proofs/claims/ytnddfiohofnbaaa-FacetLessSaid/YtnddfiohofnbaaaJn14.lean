/- Texts joined: Gq5, Gx, Gc. -/
import Derived.Test.YtnddfiohofnbaaaJn3
import Derived.Test.YtnddfiohofnbaaaJn13
import Derived.Deep.AppendLies
import Derived.Deep.Upon
/- Worlds of whatever things: fits, kind by kind. -/
namespace Go.Proofs.Ytnddfiohofnbaaa
open Go.RowKit

section
variable {m : Gm} {lo : Nat} {W : World}

set_option maxRecDepth 100000 in
set_option maxHeartbeats 4000000 in
theorem gfits0 (b : Nat) (home k n : Int) (s : ByteArray) (A : Option Addr) (len cap : Nat) (r0 : Int) (VA : Option Addr) (vl vc : Nat) (n1 lost ofr byr set : Int) (full : Bool) (CA : Option Addr) (cl cc : Nat) (NA : Option Addr) (nl nc : Nat) (r kd : Int) (hk : kd ≠ 6 ∧ kd ≠ 7 ∧ kd ≠ 9 ∧ kd ≠ 11 ∧ kd ≠ 13 ∧ kd ≠ 14 ∧ kd ≠ 15 ∧ kd ≠ 16) :
    Calls Try.prog 69 #[.pointer (some ⟨b, 0, none⟩), .int .i64 r, .agg (c16 kd home k n s A len cap r0 VA vl vc n1 lost ofr byr set full CA cl cc NA nl nc)] W fun e w' => e = .returned (.bool true) ∧ Fr No W w' := by
  obtain ⟨h6, h7, h9, h11, h13, h14, h15, h16⟩ := hk
  have e6 : (kd == 6) = false := by simpa using h6
  have e7 : (kd == 7) = false := by simpa using h7
  have e9 : (kd == 9) = false := by simpa using h9
  have e11 : (kd == 11) = false := by simpa using h11
  have e13 : (kd == 13) = false := by simpa using h13
  have e14 : (kd == 14) = false := by simpa using h14
  have e15 : (kd == 15) = false := by simpa using h15
  have e16 : (kd == 16) = false := by simpa using h16
  unfold c16
  clear h6 h7 h9 h11 h13 h14 h15 h16
  go_enter Try.func69, Try.ntmps69
  go_wp2
  go_ret
  exact ⟨rfl, ((Fr.refl No W).alloc _).alloc _⟩

set_option maxRecDepth 100000 in
set_option maxHeartbeats 4000000 in
theorem gfits7 (h : m.Ok lo W) (home k n : Int) (s : ByteArray) (A : Option Addr) (len cap : Nat) (r0 : Int) (VA : Option Addr) (vl vc : Nat) (n1 lost ofr byr set : Int) (full : Bool) (CA : Option Addr) (cl cc : Nat) (NA : Option Addr) (nl nc : Nat) (r : Int) :
    Calls Try.prog 69 #[.pointer (some ⟨m.wb, 0, none⟩), .int .i64 r, .agg (c16 7 home k n s A len cap r0 VA vl vc n1 lost ofr byr set full CA cl cc NA nl nc)] W fun e w' => e = .returned (.bool (m.hkB ofr 5 home)) ∧ Fr No W w' := by
  have hb0 := (Blk.new W 23 #[.pointer (some ⟨m.wb, 0, none⟩)]).alloc (.cells (c16 7 home k n s A len cap r0 VA vl vc n1 lost ofr byr set full CA cl cc NA nl nc) 83)
  have hb1 := Blk.new' (W.alloc (.cells #[.pointer (some ⟨m.wb, 0, none⟩)] 23)) 83 (c16 7 home k n s A len cap r0 VA vl vc n1 lost ofr byr set full CA cl cc NA nl nc) (g := W.heap.size + 1) (by simp)
  have hf0 := ((Fr.refl No W).alloc (.cells #[.pointer (some ⟨m.wb, 0, none⟩)] 23)).alloc (.cells (c16 7 home k n s A len cap r0 VA vl vc n1 lost ofr byr set full CA cl cc NA nl nc) 83)
  obtain ⟨ans, hans⟩ : ∃ q, (m.hkB ofr 5 home) = q := ⟨_, rfl⟩
  rw [hans]
  have HQ := hide hans
  clear hans
  have hc := fits1_g (h.no hf0) hb0 (r := ofr) (k := 5) (by decide) (gx := W.heap.size + 1) (hb1.cell 1) hb1.lt
  unfold c16 at hc
  have HC := hide hc
  clear hc
  unfold c16 at hb0 hb1 hf0 ⊢
  have HB0 := hide hb0
  have HB1 := hide hb1
  have HF0 := hide hf0
  have HOK := hide h
  obtain ⟨d0, d1, d2, d3, d4, d5, d6, d7, d8, d9, d10, d11, d12, d13, d14, d15⟩ := hb1.cells16
  have dq := hb1.lt
  have e0 := hb0.cell 0
  have eq_ := hb0.lt
  simp only [List.getElem?_toArray, List.getElem?_cons_zero] at e0
  clear hb0 hb1 hf0 h
  go_enter Try.func69, Try.ntmps69
  go_wp2_with fail
  generalize World.alloc (World.alloc W _) _ = W0 at *
  refine HC.out.mono ?_
  rintro e w1 ⟨rfl, f1⟩
  clear d0 d1 d2 d3 d4 d5 d6 d7 d8 d9 d10 d11 d12 d13 d14 d15 dq e0 eq_
  go_wp2
  go_ret
  exact ⟨by rw [← HQ.out]; rfl, HF0.out.trans f1⟩

set_option maxRecDepth 100000 in
set_option maxHeartbeats 4000000 in
theorem gfits9 (h : m.Ok lo W) (home k n : Int) (s : ByteArray) (A : Option Addr) (len cap : Nat) (r0 : Int) (VA : Option Addr) (vl vc : Nat) (n1 lost ofr byr set : Int) (full : Bool) (CA : Option Addr) (cl cc : Nat) (NA : Option Addr) (nl nc : Nat) (r : Int) :
    Calls Try.prog 69 #[.pointer (some ⟨m.wb, 0, none⟩), .int .i64 r, .agg (c16 9 home k n s A len cap r0 VA vl vc n1 lost ofr byr set full CA cl cc NA nl nc)] W fun e w' => e = .returned (.bool (m.hkB ofr 8 home)) ∧ Fr No W w' := by
  have hb0 := (Blk.new W 23 #[.pointer (some ⟨m.wb, 0, none⟩)]).alloc (.cells (c16 9 home k n s A len cap r0 VA vl vc n1 lost ofr byr set full CA cl cc NA nl nc) 83)
  have hb1 := Blk.new' (W.alloc (.cells #[.pointer (some ⟨m.wb, 0, none⟩)] 23)) 83 (c16 9 home k n s A len cap r0 VA vl vc n1 lost ofr byr set full CA cl cc NA nl nc) (g := W.heap.size + 1) (by simp)
  have hf0 := ((Fr.refl No W).alloc (.cells #[.pointer (some ⟨m.wb, 0, none⟩)] 23)).alloc (.cells (c16 9 home k n s A len cap r0 VA vl vc n1 lost ofr byr set full CA cl cc NA nl nc) 83)
  obtain ⟨ans, hans⟩ : ∃ q, (m.hkB ofr 8 home) = q := ⟨_, rfl⟩
  rw [hans]
  have HQ := hide hans
  clear hans
  have hc := fits1_g (h.no hf0) hb0 (r := ofr) (k := 8) (by decide) (gx := W.heap.size + 1) (hb1.cell 1) hb1.lt
  unfold c16 at hc
  have HC := hide hc
  clear hc
  unfold c16 at hb0 hb1 hf0 ⊢
  have HB0 := hide hb0
  have HB1 := hide hb1
  have HF0 := hide hf0
  have HOK := hide h
  obtain ⟨d0, d1, d2, d3, d4, d5, d6, d7, d8, d9, d10, d11, d12, d13, d14, d15⟩ := hb1.cells16
  have dq := hb1.lt
  have e0 := hb0.cell 0
  have eq_ := hb0.lt
  simp only [List.getElem?_toArray, List.getElem?_cons_zero] at e0
  clear hb0 hb1 hf0 h
  go_enter Try.func69, Try.ntmps69
  go_wp2_with fail
  generalize World.alloc (World.alloc W _) _ = W0 at *
  refine HC.out.mono ?_
  rintro e w1 ⟨rfl, f1⟩
  clear d0 d1 d2 d3 d4 d5 d6 d7 d8 d9 d10 d11 d12 d13 d14 d15 dq e0 eq_
  go_wp2
  go_ret
  exact ⟨by rw [← HQ.out]; rfl, HF0.out.trans f1⟩

set_option maxRecDepth 100000 in
set_option maxHeartbeats 4000000 in
theorem gfits6 (h : m.Ok lo W) (home k n : Int) (s : ByteArray) (A : Option Addr) (len cap : Nat) (r0 : Int) (VA : Option Addr) (vl vc : Nat) (n1 lost ofr byr set : Int) (full : Bool) (CA : Option Addr) (cl cc : Nat) (NA : Option Addr) (nl nc : Nat) (r : Int) :
    Calls Try.prog 69 #[.pointer (some ⟨m.wb, 0, none⟩), .int .i64 r, .agg (c16 6 home k n s A len cap r0 VA vl vc n1 lost ofr byr set full CA cl cc NA nl nc)] W fun e w' => e = .returned (.bool (m.hkB ofr 5 home && !m.othB r 6 ofr)) ∧ Fr No W w' := by
  have hb0 := (Blk.new W 23 #[.pointer (some ⟨m.wb, 0, none⟩)]).alloc (.cells (c16 6 home k n s A len cap r0 VA vl vc n1 lost ofr byr set full CA cl cc NA nl nc) 83)
  have hb1 := Blk.new' (W.alloc (.cells #[.pointer (some ⟨m.wb, 0, none⟩)] 23)) 83 (c16 6 home k n s A len cap r0 VA vl vc n1 lost ofr byr set full CA cl cc NA nl nc) (g := W.heap.size + 1) (by simp)
  have hf0 := ((Fr.refl No W).alloc (.cells #[.pointer (some ⟨m.wb, 0, none⟩)] 23)).alloc (.cells (c16 6 home k n s A len cap r0 VA vl vc n1 lost ofr byr set full CA cl cc NA nl nc) 83)
  obtain ⟨ans, hans⟩ : ∃ q, (m.hkB ofr 5 home && !m.othB r 6 ofr) = q := ⟨_, rfl⟩
  rw [hans]
  have HQ := hide hans
  clear hans
  have hc := fits1_g (h.no hf0) hb0 (r := ofr) (k := 5) (by decide) (gx := W.heap.size + 1) (hb1.cell 1) hb1.lt
  have HN := hide fun W' (f : Fr No W W') => otherB_g (h.no f) r 6 ofr
  unfold c16 at hc
  have HC := hide hc
  clear hc
  unfold c16 at hb0 hb1 hf0 ⊢
  have HB0 := hide hb0
  have HB1 := hide hb1
  have HF0 := hide hf0
  have HOK := hide h
  obtain ⟨d0, d1, d2, d3, d4, d5, d6, d7, d8, d9, d10, d11, d12, d13, d14, d15⟩ := hb1.cells16
  have dq := hb1.lt
  have e0 := hb0.cell 0
  have eq_ := hb0.lt
  simp only [List.getElem?_toArray, List.getElem?_cons_zero] at e0
  clear hb0 hb1 hf0 h
  go_enter Try.func69, Try.ntmps69
  go_wp2_with fail
  generalize World.alloc (World.alloc W _) _ = W0 at *
  refine HC.out.mono ?_
  rintro e w1 ⟨rfl, f1⟩
  have hb := HB1.out.fr f1 fun h => h
  have hb2 := HB0.out.fr f1 fun h => h
  clear d0 d1 d2 d3 d4 d5 d6 d7 d8 d9 d10 d11 d12 d13 d14 d15 dq e0 eq_
  obtain ⟨d0, d1, d2, d3, d4, d5, d6, d7, d8, d9, d10, d11, d12, d13, d14, d15⟩ := hb.cells16
  have dq := hb.lt
  have e0 : w1.cell? ⟨W.heap.size, 0, none⟩ = some (.pointer (some ⟨m.wb, 0, none⟩)) := hb2.cell 0
  have eq_ := hb2.lt
  clear hb hb2
  have HF1 := hide (HF0.out.trans f1)
  generalize m.hkB ofr 5 home = q1 at *
  generalize m.othB r 6 ofr = q2 at *
  clear f1
  cases q1
  · go_wp2
    go_ret
    exact ⟨by rw [← HQ.out]; simp, HF1.out⟩
  · go_wp2_with fail
    refine (HN.out w1 HF1.out).mono ?_
    rintro e w2 ⟨rfl, f2⟩
    clear d0 d1 d2 d3 d4 d5 d6 d7 d8 d9 d10 d11 d12 d13 d14 d15 dq e0 eq_
    go_wp2
    go_ret
    exact ⟨by rw [← HQ.out]; simp, HF1.out.trans f2⟩

set_option maxRecDepth 100000 in
set_option maxHeartbeats 4000000 in
theorem gfits11 (h : m.Ok lo W) (home k n : Int) (s : ByteArray) (A : Option Addr) (len cap : Nat) (r0 : Int) (VA : Option Addr) (vl vc : Nat) (n1 lost ofr byr set : Int) (full : Bool) (CA : Option Addr) (cl cc : Nat) (NA : Option Addr) (nl nc : Nat) (r : Int) :
    Calls Try.prog 69 #[.pointer (some ⟨m.wb, 0, none⟩), .int .i64 r, .agg (c16 11 home k n s A len cap r0 VA vl vc n1 lost ofr byr set full CA cl cc NA nl nc)] W fun e w' => e = .returned (.bool (m.hkB ofr 10 home && !m.othB r 11 ofr)) ∧ Fr No W w' := by
  have hb0 := (Blk.new W 23 #[.pointer (some ⟨m.wb, 0, none⟩)]).alloc (.cells (c16 11 home k n s A len cap r0 VA vl vc n1 lost ofr byr set full CA cl cc NA nl nc) 83)
  have hb1 := Blk.new' (W.alloc (.cells #[.pointer (some ⟨m.wb, 0, none⟩)] 23)) 83 (c16 11 home k n s A len cap r0 VA vl vc n1 lost ofr byr set full CA cl cc NA nl nc) (g := W.heap.size + 1) (by simp)
  have hf0 := ((Fr.refl No W).alloc (.cells #[.pointer (some ⟨m.wb, 0, none⟩)] 23)).alloc (.cells (c16 11 home k n s A len cap r0 VA vl vc n1 lost ofr byr set full CA cl cc NA nl nc) 83)
  obtain ⟨ans, hans⟩ : ∃ q, (m.hkB ofr 10 home && !m.othB r 11 ofr) = q := ⟨_, rfl⟩
  rw [hans]
  have HQ := hide hans
  clear hans
  have hc := fits1_g (h.no hf0) hb0 (r := ofr) (k := 10) (by decide) (gx := W.heap.size + 1) (hb1.cell 1) hb1.lt
  have HN := hide fun W' (f : Fr No W W') => otherB_g (h.no f) r 11 ofr
  unfold c16 at hc
  have HC := hide hc
  clear hc
  unfold c16 at hb0 hb1 hf0 ⊢
  have HB0 := hide hb0
  have HB1 := hide hb1
  have HF0 := hide hf0
  have HOK := hide h
  obtain ⟨d0, d1, d2, d3, d4, d5, d6, d7, d8, d9, d10, d11, d12, d13, d14, d15⟩ := hb1.cells16
  have dq := hb1.lt
  have e0 := hb0.cell 0
  have eq_ := hb0.lt
  simp only [List.getElem?_toArray, List.getElem?_cons_zero] at e0
  clear hb0 hb1 hf0 h
  go_enter Try.func69, Try.ntmps69
  go_wp2_with fail
  generalize World.alloc (World.alloc W _) _ = W0 at *
  refine HC.out.mono ?_
  rintro e w1 ⟨rfl, f1⟩
  have hb := HB1.out.fr f1 fun h => h
  have hb2 := HB0.out.fr f1 fun h => h
  clear d0 d1 d2 d3 d4 d5 d6 d7 d8 d9 d10 d11 d12 d13 d14 d15 dq e0 eq_
  obtain ⟨d0, d1, d2, d3, d4, d5, d6, d7, d8, d9, d10, d11, d12, d13, d14, d15⟩ := hb.cells16
  have dq := hb.lt
  have e0 : w1.cell? ⟨W.heap.size, 0, none⟩ = some (.pointer (some ⟨m.wb, 0, none⟩)) := hb2.cell 0
  have eq_ := hb2.lt
  clear hb hb2
  have HF1 := hide (HF0.out.trans f1)
  generalize m.hkB ofr 10 home = q1 at *
  generalize m.othB r 11 ofr = q2 at *
  clear f1
  cases q1
  · go_wp2
    go_ret
    exact ⟨by rw [← HQ.out]; simp, HF1.out⟩
  · go_wp2_with fail
    refine (HN.out w1 HF1.out).mono ?_
    rintro e w2 ⟨rfl, f2⟩
    clear d0 d1 d2 d3 d4 d5 d6 d7 d8 d9 d10 d11 d12 d13 d14 d15 dq e0 eq_
    go_wp2
    go_ret
    exact ⟨by rw [← HQ.out]; simp, HF1.out.trans f2⟩

set_option maxRecDepth 100000 in
set_option maxHeartbeats 4000000 in
theorem gfits16 (h : m.Ok lo W) (home k n : Int) (s : ByteArray) (A : Option Addr) (len cap : Nat) (r0 : Int) (VA : Option Addr) (vl vc : Nat) (n1 lost ofr byr set : Int) (full : Bool) (CA : Option Addr) (cl cc : Nat) (NA : Option Addr) (nl nc : Nat) (r : Int) :
    Calls Try.prog 69 #[.pointer (some ⟨m.wb, 0, none⟩), .int .i64 r, .agg (c16 16 home k n s A len cap r0 VA vl vc n1 lost ofr byr set full CA cl cc NA nl nc)] W fun e w' => e = .returned (.bool (m.hkB byr 3 home && (m.get ofr).isSome)) ∧ Fr No W w' := by
  have hb0 := (Blk.new W 23 #[.pointer (some ⟨m.wb, 0, none⟩)]).alloc (.cells (c16 16 home k n s A len cap r0 VA vl vc n1 lost ofr byr set full CA cl cc NA nl nc) 83)
  have hb1 := Blk.new' (W.alloc (.cells #[.pointer (some ⟨m.wb, 0, none⟩)] 23)) 83 (c16 16 home k n s A len cap r0 VA vl vc n1 lost ofr byr set full CA cl cc NA nl nc) (g := W.heap.size + 1) (by simp)
  have hf0 := ((Fr.refl No W).alloc (.cells #[.pointer (some ⟨m.wb, 0, none⟩)] 23)).alloc (.cells (c16 16 home k n s A len cap r0 VA vl vc n1 lost ofr byr set full CA cl cc NA nl nc) 83)
  obtain ⟨ans, hans⟩ : ∃ q, (m.hkB byr 3 home && (m.get ofr).isSome) = q := ⟨_, rfl⟩
  rw [hans]
  have HQ := hide hans
  clear hans
  have hc := fits1_g (h.no hf0) hb0 (r := byr) (k := 3) (by decide) (gx := W.heap.size + 1) (hb1.cell 1) hb1.lt
  have HN := hide fun W' (f : Fr No W W') => gIs_w (h.no f) ofr
  unfold c16 at hc
  have HC := hide hc
  clear hc
  unfold c16 at hb0 hb1 hf0 ⊢
  have HB0 := hide hb0
  have HB1 := hide hb1
  have HF0 := hide hf0
  have HOK := hide h
  obtain ⟨d0, d1, d2, d3, d4, d5, d6, d7, d8, d9, d10, d11, d12, d13, d14, d15⟩ := hb1.cells16
  have dq := hb1.lt
  have e0 := hb0.cell 0
  have eq_ := hb0.lt
  simp only [List.getElem?_toArray, List.getElem?_cons_zero] at e0
  clear hb0 hb1 hf0 h
  go_enter Try.func69, Try.ntmps69
  go_wp2_with fail
  generalize World.alloc (World.alloc W _) _ = W0 at *
  refine HC.out.mono ?_
  rintro e w1 ⟨rfl, f1⟩
  have hb := HB1.out.fr f1 fun h => h
  have hb2 := HB0.out.fr f1 fun h => h
  clear d0 d1 d2 d3 d4 d5 d6 d7 d8 d9 d10 d11 d12 d13 d14 d15 dq e0 eq_
  obtain ⟨d0, d1, d2, d3, d4, d5, d6, d7, d8, d9, d10, d11, d12, d13, d14, d15⟩ := hb.cells16
  have dq := hb.lt
  have e0 : w1.cell? ⟨W.heap.size, 0, none⟩ = some (.pointer (some ⟨m.wb, 0, none⟩)) := hb2.cell 0
  have eq_ := hb2.lt
  clear hb hb2
  have HF1 := hide (HF0.out.trans f1)
  generalize m.hkB byr 3 home = q1 at *
  generalize (m.get ofr).isSome = q2 at *
  clear f1
  cases q1
  · go_wp2
    go_ret
    exact ⟨by rw [← HQ.out]; simp, HF1.out⟩
  · go_wp2_with fail
    refine (HN.out w1 HF1.out).mono ?_
    rintro e w2 ⟨rfl, rfl⟩
    clear d0 d1 d2 d3 d4 d5 d6 d7 d8 d9 d10 d11 d12 d13 d14 d15 dq e0 eq_
    go_wp2
    go_ret
    exact ⟨by rw [← HQ.out]; simp, HF1.out⟩

set_option maxRecDepth 100000 in
set_option maxHeartbeats 4000000 in
theorem gfits15 (h : m.Ok lo W) (home k n : Int) (s : ByteArray) (A : Option Addr) (len cap : Nat) (r0 : Int) (VA : Option Addr) (vl vc : Nat) (n1 lost ofr byr set : Int) (full : Bool) (CA : Option Addr) (cl cc : Nat) (NA : Option Addr) (nl nc : Nat) (r : Int) :
    Calls Try.prog 69 #[.pointer (some ⟨m.wb, 0, none⟩), .int .i64 r, .agg (c16 15 home k n s A len cap r0 VA vl vc n1 lost ofr byr set full CA cl cc NA nl nc)] W fun e w' => e = .returned (.bool (m.hkB byr 13 home && (m.get ofr).isSome && (match m.get byr with | some y => y.2.ofr == r | none => false))) ∧ Fr No W w' := by
  have hb0 := (Blk.new W 23 #[.pointer (some ⟨m.wb, 0, none⟩)]).alloc (.cells (c16 15 home k n s A len cap r0 VA vl vc n1 lost ofr byr set full CA cl cc NA nl nc) 83)
  have hb1 := Blk.new' (W.alloc (.cells #[.pointer (some ⟨m.wb, 0, none⟩)] 23)) 83 (c16 15 home k n s A len cap r0 VA vl vc n1 lost ofr byr set full CA cl cc NA nl nc) (g := W.heap.size + 1) (by simp)
  have hf0 := ((Fr.refl No W).alloc (.cells #[.pointer (some ⟨m.wb, 0, none⟩)] 23)).alloc (.cells (c16 15 home k n s A len cap r0 VA vl vc n1 lost ofr byr set full CA cl cc NA nl nc) 83)
  obtain ⟨ans, hans⟩ : ∃ q, (m.hkB byr 13 home && (m.get ofr).isSome && (match m.get byr with | some y => y.2.ofr == r | none => false)) = q := ⟨_, rfl⟩
  rw [hans]
  have HQ := hide hans
  clear hans
  unfold c16 at hb0 hb1 hf0 ⊢
  have HB0 := hide hb0
  have HB1 := hide hb1
  have HF0 := hide hf0
  have HOK := hide h
  obtain ⟨d0, d1, d2, d3, d4, d5, d6, d7, d8, d9, d10, d11, d12, d13, d14, d15⟩ := hb1.cells16
  have dq := hb1.lt
  have e0 := hb0.cell 0
  have eq_ := hb0.lt
  simp only [List.getElem?_toArray, List.getElem?_cons_zero] at e0
  clear hb0 hb1 hf0 h
  go_enter Try.func69, Try.ntmps69
  go_wp2_with fail
  generalize World.alloc (World.alloc W _) _ = W0 at *
  have hok0 := HOK.out.no HF0.out
  clear d0 d1 d2 d3 d4 d5 d6 d7 d8 d9 d10 d11 d12 d13 d14 d15 dq e0 eq_
  have d10 : ∀ q : ClN W0, q.w.cell? ⟨W.heap.size + 1, 10, none⟩ = some (.int .i64 ofr) := fun q => (HB1.out.fr q.fr fun h => h).cell 10
  have d11 : ∀ q : ClN W0, q.w.cell? ⟨W.heap.size + 1, 11, none⟩ = some (.int .i64 byr) := fun q => (HB1.out.fr q.fr fun h => h).cell 11
  have d12 : ∀ q : ClN W0, q.w.cell? ⟨W.heap.size + 1, 12, none⟩ = some (.int .u8 set) := fun q => (HB1.out.fr q.fr fun h => h).cell 12
  have dq : ∀ q : ClN W0, W.heap.size + 1 < q.w.heap.size := fun q => (HB1.out.fr q.fr fun h => h).lt
  have e0 : ∀ q : ClN W0, q.w.cell? ⟨W.heap.size, 0, none⟩ = some (.pointer (some ⟨m.wb, 0, none⟩)) := fun q => (HB0.out.fr q.fr fun h => h).cell 0
  have eq_ : ∀ q : ClN W0, W.heap.size < q.w.heap.size := fun q => (HB0.out.fr q.fr fun h => h).lt
  have x2 : ∀ q : ClN W0, q.w.cell? ⟨m.wb, 2, none⟩ = some (.map (some m.M)) := fun q => gmap_cell (hok0.no q.fr)
  have xq2 : ∀ q : ClN W0, m.wb < q.w.heap.size := fun q => (hok0.no q.fr).blk.lt
  have hinst : Nonempty (ClN W0) := ⟨⟨W0, Fr.refl No W0⟩⟩
  have HC : Hid (∀ q : ClN W0, Calls Try.prog 99 #[.int .i64 byr, .int .u8 13, .pointer (some ⟨W.heap.size, 0, none⟩), .pointer (some ⟨W.heap.size + 1, 0, none⟩)] q.w fun e w'' => e = .returned (.bool (m.hkB byr 13 home)) ∧ ∃ q' : ClN W0, w'' = q'.w) := hide fun q => by
    refine (fits1_g (hok0.no q.fr) (HB0.out.fr q.fr fun h => h) (by decide) (gx := W.heap.size + 1) ((HB1.out.fr q.fr fun h => h).cell 1) (HB1.out.fr q.fr fun h => h).lt).mono ?_
    rintro e w'' ⟨rfl, f⟩
    exact ⟨rfl, ⟨w'', q.fr.trans f⟩, rfl⟩
  have HI : Hid (∀ q : ClN W0, Calls Try.prog 27 #[.pointer (some ⟨m.wb, 0, none⟩), .int .i64 ofr] q.w fun e w'' => e = .returned (.bool (m.get ofr).isSome) ∧ ∃ q' : ClN W0, w'' = q'.w) := hide fun q => by
    refine (gIs_w (hok0.no q.fr) ofr).mono ?_
    rintro e w'' ⟨rfl, rfl⟩
    exact ⟨rfl, q, rfl⟩
  cases hq1 : m.hkB byr 13 home with
  | false =>
    rw [hq1] at HC HQ
    generalize (m.get ofr).isSome = q2 at *
    clear hok0 hq1
    refine wp_region_quiet_cl (fun W' => ∃ q : ClN W0, W' = q.w) (by kernel_rfl) (by kernel_rfl) ⟨⟨_, (Fr.refl No W0).drew⟩, rfl⟩ ?_
    repeat (go_big_quiet_step (first | (go_at_call 99; exact HC.out _) | (go_at_call 27; exact HI.out _)))
    refine wpQuiet_nil ?_
    rintro w1 ⟨⟨_, f3⟩, rfl⟩
    clear d10 d11 d12 dq e0 eq_ x2 xq2 hinst HC HI
    go_wp2_with fail
    go_ret
    exact ⟨by rw [← HQ.out]; simp, HF0.out.trans f3⟩
  | true =>
    obtain ⟨y, hy⟩ : ∃ y, m.get byr = some y := by
      unfold Gm.hkB at hq1
      cases hg : m.get byr with
      | none => rw [hg] at hq1; cases hq1
      | some y => exact ⟨y, rfl⟩
    have hl : ∀ q : ClN W0, (Instr.lookup 73 (.map (some m.M)) (.int .i64 byr) false).run Try.prog q.w = .ok (.pointer (some ⟨y.1, 0, none⟩)) q.w := fun q => by
      have := gook_thing (hok0.no q.fr) byr
      rw [hy] at this
      exact this
    have x10 : ∀ q : ClN W0, q.w.cell? ⟨y.1, 10, none⟩ = some (.int .i64 y.2.ofr) := fun q => (gbox_at ((hok0.no q.fr).box _ (Gm.get_mem hy))).2.2.1
    have xq : ∀ q : ClN W0, y.1 < q.w.heap.size := fun q => ((hok0.no q.fr).box _ (Gm.get_mem hy)).lt
    rw [hq1] at HC
    have hq := HQ.out
    rw [hq1, hy] at hq
    simp only at hq
    clear HQ
    have HQ := hide hq
    clear hq
    generalize (m.get ofr).isSome = q2 at *
    generalize y.2.ofr = yo at *
    clear hok0 hq1 hy
    cases q2
    · refine wp_region_quiet_cl (fun W' => ∃ q : ClN W0, W' = q.w) (by kernel_rfl) (by kernel_rfl) ⟨⟨_, (Fr.refl No W0).drew⟩, rfl⟩ ?_
      repeat (go_big_quiet_step (first | (go_at_call 99; exact HC.out _) | (go_at_call 27; exact HI.out _)))
      refine wpQuiet_nil ?_
      rintro w1 ⟨⟨_, f3⟩, rfl⟩
      clear d10 d11 d12 dq e0 eq_ x2 xq2 hinst HC HI hl x10 xq
      go_wp2_with fail
      go_ret
      exact ⟨by rw [← HQ.out]; simp, HF0.out.trans f3⟩
    · refine wp_region_quiet_cl (fun W' => ∃ q : ClN W0, W' = q.w) (by kernel_rfl) (by kernel_rfl) ⟨⟨_, (Fr.refl No W0).drew⟩, rfl⟩ ?_
      repeat (go_big_quiet_step (first | (go_at_call 99; exact HC.out _) | (go_at_call 27; exact HI.out _)))
      refine wpQuiet_nil ?_
      rintro w1 ⟨⟨_, f3⟩, rfl⟩
      clear d10 d11 d12 dq e0 eq_ x2 xq2 hinst HC HI hl x10 xq
      go_wp2_with fail
      go_ret
      exact ⟨by rw [← HQ.out]; simp, HF0.out.trans f3⟩

set_option maxRecDepth 100000 in
set_option maxHeartbeats 4000000 in
theorem gfits13 (h : m.Ok lo W) (home k n : Int) (s : ByteArray) (A : Option Addr) (len cap : Nat) (r0 : Int) (VA : Option Addr) (vl vc : Nat) (n1 lost ofr byr set : Int) (full : Bool) (CA : Option Addr) (cl cc : Nat) (NA : Option Addr) (nl nc : Nat) (r : Int) :
    Calls Try.prog 69 #[.pointer (some ⟨m.wb, 0, none⟩), .int .i64 r, .agg (c16 13 home k n s A len cap r0 VA vl vc n1 lost ofr byr set full CA cl cc NA nl nc)] W fun e w' => e = .returned (.bool (ofr == 0 || (m.kind ofr == 15 && (match m.get ofr with | some y => y.2.byr == r | none => false)))) ∧ Fr No W w' := by
  have hb0 := (Blk.new W 23 #[.pointer (some ⟨m.wb, 0, none⟩)]).alloc (.cells (c16 13 home k n s A len cap r0 VA vl vc n1 lost ofr byr set full CA cl cc NA nl nc) 83)
  have hb1 := Blk.new' (W.alloc (.cells #[.pointer (some ⟨m.wb, 0, none⟩)] 23)) 83 (c16 13 home k n s A len cap r0 VA vl vc n1 lost ofr byr set full CA cl cc NA nl nc) (g := W.heap.size + 1) (by simp)
  have hf0 := ((Fr.refl No W).alloc (.cells #[.pointer (some ⟨m.wb, 0, none⟩)] 23)).alloc (.cells (c16 13 home k n s A len cap r0 VA vl vc n1 lost ofr byr set full CA cl cc NA nl nc) 83)
  obtain ⟨ans, hans⟩ : ∃ q, (ofr == 0 || (m.kind ofr == 15 && (match m.get ofr with | some y => y.2.byr == r | none => false))) = q := ⟨_, rfl⟩
  rw [hans]
  have HQ := hide hans
  clear hans
  unfold c16 at hb0 hb1 hf0 ⊢
  have HB0 := hide hb0
  have HB1 := hide hb1
  have HF0 := hide hf0
  have HOK := hide h
  obtain ⟨d0, d1, d2, d3, d4, d5, d6, d7, d8, d9, d10, d11, d12, d13, d14, d15⟩ := hb1.cells16
  have dq := hb1.lt
  have e0 := hb0.cell 0
  have eq_ := hb0.lt
  simp only [List.getElem?_toArray, List.getElem?_cons_zero] at e0
  clear hb0 hb1 hf0 h
  go_enter Try.func69, Try.ntmps69
  go_wp2_with fail
  generalize World.alloc (World.alloc W _) _ = W0 at *
  have hok0 := HOK.out.no HF0.out
  clear d0 d1 d2 d3 d4 d5 d6 d7 d8 d9 d10 d11 d12 d13 d14 d15 dq e0 eq_
  have d10 : ∀ q : ClN W0, q.w.cell? ⟨W.heap.size + 1, 10, none⟩ = some (.int .i64 ofr) := fun q => (HB1.out.fr q.fr fun h => h).cell 10
  have d11 : ∀ q : ClN W0, q.w.cell? ⟨W.heap.size + 1, 11, none⟩ = some (.int .i64 byr) := fun q => (HB1.out.fr q.fr fun h => h).cell 11
  have d12 : ∀ q : ClN W0, q.w.cell? ⟨W.heap.size + 1, 12, none⟩ = some (.int .u8 set) := fun q => (HB1.out.fr q.fr fun h => h).cell 12
  have dq : ∀ q : ClN W0, W.heap.size + 1 < q.w.heap.size := fun q => (HB1.out.fr q.fr fun h => h).lt
  have e0 : ∀ q : ClN W0, q.w.cell? ⟨W.heap.size, 0, none⟩ = some (.pointer (some ⟨m.wb, 0, none⟩)) := fun q => (HB0.out.fr q.fr fun h => h).cell 0
  have eq_ : ∀ q : ClN W0, W.heap.size < q.w.heap.size := fun q => (HB0.out.fr q.fr fun h => h).lt
  have x2 : ∀ q : ClN W0, q.w.cell? ⟨m.wb, 2, none⟩ = some (.map (some m.M)) := fun q => gmap_cell (hok0.no q.fr)
  have xq2 : ∀ q : ClN W0, m.wb < q.w.heap.size := fun q => (hok0.no q.fr).blk.lt
  have hinst : Nonempty (ClN W0) := ⟨⟨W0, Fr.refl No W0⟩⟩
  have HC : Hid (∀ q : ClN W0, Calls Try.prog 43 #[.pointer (some ⟨m.wb, 0, none⟩), .int .i64 ofr] q.w fun e w'' => e = .returned (.int .u8 (m.kind ofr)) ∧ ∃ q' : ClN W0, w'' = q'.w) := hide fun q => by
    refine (gKind_w (hok0.no q.fr) ofr).mono ?_
    rintro e w'' ⟨rfl, rfl⟩
    exact ⟨rfl, q, rfl⟩
  cases hq0 : (ofr == 0) with
  | true =>
    rw [hq0] at HQ
    clear hok0
    refine wp_region_quiet_cl (fun W' => ∃ q : ClN W0, W' = q.w) (by kernel_rfl) (by kernel_rfl) ⟨⟨_, (Fr.refl No W0).drew⟩, rfl⟩ ?_
    repeat (go_big_quiet_step ((go_at_call 43; exact HC.out _)))
    refine wpQuiet_nil ?_
    rintro w1 ⟨⟨_, f3⟩, rfl⟩
    clear d10 d11 d12 dq e0 eq_ x2 xq2 hinst HC
    go_wp2_with fail
    go_ret
    exact ⟨by rw [← HQ.out]; simp, HF0.out.trans f3⟩
  | false =>
    cases hq1 : (m.kind ofr == 15) with
    | false =>
      rw [hq0, hq1] at HQ
      clear hok0
      generalize m.kind ofr = kd at *
      refine wp_region_quiet_cl (fun W' => ∃ q : ClN W0, W' = q.w) (by kernel_rfl) (by kernel_rfl) ⟨⟨_, (Fr.refl No W0).drew⟩, rfl⟩ ?_
      repeat (go_big_quiet_step ((go_at_call 43; exact HC.out _)))
      refine wpQuiet_nil ?_
      rintro w1 ⟨⟨_, f3⟩, rfl⟩
      clear d10 d11 d12 dq e0 eq_ x2 xq2 hinst HC
      go_wp2_with fail
      go_ret
      exact ⟨by rw [← HQ.out]; simp, HF0.out.trans f3⟩
    | true =>
      obtain ⟨y, hy⟩ : ∃ y, m.get ofr = some y := by
        cases hg : m.get ofr with
        | none => unfold Gm.kind at hq1; rw [hg] at hq1; simp at hq1
        | some y => exact ⟨y, rfl⟩
      have hl : ∀ q : ClN W0, (Instr.lookup 73 (.map (some m.M)) (.int .i64 ofr) false).run Try.prog q.w = .ok (.pointer (some ⟨y.1, 0, none⟩)) q.w := fun q => by
        have := gook_thing (hok0.no q.fr) ofr
        rw [hy] at this
        exact this
      have x10 : ∀ q : ClN W0, q.w.cell? ⟨y.1, 11, none⟩ = some (.int .i64 y.2.byr) := fun q => (gbox_at ((hok0.no q.fr).box _ (Gm.get_mem hy))).2.2.2.1
      have xq : ∀ q : ClN W0, y.1 < q.w.heap.size := fun q => ((hok0.no q.fr).box _ (Gm.get_mem hy)).lt
      have hq := HQ.out
      rw [hq0, hq1, hy] at hq
      simp only at hq
      clear HQ
      have HQ := hide hq
      clear hq
      generalize m.kind ofr = kd at *
      generalize y.2.byr = yo at *
      clear hok0 hy
      refine wp_region_quiet_cl (fun W' => ∃ q : ClN W0, W' = q.w) (by kernel_rfl) (by kernel_rfl) ⟨⟨_, (Fr.refl No W0).drew⟩, rfl⟩ ?_
      repeat (go_big_quiet_step ((go_at_call 43; exact HC.out _)))
      refine wpQuiet_nil ?_
      rintro w1 ⟨⟨_, f3⟩, rfl⟩
      clear d10 d11 d12 dq e0 eq_ x2 xq2 hinst HC hl x10 xq
      go_wp2_with fail
      go_ret
      exact ⟨by rw [← HQ.out]; simp, HF0.out.trans f3⟩

set_option maxRecDepth 100000 in
set_option maxHeartbeats 4000000 in
theorem gfits14 (h : m.Ok lo W) (home k n : Int) (s : ByteArray) (A : Option Addr) (len cap : Nat) (r0 : Int) (VA : Option Addr) (vl vc : Nat) (n1 lost ofr byr set : Int) (full : Bool) (CA : Option Addr) (cl cc : Nat) (NA : Option Addr) (nl nc : Nat) (r : Int) {a : Nat} (ha : m.Abl ofr a) :
    Calls Try.prog 69 #[.pointer (some ⟨m.wb, 0, none⟩), .int .i64 r, .agg (c16 14 home k n s A len cap r0 VA vl vc n1 lost ofr byr set full CA cl cc NA nl nc)] W fun e w' => e = .returned (.bool ((m.get ofr).isSome && m.kind ofr != 14 && set != (a : Int) && bits .andNot .u8 set (a : Int) == 0 && (match m.fget ofr set with | some f => f == r | none => true))) ∧ Fr No W w' := by
  have hb0 := (Blk.new W 23 #[.pointer (some ⟨m.wb, 0, none⟩)]).alloc (.cells (c16 14 home k n s A len cap r0 VA vl vc n1 lost ofr byr set full CA cl cc NA nl nc) 83)
  have hb1 := Blk.new' (W.alloc (.cells #[.pointer (some ⟨m.wb, 0, none⟩)] 23)) 83 (c16 14 home k n s A len cap r0 VA vl vc n1 lost ofr byr set full CA cl cc NA nl nc) (g := W.heap.size + 1) (by simp)
  have hf0 := ((Fr.refl No W).alloc (.cells #[.pointer (some ⟨m.wb, 0, none⟩)] 23)).alloc (.cells (c16 14 home k n s A len cap r0 VA vl vc n1 lost ofr byr set full CA cl cc NA nl nc) 83)
  obtain ⟨ans, hans⟩ : ∃ q, ((m.get ofr).isSome && m.kind ofr != 14 && set != (a : Int) && bits .andNot .u8 set (a : Int) == 0 && (match m.fget ofr set with | some f => f == r | none => true)) = q := ⟨_, rfl⟩
  rw [hans]
  have HQ := hide hans
  clear hans
  have HA := hide (Able_w (h.no hf0) ha)
  unfold c16 at HA
  clear ha
  unfold c16 at hb0 hb1 hf0 ⊢
  have HB0 := hide hb0
  have HB1 := hide hb1
  have HF0 := hide hf0
  have HOK := hide h
  obtain ⟨d0, d1, d2, d3, d4, d5, d6, d7, d8, d9, d10, d11, d12, d13, d14, d15⟩ := hb1.cells16
  have dq := hb1.lt
  have e0 := hb0.cell 0
  have eq_ := hb0.lt
  simp only [List.getElem?_toArray, List.getElem?_cons_zero] at e0
  clear hb0 hb1 hf0 h
  go_enter Try.func69, Try.ntmps69
  go_wp2_with fail
  generalize World.alloc (World.alloc W _) _ = W0 at *
  refine HA.out.mono ?_
  rintro e wA ⟨rfl, fA⟩
  have fA' := HF0.out.trans fA
  have hokA := HOK.out.no fA'
  have hbA := HB1.out.fr fA fun h => h
  have hb2A := HB0.out.fr fA fun h => h
  have HIs := hide fun W' (f : Fr No wA W') => gIs_w (hokA.no f) ofr
  have HKd := hide fun W' (f : Fr No wA W') => gKind_w (hokA.no f) ofr
  clear d0 d1 d2 d3 d4 d5 d6 d7 d8 d9 d10 d11 d12 d13 d14 d15 dq e0 eq_
  have d10 : ∀ q : ClN wA, q.w.cell? ⟨W.heap.size + 1, 10, none⟩ = some (.int .i64 ofr) := fun q => (hbA.fr q.fr fun h => h).cell 10
  have d12 : ∀ q : ClN wA, q.w.cell? ⟨W.heap.size + 1, 12, none⟩ = some (.int .u8 set) := fun q => (hbA.fr q.fr fun h => h).cell 12
  have dq : ∀ q : ClN wA, W.heap.size + 1 < q.w.heap.size := fun q => (hbA.fr q.fr fun h => h).lt
  have e0 : ∀ q : ClN wA, q.w.cell? ⟨W.heap.size, 0, none⟩ = some (.pointer (some ⟨m.wb, 0, none⟩)) := fun q => (hb2A.fr q.fr fun h => h).cell 0
  have eq_ : ∀ q : ClN wA, W.heap.size < q.w.heap.size := fun q => (hb2A.fr q.fr fun h => h).lt
  have x3 : ∀ q : ClN wA, q.w.cell? ⟨m.wb, 3, none⟩ = some (.map (some m.F)) := fun q => gfac_cell (hokA.no q.fr)
  have xq3 : ∀ q : ClN wA, m.wb < q.w.heap.size := fun q => (hokA.no q.fr).blk.lt
  have hinst : Nonempty (ClN wA) := ⟨⟨wA, Fr.refl No wA⟩⟩
  have hl : ∀ q : ClN wA, (Instr.lookup 74 (.map (some m.F)) (.agg #[.int .i64 ofr, .int .u8 set]) true).run Try.prog q.w = .ok (m.findV ofr set) q.w := fun q => look_fac (hokA.no q.fr) ofr set
  have HBA := hide hbA
  have HB2A := hide hb2A
  have HFA := hide fA'
  clear hokA hbA hb2A fA fA' HA
  unfold Gm.findV at hl
  generalize (m.get ofr).isSome = q1 at *
  generalize m.kind ofr = kd at *
  cases hf : m.fget ofr set with
  | none => 
    rw [hf] at hl HQ
    simp only at hl
    go_wp2_with fail
    refine wp_region_quiet_cl (fun W' => ∃ q : ClN wA, W' = q.w) (by kernel_rfl) (by kernel_rfl) ⟨⟨_, (Fr.refl No wA).drew⟩, rfl⟩ ?_
    repeat (go_big_quiet_step (fail))
    refine wpQuiet_nil ?_
    rintro w1 ⟨⟨_, f3⟩, rfl⟩
    clear d10 d12 dq e0 eq_ x3 xq3 hinst hl
    have hb := HBA.out.fr f3 fun h => h
    have hb2 := HB2A.out.fr f3 fun h => h
    obtain ⟨d0, d1, d2, d3, d4, d5, d6, d7, d8, d9, d10, d11, d12, d13, d14, d15⟩ := hb.cells16
    have dq := hb.lt
    have e0 := hb2.cell 0
    simp only [List.getElem?_toArray, List.getElem?_cons_zero] at e0
    have eq_ := hb2.lt
    have HF3 := hide (HFA.out.trans f3)
    have HI3 := hide (HIs.out _ f3)
    have HK3 := hide (HKd.out _ f3)
    clear hb hb2 f3 HIs HKd hf
    go_wp2_with fail
    refine HI3.out.mono ?_
    rintro e w' ⟨rfl, rfl⟩
    cases q1
    · go_wp2_with fail
      go_ret
      exact ⟨by rw [← HQ.out]; simp, HF3.out⟩
    · go_wp2_with fail
      refine HK3.out.mono ?_
      rintro e w' ⟨rfl, rfl⟩
      cases hk14 : (kd != 14)
      · go_wp2_with fail
        go_ret
        exact ⟨by rw [← HQ.out]; simp [*], HF3.out⟩
      · cases hsa : (set != (a : Int))
        · go_wp2_with fail
          go_ret
          exact ⟨by rw [← HQ.out]; simp [*], HF3.out⟩
        · cases han : (bits .andNot .u8 set (a : Int) == 0)
          · go_wp2_with fail
            go_ret
            exact ⟨by rw [← HQ.out]; simp [*], HF3.out⟩
          · go_wp2_with fail
            go_ret
            exact ⟨by rw [← HQ.out]; simp [*], HF3.out⟩
  | some f => 
    rw [hf] at hl HQ
    simp only at hl
    go_wp2_with fail
    refine wp_region_quiet_cl (fun W' => ∃ q : ClN wA, W' = q.w) (by kernel_rfl) (by kernel_rfl) ⟨⟨_, (Fr.refl No wA).drew⟩, rfl⟩ ?_
    repeat (go_big_quiet_step (fail))
    refine wpQuiet_nil ?_
    rintro w1 ⟨⟨_, f3⟩, rfl⟩
    clear d10 d12 dq e0 eq_ x3 xq3 hinst hl
    have hb := HBA.out.fr f3 fun h => h
    have hb2 := HB2A.out.fr f3 fun h => h
    obtain ⟨d0, d1, d2, d3, d4, d5, d6, d7, d8, d9, d10, d11, d12, d13, d14, d15⟩ := hb.cells16
    have dq := hb.lt
    have e0 := hb2.cell 0
    simp only [List.getElem?_toArray, List.getElem?_cons_zero] at e0
    have eq_ := hb2.lt
    have HF3 := hide (HFA.out.trans f3)
    have HI3 := hide (HIs.out _ f3)
    have HK3 := hide (HKd.out _ f3)
    clear hb hb2 f3 HIs HKd hf
    go_wp2_with fail
    refine HI3.out.mono ?_
    rintro e w' ⟨rfl, rfl⟩
    cases q1
    · go_wp2_with fail
      go_ret
      exact ⟨by rw [← HQ.out]; simp, HF3.out⟩
    · go_wp2_with fail
      refine HK3.out.mono ?_
      rintro e w' ⟨rfl, rfl⟩
      cases hk14 : (kd != 14)
      · go_wp2_with fail
        go_ret
        exact ⟨by rw [← HQ.out]; simp [*], HF3.out⟩
      · cases hsa : (set != (a : Int))
        · go_wp2_with fail
          go_ret
          exact ⟨by rw [← HQ.out]; simp [*], HF3.out⟩
        · cases han : (bits .andNot .u8 set (a : Int) == 0)
          · go_wp2_with fail
            go_ret
            exact ⟨by rw [← HQ.out]; simp [*], HF3.out⟩
          · go_wp2_with fail
            go_ret
            exact ⟨by rw [← HQ.out]; simp [*], HF3.out⟩
end

end Go.Proofs.Ytnddfiohofnbaaa

/- Expressions and code: how many parts, how deep, how many statements; whether they may be. No program in sight. -/
namespace Go.Proofs.Ytnddfiohofnbaaa
open Go.RowKit

/-- How many parts an expression has. -/
def G.esz : G → Nat
  | .mk _ subs => 1 + (subs.attach.map fun s => (s.1.2.attach.map fun x => G.esz x.1).sum).sum
termination_by g => g
decreasing_by
  have h1 := List.sizeOf_lt_of_mem s.2
  have h2 := List.sizeOf_lt_of_mem x.2
  obtain ⟨⟨A, l⟩, hs⟩ := s
  simp at h1 h2 ⊢
  omega

theorem G.esz_one (c : List Value) (A : Option Addr) (l : List G) : (G.mk c [(A, l)]).esz = 1 + (l.map G.esz).sum := by
  rw [G.esz]
  simp

def kindOf : List Value → Int
  | .int _ k :: _ => k
  | _ => 0

/-- How deep it is nested. -/
def G.edp : G → Nat
  | .mk c subs => if kindOf c ≠ 3 ∧ subs.all (fun s => s.2.isEmpty) = true then 0 else 1 + top (subs.attach.flatMap fun s => s.1.2.attach.map fun x => G.edp x.1)
termination_by g => g
decreasing_by
  have h1 := List.sizeOf_lt_of_mem s.2
  have h2 := List.sizeOf_lt_of_mem x.2
  obtain ⟨⟨A, l⟩, hs⟩ := s
  simp at h1 h2 ⊢
  omega

theorem G.edp_one (k : Int) (c : List Value) (A : Option Addr) (l : List G) : (G.mk (.int .u8 k :: c) [(A, l)]).edp = if k ≠ 3 ∧ l = [] then 0 else 1 + top (l.map G.edp) := by
  rw [G.edp]
  simp [kindOf]

theorem G.esz_pos (g : G) : 1 ≤ g.esz := by cases g; rw [G.esz]; omega

/-- May an expression be, with so many parts and so deep? -/
def G.eok (g : G) (p d : Nat) : Bool := decide (g.esz ≤ p) && decide (g.edp ≤ d)

/-- How many statements a code has. -/
def G.ssz : G → Nat
  | .mk _ subs => 1 + ((subs.attach.zipIdx).map fun s => if 2 ≤ s.2 ∧ s.2 ≤ 4 then (s.1.1.2.attach.map fun x => G.ssz x.1).sum else 0).sum
termination_by g => g
decreasing_by
  have h1 := List.sizeOf_lt_of_mem s.1.2
  have h2 := List.sizeOf_lt_of_mem x.2
  obtain ⟨⟨⟨A, l⟩, hs⟩, i⟩ := s
  simp at h1 h2 ⊢
  omega

theorem G.ssz_six (c : List Value) (A1 A2 A3 A4 A5 A6 : Option Addr) (l1 l2 l3 l4 l5 l6 : List G) :
    (G.mk c [(A1, l1), (A2, l2), (A3, l3), (A4, l4), (A5, l5), (A6, l6)]).ssz = 1 + ((l3.map G.ssz).sum + ((l4.map G.ssz).sum + (l5.map G.ssz).sum)) := by
  rw [G.ssz]
  simp

def stOk (c : List Value) (subs : List (Option Addr × List G)) : Bool :=
  match c, subs with
  | [_, _, _, _, _, k1, n1, s1, x1, k2, n2, s2, x2, _, _, _, _], [(A1, l1), (A2, l2), _, _, _, (_, l6)] => decide (l6.length ≤ 64) && ((G.mk [k1, n1, s1, x1] [(A1, l1)]).eok 512 16 && (G.mk [k2, n2, s2, x2] [(A2, l2)]).eok 512 16)
  | _, _ => false

/-- Are a statement's expressions and lists short enough, and those of the statements in it? -/
def G.sok : G → Bool
  | .mk c subs => stOk c subs && ((subs.attach.zipIdx).all fun s => if 2 ≤ s.2 ∧ s.2 ≤ 4 then s.1.1.2.attach.all (fun x => G.sok x.1) else true)
termination_by g => g
decreasing_by
  have h1 := List.sizeOf_lt_of_mem s.1.2
  have h2 := List.sizeOf_lt_of_mem x.2
  obtain ⟨⟨⟨A, l⟩, hs⟩, i⟩ := s
  simp at h1 h2 ⊢
  omega

theorem G.sok_six (op : Int) (nm sc : ByteArray) (ab wh : Int) (k1 n1 : Int) (s1 : ByteArray) (A1 : Option Addr) (m1 z1 : Nat) (k2 n2 : Int) (s2 : ByteArray) (A2 : Option Addr) (m2 z2 : Nat) (A3 : Option Addr) (m3 z3 : Nat) (A4 : Option Addr) (m4 z4 : Nat) (A5 : Option Addr) (m5 z5 : Nat) (A6 : Option Addr) (m6 z6 : Nat) (l1 l2 l3 l4 l5 l6 : List G) :
    (G.mk (stC op nm sc ab wh k1 n1 s1 A1 m1 z1 k2 n2 s2 A2 m2 z2 A3 m3 z3 A4 m4 z4 A5 m5 z5 A6 m6 z6) [(A1, l1), (A2, l2), (A3, l3), (A4, l4), (A5, l5), (A6, l6)]).sok =
      (decide (l6.length ≤ 64) && ((G.mk [.int .u8 k1, .int .i64 n1, .string s1, .slice A1 m1 z1] [(A1, l1)]).eok 512 16 && (G.mk [.int .u8 k2, .int .i64 n2, .string s2, .slice A2 m2 z2] [(A2, l2)]).eok 512 16) && (l3.all G.sok && (l4.all G.sok && l5.all G.sok))) := by
  rw [G.sok]
  have h : ∀ l : List G, (l.attach.all fun x => G.sok x.1) = l.all G.sok := fun l => by simp
  simp only [stC, stOk, List.attach_cons, List.attach_nil, List.map_cons, List.map_nil, List.zipIdx_cons, List.zipIdx_nil, List.all_cons, List.all_nil, h]
  simp

/-- So many of a list's parts, one after the other. -/
def esT (l : List G) (j : Nat) : Nat := ((l.map G.esz).take j).sum
def ssT (l : List G) (j : Nat) : Nat := ((l.map G.ssz).take j).sum

theorem esT_succ (l : List G) (j : Nat) (h : j < l.length) : esT l (j + 1) = esT l j + l[j].esz := by
  unfold esT; rw [sum_take_succ _ _ (by simpa using h)]; simp
theorem esT_all (l : List G) : esT l l.length = (l.map G.esz).sum := by
  unfold esT; rw [List.take_of_length_le (by simp)]
theorem esT_le (l : List G) (j : Nat) : esT l j ≤ (l.map G.esz).sum := sum_take_le _ _
theorem ssT_succ (l : List G) (j : Nat) (h : j < l.length) : ssT l (j + 1) = ssT l j + l[j].ssz := by
  unfold ssT; rw [sum_take_succ _ _ (by simpa using h)]; simp
theorem ssT_all (l : List G) : ssT l l.length = (l.map G.ssz).sum := by
  unfold ssT; rw [List.take_of_length_le (by simp)]
theorem ssT_le (l : List G) (j : Nat) : ssT l j ≤ (l.map G.ssz).sum := sum_take_le _ _

/-- What little leaves: the number of parts met lies in the block L. -/
def LitP (L p d : Nat) (g : G) (w : World) (e : Ending) (w' : World) : Prop :=
  e = .returned (.bool (g.eok (512 - p) d)) ∧ Fr (· = L) w w' ∧ (g.eok (512 - p) d = true → w'.cell? ⟨L, 0, none⟩ = some (.int .i64 ((p + g.esz : Nat) : Int)) ∧ w'.frozen? ⟨L, 0, none⟩ = false)

end Go.Proofs.Ytnddfiohofnbaaa

/- slices.Clone of rows of whatever type. -/
namespace Go.Proofs.Ytnddfiohofnbaaa
open Go.RowKit

/-- Cells that lie one behind the other. -/
structure Lies (w : World) (lo hi : Nat) (A : Option Addr) (n size : Nat) (xs : List Value) : Prop where
  len : xs.length = n * size
  one : ∀ u ∈ xs, u.oneCell' = true
  at_ : n ≠ 0 → ∃ b o, A = some ⟨b, o, none⟩ ∧ lo ≤ b ∧ b < hi ∧ ∀ j u, xs[j]? = some u → w.cell? ⟨b, o + j, none⟩ = some u

theorem fr_grownG {w w' : World} {row : Option Nat} (h : w.grownBy w' row) : Fr (fun i => some i = row) w w' := (Fr.refl _ w).grown h fun _k hk _ => hk.symm

/-- What a clone leaves. -/
def CloneP (e : TypeId) (size n : Nat) (xs : List Value) (w : World) (en : Ending) (w' : World) : Prop :=
  ∃ A c, en = .returned (.slice A n c) ∧ w'.ownsRow w.heap.size e size (.slice A n c) n xs ∧ Fr No w w'

/-- append(S{}, s...). -/
theorem run_clone_lies {P : Program} (t e ty : TypeId) (i0 : TypeInfo) (z : Value) (size bytes : Nat) (ht : P.underlying t = some (.slice e)) (hi : P.info? e = some i0) (hz : i0.zero = some z)
    (hsize : i0.size = size) (hby : i0.bytes = bytes) (hzs : z.cells.size = size) (hsz : 0 < size) (w : World) (lo hi' : Nat) (a : Addr) (n cap : Nat) (xs : List Value) (h : Lies w lo hi' (some a) n size xs) (hh : hi' ≤ w.heap.size) (hm : n ≤ maxLen) (hb : n * bytes ≤ 140737488355328) :
    ∃ A c w', (Builtin.append_ #[t, t] ty #[.slice (some ⟨w.heap.size, 0, none⟩) 0 0, .slice (some a) n cap]).run P (w.alloc (.cells #[] e)) = .ok (.slice A n c) w' ∧ w'.ownsRow w.heap.size e size (.slice A n c) n xs ∧ Fr No w w' := by
  have fr := (Fr.refl No w).alloc (.cells #[] e)
  have hown : (w.alloc (.cells #[] e)).ownsRow w.heap.size e size (.slice (some ⟨w.heap.size, 0, none⟩) 0 0) 0 [] :=
    ⟨by simp, .inr ⟨w.heap.size, 0, #[], rfl, Nat.le_refl _, heap_alloc_new w _, Nat.le_refl _, by unfold maxLen; omega, by simp, by simp⟩⟩
  by_cases h0 : n = 0
  · subst h0
    obtain rfl : xs = [] := List.eq_nil_of_length_eq_zero (by have := h.len; simpa using this)
    exact ⟨some ⟨w.heap.size, 0, none⟩, 0, _, run_append_nothing (P := P) _ t t ty e i0 ht hi (some ⟨w.heap.size, 0, none⟩) 0 0 (Nat.le_refl _) _ (Src.ofSlice _ ht a 0 cap [] (by simp) (by simp) (by simp)), hown, fr⟩
  · obtain ⟨b, o, hA, hb0, hb1, hc⟩ := h.at_ h0
    injection hA with hA
    subst hA
    obtain ⟨g, c, w', hrun, hown', hgr, hat, hlt⟩ := run_append_lies (P := P) (w.alloc (.cells #[] e)) t ty w.heap.size e i0 z size bytes ht hi hz hsize hby hzs hsz (.slice (some ⟨w.heap.size, 0, none⟩) 0 0) 0 [] hown ⟨b, o, none⟩ n cap xs h.len (fun j u hu => by
      rw [add_at, fr.cell (b := b) (by omega) (fun h => h)]
      exact hc j u hu) h.one (by omega) (by omega) (by simpa using hb) (by simp) _ rfl
    refine ⟨some ⟨g, 0, none⟩, c, w', by simpa using hrun, by simpa using hown', fr.trans' (fr_grownG hgr) (fun i hi h => by simp [Value.ownBlock] at h; omega)⟩


theorem infoSide : (Try.prog.info? 27).map (fun i => (i.zero, i.size, i.bytes)) = some (some (.int .i64 0), 1, 8) := by kernel_rfl

set_option maxRecDepth 100000 in
theorem cloneSide (A : Option Addr) (n cap : Nat) (xs : List Value) (w : World) (lo hi : Nat) (h : Lies w lo hi A n 1 xs) (hh : hi ≤ w.heap.size) (hb : n * 8 ≤ 140737488351232) :
    Calls Try.prog 36 #[.slice A n cap] w (CloneP 27 1 n xs w) := by
  have heq := fun (w : World) (A : Option Addr) (n c : Nat) => Lib.run_eql_slice_nil (P := Try.prog) w 54 27 A n c 0 0 Try.underlying54
  cases A with
  | none =>
    obtain rfl : n = 0 := by
      by_cases hn : n = 0
      · exact hn
      · obtain ⟨b, o, hA, -⟩ := h.at_ hn
        cases hA
    obtain rfl : xs = [] := List.eq_nil_of_length_eq_zero (by have := h.len; simpa using this)
    go_enter Try.func36, Try.ntmps36
    go_wp2
    go_ret
    exact ⟨none, 0, rfl, World.ownsRow_nil _ _ _ _, Fr.refl _ _⟩
  | some a =>
    obtain ⟨i0, hi0, hz0, hz1, hz2⟩ := info_parts infoSide
    obtain ⟨A, c, w', hrun, ho, hf⟩ := run_clone_lies (P := Try.prog) 54 27 54 i0 _ 1 8 Try.underlying54 hi0 hz0 hz1 hz2 rfl (by omega) w lo hi a n cap xs h hh (by unfold maxLen; omega) (by omega)
    have HO := hide ho
    have HF := hide hf
    clear ho hf h hi0 hz0 hz1 hz2
    go_enter Try.func36, Try.ntmps36
    go_wp2_with (at_builtin; (refine wpList_plain rfl fun K hK => ?_); unfold Oper.wp; simp [execOp, resolve, invoke, builtin, hrun, Result.andThen, Act.eval]; refine hK _ _ ?_)
    go_ret
    exact ⟨A, c, rfl, HO.out, HF.out⟩

theorem infoInt : (Try.prog.info? 3).map (fun i => (i.zero, i.size, i.bytes)) = some (some (.int .i64 0), 1, 8) := by kernel_rfl

set_option maxRecDepth 100000 in
theorem cloneInt (A : Option Addr) (n cap : Nat) (xs : List Value) (w : World) (lo hi : Nat) (h : Lies w lo hi A n 1 xs) (hh : hi ≤ w.heap.size) (hb : n * 8 ≤ 140737488351232) :
    Calls Try.prog 85 #[.slice A n cap] w (CloneP 3 1 n xs w) := by
  have heq := fun (w : World) (A : Option Addr) (n c : Nat) => Lib.run_eql_slice_nil (P := Try.prog) w 43 3 A n c 0 0 Try.underlying43
  cases A with
  | none =>
    obtain rfl : n = 0 := by
      by_cases hn : n = 0
      · exact hn
      · obtain ⟨b, o, hA, -⟩ := h.at_ hn
        cases hA
    obtain rfl : xs = [] := List.eq_nil_of_length_eq_zero (by have := h.len; simpa using this)
    go_enter Try.func85, Try.ntmps85
    go_wp2
    go_ret
    exact ⟨none, 0, rfl, World.ownsRow_nil _ _ _ _, Fr.refl _ _⟩
  | some a =>
    obtain ⟨i0, hi0, hz0, hz1, hz2⟩ := info_parts infoInt
    obtain ⟨A, c, w', hrun, ho, hf⟩ := run_clone_lies (P := Try.prog) 43 3 43 i0 _ 1 8 Try.underlying43 hi0 hz0 hz1 hz2 rfl (by omega) w lo hi a n cap xs h hh (by unfold maxLen; omega) (by omega)
    have HO := hide ho
    have HF := hide hf
    clear ho hf h hi0 hz0 hz1 hz2
    go_enter Try.func85, Try.ntmps85
    go_wp2_with (at_builtin; (refine wpList_plain rfl fun K hK => ?_); unfold Oper.wp; simp [execOp, resolve, invoke, builtin, hrun, Result.andThen, Act.eval]; refine hK _ _ ?_)
    go_ret
    exact ⟨A, c, rfl, HO.out, HF.out⟩

theorem infoVal : (Try.prog.info? 37).map (fun i => (i.zero, i.size, i.bytes)) = some (some (.agg #[.int .u8 0, .int .i64 0, .string ⟨#[]⟩, .slice none 0 0, .int .i64 0]), 5, 64) := by kernel_rfl

set_option maxRecDepth 100000 in
theorem cloneVal (A : Option Addr) (n cap : Nat) (xs : List Value) (w : World) (lo hi : Nat) (h : Lies w lo hi A n 5 xs) (hh : hi ≤ w.heap.size) (hb : n * 64 ≤ 140737488351232) :
    Calls Try.prog 103 #[.slice A n cap] w (CloneP 37 5 n xs w) := by
  have heq := fun (w : World) (A : Option Addr) (n c : Nat) => Lib.run_eql_slice_nil (P := Try.prog) w 35 37 A n c 0 0 Try.underlying35
  cases A with
  | none =>
    obtain rfl : n = 0 := by
      by_cases hn : n = 0
      · exact hn
      · obtain ⟨b, o, hA, -⟩ := h.at_ hn
        cases hA
    obtain rfl : xs = [] := List.eq_nil_of_length_eq_zero (by have := h.len; simpa using this)
    go_enter Try.func103, Try.ntmps103
    go_wp2
    go_ret
    exact ⟨none, 0, rfl, World.ownsRow_nil _ _ _ _, Fr.refl _ _⟩
  | some a =>
    obtain ⟨i0, hi0, hz0, hz1, hz2⟩ := info_parts infoVal
    obtain ⟨A, c, w', hrun, ho, hf⟩ := run_clone_lies (P := Try.prog) 35 37 35 i0 _ 5 64 Try.underlying35 hi0 hz0 hz1 hz2 rfl (by omega) w lo hi a n cap xs h hh (by unfold maxLen; omega) (by omega)
    have HO := hide ho
    have HF := hide hf
    clear ho hf h hi0 hz0 hz1 hz2
    go_enter Try.func103, Try.ntmps103
    go_wp2_with (at_builtin; (refine wpList_plain rfl fun K hK => ?_); unfold Oper.wp; simp [execOp, resolve, invoke, builtin, hrun, Result.andThen, Act.eval]; refine hK _ _ ?_)
    go_ret
    exact ⟨A, c, rfl, HO.out, HF.out⟩

theorem infoNam : (Try.prog.info? 139).map (fun i => (i.zero, i.size, i.bytes)) = some (some (.agg #[.string ⟨#[]⟩, .int .u8 0, .int .i64 0, .string ⟨#[]⟩, .slice none 0 0, .int .i64 0]), 6, 80) := by kernel_rfl

set_option maxRecDepth 100000 in
theorem cloneNam (A : Option Addr) (n cap : Nat) (xs : List Value) (w : World) (lo hi : Nat) (h : Lies w lo hi A n 6 xs) (hh : hi ≤ w.heap.size) (hb : n * 80 ≤ 140737488351232) :
    Calls Try.prog 104 #[.slice A n cap] w (CloneP 139 6 n xs w) := by
  have heq := fun (w : World) (A : Option Addr) (n c : Nat) => Lib.run_eql_slice_nil (P := Try.prog) w 81 139 A n c 0 0 Try.underlying81
  cases A with
  | none =>
    obtain rfl : n = 0 := by
      by_cases hn : n = 0
      · exact hn
      · obtain ⟨b, o, hA, -⟩ := h.at_ hn
        cases hA
    obtain rfl : xs = [] := List.eq_nil_of_length_eq_zero (by have := h.len; simpa using this)
    go_enter Try.func104, Try.ntmps104
    go_wp2
    go_ret
    exact ⟨none, 0, rfl, World.ownsRow_nil _ _ _ _, Fr.refl _ _⟩
  | some a =>
    obtain ⟨i0, hi0, hz0, hz1, hz2⟩ := info_parts infoNam
    obtain ⟨A, c, w', hrun, ho, hf⟩ := run_clone_lies (P := Try.prog) 81 139 81 i0 _ 6 80 Try.underlying81 hi0 hz0 hz1 hz2 rfl (by omega) w lo hi a n cap xs h hh (by unfold maxLen; omega) (by omega)
    have HO := hide ho
    have HF := hide hf
    clear ho hf h hi0 hz0 hz1 hz2
    go_enter Try.func104, Try.ntmps104
    go_wp2_with (at_builtin; (refine wpList_plain rfl fun K hK => ?_); unfold Oper.wp; simp [execOp, resolve, invoke, builtin, hrun, Result.andThen, Act.eval]; refine hK _ _ ?_)
    go_ret
    exact ⟨A, c, rfl, HO.out, HF.out⟩

theorem infoExp : (Try.prog.info? 167).map (fun i => (i.zero, i.size, i.bytes)) = some (some (.agg #[.int .u8 0, .int .i64 0, .string ⟨#[]⟩, .slice none 0 0]), 4, 56) := by kernel_rfl

set_option maxRecDepth 100000 in
theorem cloneExp (A : Option Addr) (n cap : Nat) (xs : List Value) (w : World) (lo hi : Nat) (h : Lies w lo hi A n 4 xs) (hh : hi ≤ w.heap.size) (hb : n * 56 ≤ 140737488351232) :
    Calls Try.prog 128 #[.slice A n cap] w (CloneP 167 4 n xs w) := by
  have heq := fun (w : World) (A : Option Addr) (n c : Nat) => Lib.run_eql_slice_nil (P := Try.prog) w 165 167 A n c 0 0 Try.underlying165
  cases A with
  | none =>
    obtain rfl : n = 0 := by
      by_cases hn : n = 0
      · exact hn
      · obtain ⟨b, o, hA, -⟩ := h.at_ hn
        cases hA
    obtain rfl : xs = [] := List.eq_nil_of_length_eq_zero (by have := h.len; simpa using this)
    go_enter Try.func128, Try.ntmps128
    go_wp2
    go_ret
    exact ⟨none, 0, rfl, World.ownsRow_nil _ _ _ _, Fr.refl _ _⟩
  | some a =>
    obtain ⟨i0, hi0, hz0, hz1, hz2⟩ := info_parts infoExp
    obtain ⟨A, c, w', hrun, ho, hf⟩ := run_clone_lies (P := Try.prog) 165 167 165 i0 _ 4 56 Try.underlying165 hi0 hz0 hz1 hz2 rfl (by omega) w lo hi a n cap xs h hh (by unfold maxLen; omega) (by omega)
    have HO := hide ho
    have HF := hide hf
    clear ho hf h hi0 hz0 hz1 hz2
    go_enter Try.func128, Try.ntmps128
    go_wp2_with (at_builtin; (refine wpList_plain rfl fun K hK => ?_); unfold Oper.wp; simp [execOp, resolve, invoke, builtin, hrun, Result.andThen, Act.eval]; refine hK _ _ ?_)
    go_ret
    exact ⟨A, c, rfl, HO.out, HF.out⟩

theorem infoStr : (Try.prog.info? 9).map (fun i => (i.zero, i.size, i.bytes)) = some (some (.string ⟨#[]⟩), 1, 16) := by kernel_rfl

set_option maxRecDepth 100000 in
theorem cloneStr (A : Option Addr) (n cap : Nat) (xs : List Value) (w : World) (lo hi : Nat) (h : Lies w lo hi A n 1 xs) (hh : hi ≤ w.heap.size) (hb : n * 16 ≤ 140737488351232) :
    Calls Try.prog 122 #[.slice A n cap] w (CloneP 9 1 n xs w) := by
  have heq := fun (w : World) (A : Option Addr) (n c : Nat) => Lib.run_eql_slice_nil (P := Try.prog) w 168 9 A n c 0 0 Try.underlying168
  cases A with
  | none =>
    obtain rfl : n = 0 := by
      by_cases hn : n = 0
      · exact hn
      · obtain ⟨b, o, hA, -⟩ := h.at_ hn
        cases hA
    obtain rfl : xs = [] := List.eq_nil_of_length_eq_zero (by have := h.len; simpa using this)
    go_enter Try.func122, Try.ntmps122
    go_wp2
    go_ret
    exact ⟨none, 0, rfl, World.ownsRow_nil _ _ _ _, Fr.refl _ _⟩
  | some a =>
    obtain ⟨i0, hi0, hz0, hz1, hz2⟩ := info_parts infoStr
    obtain ⟨A, c, w', hrun, ho, hf⟩ := run_clone_lies (P := Try.prog) 168 9 168 i0 _ 1 16 Try.underlying168 hi0 hz0 hz1 hz2 rfl (by omega) w lo hi a n cap xs h hh (by unfold maxLen; omega) (by omega)
    have HO := hide ho
    have HF := hide hf
    clear ho hf h hi0 hz0 hz1 hz2
    go_enter Try.func122, Try.ntmps122
    go_wp2_with (at_builtin; (refine wpList_plain rfl fun K hK => ?_); unfold Oper.wp; simp [execOp, resolve, invoke, builtin, hrun, Result.andThen, Act.eval]; refine hK _ _ ?_)
    go_ret
    exact ⟨A, c, rfl, HO.out, HF.out⟩

theorem infoStm : (Try.prog.info? 170).map (fun i => (i.zero, i.size, i.bytes)) = some (some (.agg #[.int .u8 0, .string ⟨#[]⟩, .string ⟨#[]⟩, .int .u8 0, .int .u8 0, .int .u8 0, .int .i64 0, .string ⟨#[]⟩, .slice none 0 0, .int .u8 0, .int .i64 0, .string ⟨#[]⟩, .slice none 0 0, .slice none 0 0, .slice none 0 0, .slice none 0 0, .slice none 0 0]), 17, 256) := by kernel_rfl

set_option maxRecDepth 100000 in
theorem cloneStm (A : Option Addr) (n cap : Nat) (xs : List Value) (w : World) (lo hi : Nat) (h : Lies w lo hi A n 17 xs) (hh : hi ≤ w.heap.size) (hb : n * 256 ≤ 140737488351232) :
    Calls Try.prog 120 #[.slice A n cap] w (CloneP 170 17 n xs w) := by
  have heq := fun (w : World) (A : Option Addr) (n c : Nat) => Lib.run_eql_slice_nil (P := Try.prog) w 80 170 A n c 0 0 Try.underlying80
  cases A with
  | none =>
    obtain rfl : n = 0 := by
      by_cases hn : n = 0
      · exact hn
      · obtain ⟨b, o, hA, -⟩ := h.at_ hn
        cases hA
    obtain rfl : xs = [] := List.eq_nil_of_length_eq_zero (by have := h.len; simpa using this)
    go_enter Try.func120, Try.ntmps120
    go_wp2
    go_ret
    exact ⟨none, 0, rfl, World.ownsRow_nil _ _ _ _, Fr.refl _ _⟩
  | some a =>
    obtain ⟨i0, hi0, hz0, hz1, hz2⟩ := info_parts infoStm
    obtain ⟨A, c, w', hrun, ho, hf⟩ := run_clone_lies (P := Try.prog) 80 170 80 i0 _ 17 256 Try.underlying80 hi0 hz0 hz1 hz2 rfl (by omega) w lo hi a n cap xs h hh (by unfold maxLen; omega) (by omega)
    have HO := hide ho
    have HF := hide hf
    clear ho hf h hi0 hz0 hz1 hz2
    go_enter Try.func120, Try.ntmps120
    go_wp2_with (at_builtin; (refine wpList_plain rfl fun K hK => ?_); unfold Oper.wp; simp [execOp, resolve, invoke, builtin, hrun, Result.andThen, Act.eval]; refine hK _ _ ?_)
    go_ret
    exact ⟨A, c, rfl, HO.out, HF.out⟩

end Go.Proofs.Ytnddfiohofnbaaa

/- Texts joined: Wg13, Wg17. -/
import Derived.Test.YtlejelbefmkakaaGreatJn23
import Derived.LoopN
/- Layer 12: cut, IsCut, Cut. -/
namespace Go.Proofs.YtlejelbefmkakaaGreat
open Go.RowKit

section
variable {m : Wm} {lo : Nat} {W : World}

theorem WhatZ (h : m.Ok lo W) {r : Int} {g : Nat} {kind home n lost ofr byr set : Int} {full : Bool} (hg : m.get r = some (g, ⟨kind, home, T.zero, n, lost, ofr, byr, set, full⟩)) :
    Calls Tryz.prog 89 #[.pointer (some ⟨m.wb, 0, none⟩), .int .i64 r] W fun e w' => e = .returned (.tuple #[.agg #[.int .u8 kind, .int .i64 home, .int .u8 0, .int .i64 0, .string ⟨#[]⟩, .slice none 0 0, .int .i64 0, .slice none 0 0, .int .i64 n, .int .i64 lost, .int .i64 ofr, .int .i64 byr, .int .u8 set, .bool full, .slice none 0 0, .slice none 0 0], .int .i64 0]) ∧ Fr No W w' := by
  refine (What_ok h hg (by show T.zero.v.may = true; rw [T.zero_v, zero_may])).mono ?_
  rintro e w' ⟨t', rfl, hv, hsh, f⟩
  obtain rfl := zero_of hsh (hv.trans T.zero_v)
  exact ⟨rfl, f⟩

set_option maxRecDepth 100000 in
set_option maxHeartbeats 4000000 in
/-- Whether a gate is cut. -/
theorem cut_w (h : m.Ok lo W) {r : Int} {g gs : Nat} {home ofr byr home2 of2 : Int} {full : Bool} (hg : m.get r = some (g, ⟨15, home, T.zero, 0, 0, ofr, byr, 0, false⟩)) (hs : m.get byr = some (gs, ⟨13, home2, T.zero, 0, 0, of2, 0, 0, full⟩)) :
    Calls Tryz.prog 100 #[.pointer (some ⟨m.wb, 0, none⟩), .int .i64 r] W fun e w' => e = .returned (.bool full) ∧ Fr No W w' := by
  have H1 := hide (WhatZ h hg)
  have H2 := hide fun w' (f : Fr No W w') => WhatZ (h.no f) hs
  clear h hg hs
  go_enter Tryz.func100, Tryz.ntmps100
  go_wp2_with fail
  refine H1.out.mono ?_
  rintro e w1 ⟨rfl, f1⟩
  have HF1 := hide f1
  clear H1 f1
  go_wp2_with fail
  have hb := Blk.new w1 138 #[.int .u8 15, .int .i64 home, .int .u8 0, .int .i64 0, .string ⟨#[]⟩, .slice none 0 0, .int .i64 0, .slice none 0 0, .int .i64 0, .int .i64 0, .int .i64 ofr, .int .i64 byr, .int .u8 0, .bool false, .slice none 0 0, .slice none 0 0]
  have fe := (Fr.refl No w1).alloc (.cells #[.int .u8 15, .int .i64 home, .int .u8 0, .int .i64 0, .string ⟨#[]⟩, .slice none 0 0, .int .i64 0, .slice none 0 0, .int .i64 0, .int .i64 0, .int .i64 ofr, .int .i64 byr, .int .u8 0, .bool false, .slice none 0 0, .slice none 0 0] 138)
  generalize hWe : World.alloc w1 _ = We at *
  have HB := hide hb
  have HFe := hide (HF1.out.trans fe)
  refine (H2.out We HFe.out).mono ?_
  rintro e w2 ⟨rfl, f2⟩
  have hb2 := HB.out.fr f2 fun h => h
  obtain ⟨d0, d1, d2, d3, d4, d5, d6, d7, d8, d9, d10, d11, d12, d13, d14, d15⟩ := hb2.cells16
  have dq := hb2.lt
  have HF2 := hide (HFe.out.trans f2)
  generalize w1.heap.size = ga at *
  clear hb hb2 fe f2 hWe H2 HB
  go_wp2_with fail
  go_ret
  refine ⟨rfl, ?_⟩
  repeat (first | with_reducible exact HF2.out | with_reducible refine Fr.alloc ?_ _ | with_reducible refine Fr.setNew ?_ (by first | (have := HF2.out.size; simp; done) | (have := HF2.out.size; simp; omega)) _)

set_option maxRecDepth 100000 in
set_option maxHeartbeats 4000000 in
/-- Whether a switch is cut. -/
theorem IsCut_w (h : m.Ok lo W) {r : Int} {gs : Nat} {home of2 : Int} {full : Bool} (hs : m.get r = some (gs, ⟨13, home, T.zero, 0, 0, of2, 0, 0, full⟩)) :
    Calls Tryz.prog 30 #[.pointer (some ⟨m.wb, 0, none⟩), .int .i64 r] W fun e w' => e = .returned (.tuple #[.bool full, .int .i64 0]) ∧ Fr No W w' := by
  have H0 := hide (gath_w h)
  have H1 := hide (WhatZ h hs)
  clear h hs
  go_enter Tryz.func30, Tryz.ntmps30
  go_wp2_with fail
  refine H0.out.mono ?_
  rintro e w' ⟨rfl, rfl⟩
  go_wp2_with fail
  refine H1.out.mono ?_
  rintro e w1 ⟨rfl, f1⟩
  have HF1 := hide f1
  clear H1 H0 f1
  go_wp2
  go_ret2
  refine ⟨rfl, ?_⟩
  repeat (first | with_reducible exact HF1.out | with_reducible refine Fr.alloc ?_ _ | with_reducible refine Fr.setNew ?_ (by first | (have := HF1.out.size; simp; done) | (have := HF1.out.size; simp; omega)) _)

/-- What Cut leaves of a switch that wasn't cut. -/
def CutRes (m : Wm) (r : Int) (home : Nat) (ofr : Int) (lo : Nat) (W : World) (e : Ending) (w' : World) : Prop :=
  e = .returned (.int .i64 0) ∧ (m.put (r - 1).toNat ⟨13, home, T.zero, 0, 0, ofr, 0, 0, true⟩).Ok lo w' ∧ Fr m.B W w'

set_option maxRecDepth 100000 in
set_option maxHeartbeats 4000000 in
theorem GCut_w (h : m.Ok lo W) (hlo : lo ≤ W.heap.size) {r : Int} {gs home : Nat} {ofr : Int} (hg : m.get r = some (gs, ⟨13, home, T.zero, 0, 0, ofr, 0, 0, false⟩)) (hs : home < m.made.length) :
    Calls Tryz.prog 37 #[.pointer (some ⟨m.wb, 0, none⟩), .int .i64 r] W (CutRes m r home ofr lo W) := by
  have H0 := hide (gath_w h)
  have H1 := hide (WhatZ h hg)
  have H2 := hide fun w' (f : Fr No W w') => Lay13_w (h.no f) (Nat.le_trans hlo f.size) hg hs
  have HB := hide fun i (hi : m.B i) => (h.lt i hi).2
  clear h hg hs
  go_enter Tryz.func37, Tryz.ntmps37
  go_wp2_with fail
  refine H0.out.mono ?_
  rintro e w' ⟨rfl, rfl⟩
  go_wp2_with fail
  refine H1.out.mono ?_
  rintro e w1 ⟨rfl, f1⟩
  have HF1 := hide f1
  have hz1 := f1.size
  clear H1 H0 f1
  go_upto_region 8 with (fail)
  go_wp2_with fail
  have fe := HF1.out.alloc (.cells #[.int .u8 13, .int .i64 (home : Int), .int .u8 0, .int .i64 0, .string ⟨#[]⟩, .slice none 0 0, .int .i64 0, .slice none 0 0, .int .i64 0, .int .i64 0, .int .i64 ofr, .int .i64 0, .int .u8 0, .bool true, .slice none 0 0, .slice none 0 0] 138)
  generalize hWe : World.alloc w1 _ = We at *
  have hc := H2.out We fe
  unfold th16 at hc
  refine hc.mono ?_
  rintro e w2 ⟨rfl, hok, f2⟩
  have HOK := hide hok
  have HF2 := hide (fe.no.trans f2)
  clear hok f2 fe hc hWe H2
  go_wp2
  go_ret
  exact ⟨rfl, HOK.out, HF2.out⟩
end

end Go.Proofs.YtlejelbefmkakaaGreat

/- Layer 12: Do, of a switch that is asked. -/
namespace Go.Proofs.YtlejelbefmkakaaGreat
open Go.RowKit

set_option maxRecDepth 100000 in
theorem one1 (W : World) : Calls Tryz.prog 90 #[.int .u8 1] W fun e w' => e = .returned (.bool true) ∧ w' = W := by
  have h1 : Calls Tryz.prog 161 #[.int .u8 1] W fun e w' => e = .returned (.bool true) ∧ w' = W := by
    go_enter Tryz.func161, Tryz.ntmps161
    go_wp2
    go_ret
    exact ⟨rfl, rfl⟩
  have h2 : Calls Tryz.prog 162 #[.int .u8 1] W fun e w' => e = .returned (.int .i64 1) ∧ w' = W := by
    go_enter Tryz.func162, Tryz.ntmps162
    go_wp2
    go_ret
    exact ⟨by kernel_rfl, rfl⟩
  go_enter Tryz.func90, Tryz.ntmps90
  go_wp2_with fail
  refine h1.mono ?_
  rintro e w' ⟨rfl, rfl⟩
  go_wp2_with fail
  refine h2.mono ?_
  rintro e w' ⟨rfl, rfl⟩
  go_wp2
  go_ret
  exact ⟨rfl, rfl⟩

set_option maxRecDepth 100000 in
set_option maxHeartbeats 8000000 in
/-- A cut switch that is asked says 1. -/
theorem GDo_w {m : Wm} {lo : Nat} {W : World} (h : m.Ok lo W) {r : Int} {gs : Nat} {home of2 : Int} (hs : m.get r = some (gs, ⟨13, home, T.zero, 0, 0, of2, 0, 0, true⟩)) :
    Calls Tryz.prog 31 #[.pointer (some ⟨m.wb, 0, none⟩), .int .i64 r, .int .u8 1, .agg #[.int .u8 0, .int .i64 0, .string ⟨#[]⟩, .slice none 0 0, .int .i64 0]] W fun e w' =>
      e = .returned (.tuple #[.agg #[.int .u8 1, .int .i64 1, .string ⟨#[]⟩, .slice none 0 0, .int .i64 0], .int .i64 0]) ∧ Fr No W w' := by
  have hR := fun W' => Refs_any T.zero W' 0 W'.heap.size ((T.zero_ow W' 0 W'.heap.size).inn) (Nat.le_refl _)
  rw [T.zero_v, zero_refs, T.zero_val] at hR
  have hM := may_zero
  rw [T.zero_val] at hM
  have hI := fun W' (f : Fr No W W') => Is_w (h.no f) r
  have hK := fun W' (f : Fr No W W') => Kind_w (h.no f) r
  have e2 : m.kind r = 13 := by unfold Wm.kind; rw [hs]; rfl
  rw [e2] at hK
  rw [hs] at hI
  have HOne := hide one1
  have HTh := hide fun W' (f : Fr No W W') => gath_w (h.no f)
  have HC := hide fun W' (f : Fr No W W') => IsCut_w (h.no f) hs
  have HM := hide hM
  have HR := hide hR
  have HI := hide hI
  have HK := hide hK
  have hf0 := (((Fr.refl No W).alloc (.cells #[.int .u8 0, .int .i64 0, .string ⟨#[]⟩, .slice none 0 0, .int .i64 0] 28)).alloc (.cells #[.int .u8 0, .int .i64 0, .string ⟨#[]⟩, .slice none 0 0, .int .i64 0] 28)).alloc (.cells #[.int .u8 0, .int .i64 0, .string ⟨#[]⟩, .slice none 0 0, .int .i64 0] 28)
  have h7 := ((Blk.new W 28 #[.int .u8 0, .int .i64 0, .string ⟨#[]⟩, .slice none 0 0, .int .i64 0]).alloc (.cells #[.int .u8 0, .int .i64 0, .string ⟨#[]⟩, .slice none 0 0, .int .i64 0] 28)).alloc (.cells #[.int .u8 0, .int .i64 0, .string ⟨#[]⟩, .slice none 0 0, .int .i64 0] 28)
  have h8 := (Blk.new' (W.alloc (.cells #[.int .u8 0, .int .i64 0, .string ⟨#[]⟩, .slice none 0 0, .int .i64 0] 28)) 28 #[.int .u8 0, .int .i64 0, .string ⟨#[]⟩, .slice none 0 0, .int .i64 0] (g := W.heap.size + 1) (by simp)).alloc (.cells #[.int .u8 0, .int .i64 0, .string ⟨#[]⟩, .slice none 0 0, .int .i64 0] 28)
  obtain ⟨v0, v1, v2, v3, v4, vf⟩ := h7.cells5
  have vq := h7.lt
  have H7 := hide h7
  have H8 := hide h8
  have HF := hide hf0
  clear hR hM hI hK e2 h7 h8 hf0 h hs
  go_enter Tryz.func31, Tryz.ntmps31
  go_wp2_with fail
  generalize World.alloc (World.alloc (World.alloc W _) _) _ = W0 at *
  refine (HTh.out W0 HF.out).mono ?_
  rintro e w' ⟨rfl, rfl⟩
  go_wp2_with fail
  refine (HOne.out w').mono ?_
  rintro e w' ⟨rfl, rfl⟩
  go_wp2_with fail
  refine (HM.out w').mono ?_
  rintro e w1 ⟨rfl, ff⟩
  replace HF := hide (HF.out.trans ff)
  replace H7 := hide (H7.out.fr ff fun h => h)
  replace H8 := hide (H8.out.fr ff fun h => h)
  clear v0 v1 v2 v3 v4 vf vq ff
  obtain ⟨v0, v1, v2, v3, v4, vf⟩ := H7.out.cells5
  have vq := H7.out.lt
  go_wp2_with fail
  refine (HI.out w1 HF.out).mono ?_
  rintro e w' ⟨rfl, rfl⟩
  go_wp2_with fail
  refine (HR.out w').mono ?_
  rintro e w2 ⟨v, rfl, hrow, ff⟩
  obtain ⟨A1, c1, rfl⟩ := owns_form hrow
  replace HF := hide (HF.out.trans ff)
  replace H7 := hide (H7.out.fr ff fun h => h)
  replace H8 := hide (H8.out.fr ff fun h => h)
  clear v0 v1 v2 v3 v4 vf vq ff hrow
  simp only [List.length_nil]
  go_wp2_with fail
  refine wp_loop_rounds 1 ?_
  rw [rounds_succ]
  go_wp2_with fail
  refine (HK.out w2 HF.out).mono ?_
  rintro e w' ⟨rfl, rfl⟩
  go_upto_region 21 with (fail)
  go_wp2_with fail
  have hbe := Blk.new w' 28 #[.int .u8 1, .int .i64 0, .string ⟨#[]⟩, .slice none 0 0, .int .i64 0]
  have fe := (Fr.refl No w').alloc (.cells #[.int .u8 1, .int .i64 0, .string ⟨#[]⟩, .slice none 0 0, .int .i64 0] 28)
  have hz := HF.out.size
  generalize hWe : World.alloc w' _ = We at *
  refine (HC.out We (HF.out.trans fe)).mono ?_
  rintro e w4 ⟨rfl, f4⟩
  have hb4 := hbe.fr f4 fun h => h
  have h84 := (H8.out.fr fe fun h => h).fr f4 fun h => h
  obtain ⟨v0, v1, v2, v3, v4, vf⟩ := hb4.cells5
  have vq := hb4.lt
  obtain ⟨u0, u1, u2, u3, u4, uf⟩ := h84.cells5
  have uq := h84.lt
  have HF4 := hide ((HF.out.trans fe).trans f4)
  have hlt8 := H8.out.lt
  generalize w'.heap.size = g13 at *
  clear hb4 h84 hbe fe f4 hWe HC
  go_wp2_with fail
  refine bodyPost_ret (v := .tuple #[.agg #[.int .u8 1, .int .i64 1, .string ⟨#[]⟩, .slice none 0 0, .int .i64 0], .int .i64 0]) (by simp [results, Tryz.results31, go_sem, *]) rfl ⟨rfl, ?_⟩
  repeat (first | with_reducible exact HF4.out | with_reducible refine Fr.setNew ?_ (by first | (simp; done) | (simp; omega)) _)

end Go.Proofs.YtlejelbefmkakaaGreat

/- Texts joined: Wo7. -/
import Derived.Test.YtlejelbefmkakaaGreatJn4
import Derived.LoopN
namespace Go.Proofs.YtlejelbefmkakaaGreat
open Go.RowKit
def OwnS (v : V) (w : World) (e : Ending) (w' : World) : Prop := ∃ t' : T, e = .returned t'.val ∧ t'.v = v ∧ t'.Sh w' w.heap.size w'.heap.size ∧ Fr No w w'
set_option maxHeartbeats 1000000 in
theorem own_w (t : T) (w : World) (lo hi : Nat) (ht : t.In w lo hi) (hh : hi ≤ w.heap.size) (hm : t.v.may = true) : Calls Tryz.prog 199 #[t.val] w (OwnS t.v w) := by
 have hO := fun w' h h' => Own2_any t w' lo hi h h'
 rw [if_pos hm, if_pos hm] at hO
 clear hm
 cases t with
 | mk k n s A cap l r =>
  rw [T.val_mk] at *
  go_enter Tryz.func199, Tryz.ntmps199
  go_wp2_with fail
  refine (hO _ (ht.no (((Fr.refl No w).alloc _).alloc _) hh) (by simp; omega)).mono ?_
  rintro e w2 ⟨t', rfl, hv, ow, fr2⟩
  have b1 := (Blk.new' (w.alloc (.cells #[.int .u8 k, .int .i64 n, .string s, .slice A l.length cap, .int .i64 r] 28)) 28 #[.int .u8 0, .int .i64 0, .string ⟨#[]⟩, .slice none 0 0, .int .i64 0] (g := w.heap.size + 1) (by simp)).fr fr2 (fun h => h)
  obtain ⟨d0, d1, d2, d3, d4, df⟩ := b1.cells5
  have hlt := b1.lt
  have hF := hide (((((Fr.refl No w).alloc _).alloc _)).trans fr2)
  have hsz := fr2.size
  simp at hsz
  have HV := hide hv
  have HO := hide ow
  clear hv ow b1 hO
  cases t' with
  | mk k2 n2 s2 A2 cap2 l2 r2 =>
   rw [T.val_mk]
   go_wp2
   refine bodyPost_ret (v := .agg #[.int .u8 k2, .int .i64 n2, .string s2, .slice A2 l2.length cap2, .int .i64 r2]) (by simp [results, Tryz.results199, go_sem, *]) rfl ?_
   have hF2 := hF.out
   have hO2 := HO.out
   simp only [World.size_alloc] at hO2
   refine ⟨T.mk k2 n2 s2 A2 cap2 l2 r2, rfl, HV.out, ?_, ?_⟩
   · refine ((hO2.fr (S := (· = w.heap.size + 1)) ?_ (fun b hb h => ?_)).more (by omega) ?_)
     · repeat (first | with_reducible exact Fr.refl _ w2 | with_reducible refine Fr.alloc ?_ _ | with_reducible refine Fr.set ?_ (by simp) _)
     · have := (T.In.blocks _ hO2.inn b hb).1
       have h' : b = w.heap.size + 1 := h
       omega
     · simp
   · repeat (first | with_reducible exact hF2 | with_reducible refine Fr.alloc ?_ _ | with_reducible refine Fr.setNew ?_ (by simp) _)
set_option maxRecDepth 100000 in
theorem cloneV_w (W : World) : Calls Tryz.prog 200 #[.slice none 0 0] W fun e w' => e = .returned (.slice none 0 0) ∧ w' = W := by
 have hq : ∀ w : World, (binOp .eql 26 (.slice none 0 0) (.slice none 0 0)).run Tryz.prog w = .ok (.bool true) w := fun w => by kernel_rfl
 go_enter Tryz.func200, Tryz.ntmps200
 go_wp2
 go_ret
 exact ⟨rfl, rfl⟩
set_option maxRecDepth 100000 in
theorem cloneN_w (W : World) : Calls Tryz.prog 201 #[.slice none 0 0] W fun e w' => e = .returned (.slice none 0 0) ∧ w' = W := by
 have hq : ∀ w : World, (binOp .eql 136 (.slice none 0 0) (.slice none 0 0)).run Tryz.prog w = .ok (.bool true) w := fun w => by kernel_rfl
 go_enter Tryz.func201, Tryz.ntmps201
 go_wp2
 go_ret
 exact ⟨rfl, rfl⟩
set_option maxRecDepth 100000 in
theorem cloneC_w (W : World) : Calls Tryz.prog 251 #[.slice none 0 0] W fun e w' => e = .returned (.slice none 0 0) ∧ w' = W := by
 have hq : ∀ w : World, (binOp .eql 135 (.slice none 0 0) (.slice none 0 0)).run Tryz.prog w = .ok (.bool true) w := fun w => by kernel_rfl
 go_enter Tryz.func251, Tryz.ntmps251
 go_wp2
 go_ret
 exact ⟨rfl, rfl⟩
set_option maxRecDepth 100000 in
theorem ownCode_w (W : World) : Calls Tryz.prog 202 #[.slice none 0 0] W fun e w' => e = .returned (.slice none 0 0) ∧ w' = W := by
 have hC := cloneC_w W
 go_enter Tryz.func202, Tryz.ntmps202
 go_wp2_with fail
 refine hC.mono ?_
 rintro e w' ⟨rfl, rfl⟩
 clear hC
 go_wp2_with fail
 refine wp_loop_rounds 1 ?_
 rw [rounds_succ]
 go_wp2_with fail
 go_ret
 exact ⟨rfl, rfl⟩
theorem set_val (w : World) (g : Nat) (kind home k n : Int) (s : ByteArray) (A : Option Addr) (len cap : Nat) (r n1 lost ofr byr set : Int) (full : Bool) (k2 n2 : Int) (s2 : ByteArray) (A2 : Option Addr) (len2 cap2 : Nat) (r2 : Int) (h : Blk w g 138 (th16 kind home k n s A len cap r n1 lost ofr byr set full)) :
 Blk (((((w.setCell ⟨g, 2, none⟩ (.int .u8 k2)).setCell ⟨g, 3, none⟩ (.int .i64 n2)).setCell ⟨g, 4, none⟩ (.string s2)).setCell ⟨g, 5, none⟩ (.slice A2 len2 cap2)).setCell ⟨g, 6, none⟩ (.int .i64 r2)) g 138 (th16 kind home k2 n2 s2 A2 len2 cap2 r2 n1 lost ofr byr set full) ∧
 Fr (fun i => i = g) w (((((w.setCell ⟨g, 2, none⟩ (.int .u8 k2)).setCell ⟨g, 3, none⟩ (.int .i64 n2)).setCell ⟨g, 4, none⟩ (.string s2)).setCell ⟨g, 5, none⟩ (.slice A2 len2 cap2)).setCell ⟨g, 6, none⟩ (.int .i64 r2)) :=
 ⟨(by simpa only [th16, List.setIfInBounds_toArray, List.set_cons_zero, List.set_cons_succ] using ((((h.set_ 2 (.int .u8 k2)).set_ 3 (.int .i64 n2)).set_ 4 (.string s2)).set_ 5 (.slice A2 len2 cap2)).set_ 6 (.int .i64 r2)),
  (((((Fr.refl (fun i => i = g) w).set (fun _ => rfl) _).set (fun _ => rfl) _).set (fun _ => rfl) _).set (fun _ => rfl) _).set (fun _ => rfl) _⟩
theorem set_same (w : World) (g : Nat) (kind home k n : Int) (s : ByteArray) (A : Option Addr) (len cap : Nat) (r n1 lost ofr byr set : Int) (full : Bool) (i : Nat) (hi : i = 7 ∨ i = 14 ∨ i = 15) (h : Blk w g 138 (th16 kind home k n s A len cap r n1 lost ofr byr set full)) :
 Blk (w.setCell ⟨g, i, none⟩ (.slice none 0 0)) g 138 (th16 kind home k n s A len cap r n1 lost ofr byr set full) ∧ Fr (fun j => j = g) w (w.setCell ⟨g, i, none⟩ (.slice none 0 0)) := by
 refine ⟨?_, (Fr.refl (fun i => i = g) w).set (fun _ => rfl) _⟩
 have h' := h.set_ i (.slice none 0 0)
 rcases hi with rfl | rfl | rfl <;> simpa only [th16, List.setIfInBounds_toArray, List.set_cons_zero, List.set_cons_succ] using h'
def OwnW (kind home : Int) (v : V) (n1 lost ofr byr set : Int) (full : Bool) (w : World) (e : Ending) (w' : World) : Prop :=
 ∃ t' : T, e = .returned (Th.val ⟨kind, home, t', n1, lost, ofr, byr, set, full⟩) ∧ t'.v = v ∧ t'.Sh w' w.heap.size w'.heap.size ∧ Fr No w w'
set_option maxRecDepth 100000 in
set_option maxHeartbeats 4000000 in
theorem ownWhat_w (kind home k n : Int) (s : ByteArray) (A : Option Addr) (cap : Nat) (l : List T) (r n1 lost ofr byr set : Int) (full : Bool) (W : World) (hi : Nat) (ht : (T.mk k n s A cap l r).In W 0 hi) (hhi : hi ≤ W.heap.size) (hm : (T.mk k n s A cap l r).v.may = true) :
 Calls Tryz.prog 150 #[.agg (th16 kind home k n s A l.length cap r n1 lost ofr byr set full)] W (OwnW kind home (T.mk k n s A cap l r).v n1 lost ofr byr set full W) := by
 have hO := fun W' (f : Fr No W W') => own_w (T.mk k n s A cap l r) W' 0 hi (ht.no f hhi) (Nat.le_trans hhi f.size) hm
 rw [T.val_mk] at hO
 generalize (T.mk k n s A cap l r).v = u at *
 have HO := hide hO
 have hb0 := (Blk.new W 138 (th16 kind home k n s A l.length cap r n1 lost ofr byr set full)).alloc (.cells (th16 0 0 0 0 ⟨#[]⟩ none 0 0 0 0 0 0 0 0 false) 138)
 have hb1 := Blk.new' (W.alloc (.cells (th16 kind home k n s A l.length cap r n1 lost ofr byr set full) 138)) 138 (th16 0 0 0 0 ⟨#[]⟩ none 0 0 0 0 0 0 0 0 false) (g := W.heap.size + 1) (by simp)
 have hf0 := ((Fr.refl No W).alloc (.cells (th16 kind home k n s A l.length cap r n1 lost ofr byr set full) 138)).alloc (.cells (th16 0 0 0 0 ⟨#[]⟩ none 0 0 0 0 0 0 0 0 false) 138)
 have HB0 := hide hb0
 have HB1 := hide hb1
 have HF0 := hide hf0
 have hc0 := hb0
 unfold th16 at hc0 HF0 HB0 HB1 ⊢
 obtain ⟨d0, d1, d2, d3, d4, d5, d6, d7, d8, d9, d10, d11, d12, d13, d14, d15⟩ := hc0.cells16
 have dq := hc0.lt
 clear ht hhi hO hb0 hb1 hf0 hc0 hm
 go_enter Tryz.func150, Tryz.ntmps150
 go_wp2_with fail
 generalize hW0 : World.alloc (World.alloc W _) _ = W0 at *
 refine (HO.out W0 HF0.out).mono ?_
 rintro e w1 ⟨⟨k2, n2, s2, A2, cap2, l2, r2⟩, rfl, hv, sh, f1⟩
 rw [T.val_mk]
 have hb := HB0.out.fr f1 fun h => h
 have hz := hb.frozen
 have HV := hide hv
 have HSH := hide sh
 have HF1 := hide f1
 have HBX := hide hb
 clear d0 d1 d2 d3 d4 d5 d6 d7 d8 d9 d10 d11 d12 d13 d14 d15 dq hv sh f1
 obtain ⟨d0, d1, d2, d3, d4, d5, d6, d7, d8, d9, d10, d11, d12, d13, d14, d15⟩ := hb.cells16
 have dq := hb.lt
 clear hb
 go_upto_region 2 with (fail)
 have hsv := set_val w1 W.heap.size kind home k n s A l.length cap r n1 lost ofr byr set full k2 n2 s2 A2 l2.length cap2 r2 HBX.out
 generalize World.setCell (World.setCell (World.setCell (World.setCell (World.setCell w1 _ _) _ _) _ _) _ _) _ _ = w2 at *
 have hz0 := hz
 clear hz
 have HFX : Hid (Fr (fun i => i = W.heap.size) w1 w1) := Fr.refl _ _
 have hb := hsv.1
 have hz := hb.frozen
 have HBX := hide hb
 have HFX := hide (HFX.out.trans hsv.2)
 clear hsv hz0 d0 d1 d2 d3 d4 d5 d6 d7 d8 d9 d10 d11 d12 d13 d14 d15 dq
 have hz0 := hz
 clear hz
 unfold th16 at hb
 obtain ⟨d0, d1, d2, d3, d4, d5, d6, d7, d8, d9, d10, d11, d12, d13, d14, d15⟩ := hb.cells16
 have dq := hb.lt
 clear hb
 go_wp2_with fail
 refine (cloneV_w w2).mono ?_
 rintro e w' ⟨rfl, rfl⟩
 go_upto_region 3 with (fail)
 have hss := set_same w' W.heap.size kind home k2 n2 s2 A2 l2.length cap2 r2 n1 lost ofr byr set full 7 (by simp) HBX.out
 generalize World.setCell w' _ _ = w3 at *
 have hb := hss.1
 have hz := hb.frozen
 have HBX := hide hb
 have HFX := hide (HFX.out.trans hss.2)
 clear hss hz0 d0 d1 d2 d3 d4 d5 d6 d7 d8 d9 d10 d11 d12 d13 d14 d15 dq
 have hz0 := hz
 clear hz
 unfold th16 at hb
 obtain ⟨d0, d1, d2, d3, d4, d5, d6, d7, d8, d9, d10, d11, d12, d13, d14, d15⟩ := hb.cells16
 have dq := hb.lt
 clear hb
 go_wp2_with fail
 refine wp_loop_rounds 1 ?_
 rw [rounds_succ]
 go_wp2_with fail
 refine (cloneN_w w3).mono ?_
 rintro e w' ⟨rfl, rfl⟩
 go_upto_region 9 with (fail)
 have hss := set_same w' W.heap.size kind home k2 n2 s2 A2 l2.length cap2 r2 n1 lost ofr byr set full 15 (by simp) HBX.out
 generalize World.setCell w' _ _ = w4 at *
 have hb := hss.1
 have hz := hb.frozen
 have HBX := hide hb
 have HFX := hide (HFX.out.trans hss.2)
 clear hss hz0 d0 d1 d2 d3 d4 d5 d6 d7 d8 d9 d10 d11 d12 d13 d14 d15 dq
 have hz0 := hz
 clear hz
 unfold th16 at hb
 obtain ⟨d0, d1, d2, d3, d4, d5, d6, d7, d8, d9, d10, d11, d12, d13, d14, d15⟩ := hb.cells16
 have dq := hb.lt
 clear hb
 go_wp2_with fail
 refine wp_loop_rounds 1 ?_
 rw [rounds_succ]
 go_wp2_with fail
 refine (ownCode_w w4).mono ?_
 rintro e w' ⟨rfl, rfl⟩
 go_upto_region 15 with (fail)
 have hss := set_same w' W.heap.size kind home k2 n2 s2 A2 l2.length cap2 r2 n1 lost ofr byr set full 14 (by simp) HBX.out
 generalize World.setCell w' _ _ = w5 at *
 have hb := hss.1
 have hz := hb.frozen
 have HBX := hide hb
 have HFX := hide (HFX.out.trans hss.2)
 clear hss hz0 d0 d1 d2 d3 d4 d5 d6 d7 d8 d9 d10 d11 d12 d13 d14 d15 dq
 have hz0 := hz
 clear hz
 unfold th16 at hb
 obtain ⟨d0, d1, d2, d3, d4, d5, d6, d7, d8, d9, d10, d11, d12, d13, d14, d15⟩ := hb.cells16
 have dq := hb.lt
 clear hb
 have hr := (HB1.out.fr HF1.out fun h => h).fr HFX.out (by omega)
 obtain ⟨e0, e1, e2, e3, e4, e5, e6, e7, e8, e9, e10, e11, e12, e13, e14, e15⟩ := hr.cells16
 have ez := hr.frozen
 have eq_ := hr.lt
 clear hr
 go_wp2_with fail
 refine bodyPost_ret (v := .agg (th16 kind home k2 n2 s2 A2 l2.length cap2 r2 n1 lost ofr byr set full)) (by simp [results, Tryz.results150, th16, go_sem, *]) rfl ?_
 have hz1 := HF0.out.size
 have hsz : W.heap.size + 2 ≤ W0.heap.size := by rw [← hW0]; simp
 have hs1 := HF1.out.size
 have hsx := HFX.out.size
 generalize hWe : World.setCell _ _ _ = We
 have fe : Fr (fun i => i = W.heap.size + 1) w5 We := by
  rw [← hWe]
  repeat (first | with_reducible exact Fr.refl _ w5 | with_reducible refine Fr.set ?_ (by simp) _)
 have hbl : ∀ b ∈ (T.mk k2 n2 s2 A2 cap2 l2 r2).blocks, W0.heap.size ≤ b := fun b hb => (T.In.blocks _ HSH.out.inn b hb).1
 refine ⟨T.mk k2 n2 s2 A2 cap2 l2 r2, rfl, HV.out, (((HSH.out.fr HFX.out fun b hb h => by have := hbl b hb; omega).fr fe fun b hb h => by have := hbl b hb; omega).more (by omega) ?_), ?_⟩
 · have := fe.size
   omega
 · exact ((HF0.out.trans HF1.out).trans' HFX.out fun i hi h => by omega).trans' fe fun i hi h => by omega
end Go.Proofs.YtlejelbefmkakaaGreat

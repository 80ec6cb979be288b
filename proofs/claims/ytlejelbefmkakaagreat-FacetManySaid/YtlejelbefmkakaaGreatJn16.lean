/- Texts joined: Gd5. -/
import Derived.Test.YtlejelbefmkakaaGreatJn1
import Derived.Test.YtlejelbefmkakaaGreatJn12
import Derived.Deep.Cut
import Derived.Deep.CutRange
import Derived.Deep.CutBlock
namespace Go.Proofs.YtlejelbefmkakaaGreat
open Go.RowKit
set_option maxRecDepth 100000 in
set_option maxHeartbeats 16000000 in
theorem bare_gd5 (kind home k n : Int) (s : ByteArray) (A : Option Addr) (len cap : Nat) (r : Int) (VA : Option Addr) (vl vc : Nat) (n1 lost ofr byr set : Int) (full : Bool) (CA : Option Addr) (cl cc : Nat) (NA : Option Addr) (nl nc : Nat) (W : World) (hk : kind = 13 ∨ kind = 15) :
 Calls Tryz.prog 207 #[.agg (c16 kind home k n s A len cap r VA vl vc n1 lost ofr byr set full CA cl cc NA nl nc)] W fun e w' => e = .returned (.agg (bareC kind home k n s A len cap r VA vl vc n1 lost ofr byr set full CA cl cc NA nl nc)) ∧ Fr No W w' := by
 obtain ⟨R, hR⟩ : ∃ R, bareC kind home k n s A len cap r VA vl vc n1 lost ofr byr set full CA cl cc NA nl nc = R := ⟨_, rfl⟩
 rw [hR]
 have HR := hide hR
 clear hR
 have hb0 := ((Blk.new W 138 (c16 kind home k n s A len cap r VA vl vc n1 lost ofr byr set full CA cl cc NA nl nc)).alloc (.cells (c16 0 0 0 0 ⟨#[]⟩ none 0 0 0 none 0 0 0 0 0 0 0 false none 0 0 none 0 0) 138)).alloc (.cells (c16 kind home 0 0 ⟨#[]⟩ none 0 0 0 none 0 0 0 0 0 0 0 false none 0 0 none 0 0) 138)
 have hb1 := (Blk.new' (W.alloc (.cells (c16 kind home k n s A len cap r VA vl vc n1 lost ofr byr set full CA cl cc NA nl nc) 138)) 138 (c16 0 0 0 0 ⟨#[]⟩ none 0 0 0 none 0 0 0 0 0 0 0 false none 0 0 none 0 0) (g := W.heap.size + 1) (by simp)).alloc (.cells (c16 kind home 0 0 ⟨#[]⟩ none 0 0 0 none 0 0 0 0 0 0 0 false none 0 0 none 0 0) 138)
 have hb2 := Blk.new' ((W.alloc (.cells (c16 kind home k n s A len cap r VA vl vc n1 lost ofr byr set full CA cl cc NA nl nc) 138)).alloc (.cells (c16 0 0 0 0 ⟨#[]⟩ none 0 0 0 none 0 0 0 0 0 0 0 false none 0 0 none 0 0) 138)) 138 (c16 kind home 0 0 ⟨#[]⟩ none 0 0 0 none 0 0 0 0 0 0 0 false none 0 0 none 0 0) (g := W.heap.size + 1 + 1) (by simp)
 have hf0 := (((Fr.refl No W).alloc (.cells (c16 kind home k n s A len cap r VA vl vc n1 lost ofr byr set full CA cl cc NA nl nc) 138)).alloc (.cells (c16 0 0 0 0 ⟨#[]⟩ none 0 0 0 none 0 0 0 0 0 0 0 false none 0 0 none 0 0) 138)).alloc (.cells (c16 kind home 0 0 ⟨#[]⟩ none 0 0 0 none 0 0 0 0 0 0 0 false none 0 0 none 0 0) 138)
 unfold c16 at hb0 hb1 hb2 hf0 ⊢
 have HB0 := hide hb0
 have HB1 := hide hb1
 have HB2 := hide hb2
 have HF0 := hide hf0
 clear hb0 hb1 hb2 hf0
 go_enter Tryz.func207, Tryz.ntmps207
 go_upto_block 0 with (fail)
 generalize hW0 : World.alloc (World.alloc (World.alloc W _) _) _ = W0 at *
 obtain ⟨d0, d1, d2, d3, d4, d5, d6, d7, d8, d9, d10, d11, d12, d13, d14, d15, dz, dq⟩ := HB0.out.c16s
 go_cut [] from 11 to 98 (fun wx => Blk wx (W.heap.size + 1 + 1) 138 R ∧ Fr (fun i => i = W.heap.size + 1 + 1) W0 wx)
 case first =>
  obtain ⟨b0, b1, b2, b3, b4, b5, b6, b7, b8, b9, b10, b11, b12, b13, b14, b15, bz, bq⟩ := HB2.out.c16s
  clear HB0 HB1 HF0
  by_cases hk13 : kind = 13
  case pos =>
   subst hk13
   have hfin : c16 13 home 0 0 ⟨#[]⟩ none 0 0 0 none 0 0 0 0 ofr 0 0 full none 0 0 none 0 0 = R := by rw [← HR.out]; simp [bareC]
   subst hfin
   clear HR
   go_wp2_with fail
   go_region
   all_goals go_simp
   all_goals try go_wp2_with fail
   all_goals
    go_meet
    refine ⟨blk_eq (Blk.drew (Blk.set_ (Blk.set_ (HB2.out) _ _) _ _)) (by simp only [lq4, lq5, lq6, c16]), ?_⟩
    repeat (first | with_reducible exact Fr.refl _ W0 | with_reducible refine Fr.drew ?_ | with_reducible refine Fr.set ?_ (by simp) _)
  by_cases hk15 : kind = 15
  case pos =>
   subst hk15
   have hfin : c16 15 home 0 0 ⟨#[]⟩ none 0 0 0 none 0 0 0 0 ofr byr 0 false none 0 0 none 0 0 = R := by rw [← HR.out]; simp [bareC]
   subst hfin
   clear HR
   go_wp2_with fail
   go_region
   all_goals go_simp
   all_goals try go_wp2_with fail
   all_goals
    go_meet
    refine ⟨blk_eq (Blk.drew (Blk.set_ (Blk.set_ (HB2.out) _ _) _ _)) (by simp only [lq4, lq5, lq6, c16]), ?_⟩
    repeat (first | with_reducible exact Fr.refl _ W0 | with_reducible refine Fr.drew ?_ | with_reducible refine Fr.set ?_ (by simp) _)
  exact absurd hk (by simp [*])
 case rest =>
  obtain ⟨hbx, hfx⟩ := hcut
  have hb1 := HB1.out.fr hfx (by simp)
  have HFX := hide hfx
  obtain ⟨qkind, qhome, qk, qn, qs, qA, qlen, qcap, qr, qVA, qvl, qvc, qn1, qlost, qofr, qbyr, qset, qfull, qCA, qcl, qcc, qNA, qnl, qnc, hRR⟩ : ∃ qkind qhome qk qn qs qA qlen qcap qr qVA qvl qvc qn1 qlost qofr qbyr qset qfull qCA qcl qcc qNA qnl qnc, R = c16 qkind qhome qk qn qs qA qlen qcap qr qVA qvl qvc qn1 qlost qofr qbyr qset qfull qCA qcl qcc qNA qnl qnc := by
   rw [← HR.out]
   exact bareC_is _ _ _ _ _ _ _ _ _ _ _ _ _ _ _ _ _ _ _ _ _ _ _ _
  unfold c16 at hRR
  subst hRR
  obtain ⟨x0, x1, x2, x3, x4, x5, x6, x7, x8, x9, x10, x11, x12, x13, x14, x15, xz, xq⟩ := hbx.c16s
  obtain ⟨y0, y1, y2, y3, y4, y5, y6, y7, y8, y9, y10, y11, y12, y13, y14, y15, yz, yq⟩ := hb1.c16s
  clear HR HB0 HB1 HB2 hbx hb1 hfx d0 d1 d2 d3 d4 d5 d6 d7 d8 d9 d10 d11 d12 d13 d14 d15 dz dq
  go_wp2_with fail
  refine bodyPost_ret (v := .agg (c16 qkind qhome qk qn qs qA qlen qcap qr qVA qvl qvc qn1 qlost qofr qbyr qset qfull qCA qcl qcc qNA qnl qnc)) (by simp [results, Tryz.results207, c16, go_sem, *]) rfl ⟨rfl, ?_⟩
  generalize hWe : World.setCell _ _ _ = We
  have fe : Fr (fun i => i = W.heap.size + 1) wc We := by
   rw [← hWe]
   repeat (first | with_reducible exact Fr.refl _ wc | with_reducible refine Fr.set ?_ (by simp) _)
  exact (HF0.out.trans' HFX.out fun i hi h => by have h' : i = W.heap.size + 1 + 1 := h; omega).trans' fe fun i hi h => by have h' : i = W.heap.size + 1 := h; omega
end Go.Proofs.YtlejelbefmkakaaGreat

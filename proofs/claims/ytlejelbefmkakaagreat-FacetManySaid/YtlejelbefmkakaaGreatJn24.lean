/- Texts joined: Gv3. -/
import Derived.Test.YtlejelbefmkakaaGreatJn1
import Derived.Test.YtlejelbefmkakaaGreatJn23
namespace Go.Proofs.YtlejelbefmkakaaGreat
open Go.RowKit
def OwnWP (x : Tg) (w : World) (e : Ending) (w' : World) : Prop :=
 ∃ y : Tg, e = .returned y.val ∧ (y.kind = x.kind ∧ y.home = x.home ∧ y.n = x.n ∧ y.lost = x.lost ∧ y.ofr = x.ofr ∧ y.byr = x.byr ∧ y.set = x.set ∧ y.full = x.full) ∧ y.v.v = x.v.v ∧ y.vs.map T.v = x.vs.map T.v ∧
  y.code.map G.er = x.code.map G.er ∧ (y.names.map fun z => (z.1, z.2.v)) = (x.names.map fun z => (z.1, z.2.v)) ∧ y.St w' w.heap.size ∧ Fr No w w'
set_option maxRecDepth 100000 in
set_option maxHeartbeats 16000000 in
theorem ownWhat_any (x : Tg) (w : World) (lo hi : Nat) (hx : x.In w lo hi) (hh : hi ≤ w.heap.size) (hmv : x.v.v.may = true) (hmvs : ∀ t ∈ x.vs, t.v.may = true) (hmn : ∀ y ∈ x.names, y.2.v.may = true) :
 Calls Tryz.prog 150 #[x.val] w (OwnWP x w) := by
 obtain ⟨kind, home, ⟨k, n, s, A, cap, l, r⟩, VA, vc, vs, n1, lost, ofr, byr, set, full, CA, cc, code, NA, nc, names⟩ := x
 have HX := hide hx
 have HMS := hide hmvs
 have HMN := hide hmn
 have hO := fun W' (f : Fr No w W') => gown_w (T.mk k n s A cap l r) W' lo hi (hx.v.no f hh) (Nat.le_trans hh f.size) hmv
 rw [T.val_mk] at hO
 have HO := hide hO
 have hval : (Tg.val ⟨kind, home, T.mk k n s A cap l r, VA, vc, vs, n1, lost, ofr, byr, set, full, CA, cc, code, NA, nc, names⟩) = .agg #[.int .u8 kind, .int .i64 home, .int .u8 k, .int .i64 n, .string s, .slice A l.length cap, .int .i64 r, .slice VA vs.length vc, .int .i64 n1, .int .i64 lost, .int .i64 ofr, .int .i64 byr, .int .u8 set, .bool full, .slice CA code.length cc, .slice NA names.length nc] := rfl
 rw [hval]
 have hb := (Blk.new w 138 #[.int .u8 kind, .int .i64 home, .int .u8 k, .int .i64 n, .string s, .slice A l.length cap, .int .i64 r, .slice VA vs.length vc, .int .i64 n1, .int .i64 lost, .int .i64 ofr, .int .i64 byr, .int .u8 set, .bool full, .slice CA code.length cc, .slice NA names.length nc]).alloc (.cells #[.int .u8 0, .int .i64 0, .int .u8 0, .int .i64 0, .string ⟨#[]⟩, .slice none 0 0, .int .i64 0, .slice none 0 0, .int .i64 0, .int .i64 0, .int .i64 0, .int .i64 0, .int .u8 0, .bool false, .slice none 0 0, .slice none 0 0] 138)
 have hr := Blk.new' (w.alloc (.cells #[.int .u8 kind, .int .i64 home, .int .u8 k, .int .i64 n, .string s, .slice A l.length cap, .int .i64 r, .slice VA vs.length vc, .int .i64 n1, .int .i64 lost, .int .i64 ofr, .int .i64 byr, .int .u8 set, .bool full, .slice CA code.length cc, .slice NA names.length nc] 138)) 138 #[.int .u8 0, .int .i64 0, .int .u8 0, .int .i64 0, .string ⟨#[]⟩, .slice none 0 0, .int .i64 0, .slice none 0 0, .int .i64 0, .int .i64 0, .int .i64 0, .int .i64 0, .int .u8 0, .bool false, .slice none 0 0, .slice none 0 0] (g := w.heap.size + 1) (by simp)
 have hf := ((Fr.refl No w).alloc (.cells #[.int .u8 kind, .int .i64 home, .int .u8 k, .int .i64 n, .string s, .slice A l.length cap, .int .i64 r, .slice VA vs.length vc, .int .i64 n1, .int .i64 lost, .int .i64 ofr, .int .i64 byr, .int .u8 set, .bool full, .slice CA code.length cc, .slice NA names.length nc] 138)).alloc (.cells #[.int .u8 0, .int .i64 0, .int .u8 0, .int .i64 0, .string ⟨#[]⟩, .slice none 0 0, .int .i64 0, .slice none 0 0, .int .i64 0, .int .i64 0, .int .i64 0, .int .i64 0, .int .u8 0, .bool false, .slice none 0 0, .slice none 0 0] 138)
 have hsz : ((w.alloc (.cells #[.int .u8 kind, .int .i64 home, .int .u8 k, .int .i64 n, .string s, .slice A l.length cap, .int .i64 r, .slice VA vs.length vc, .int .i64 n1, .int .i64 lost, .int .i64 ofr, .int .i64 byr, .int .u8 set, .bool full, .slice CA code.length cc, .slice NA names.length nc] 138)).alloc (.cells #[.int .u8 0, .int .i64 0, .int .u8 0, .int .i64 0, .string ⟨#[]⟩, .slice none 0 0, .int .i64 0, .slice none 0 0, .int .i64 0, .int .i64 0, .int .i64 0, .int .i64 0, .int .u8 0, .bool false, .slice none 0 0, .slice none 0 0] 138)).heap.size = w.heap.size + 2 := by simp
 have HB := hide hb
 have HR := hide hr
 have HF := hide hf
 have HSZ := hide hsz
 obtain ⟨d0, d1, d2, d3, d4, d5, d6, d7, d8, d9, d10, d11, d12, d13, d14, d15⟩ := hb.cells16
 have dq := hb.lt
 clear hx hmv hmvs hmn hO hval hb hr hf hsz
 obtain ⟨Q0, hQ0⟩ : ∃ Q0, OwnWP ⟨kind, home, T.mk k n s A cap l r, VA, vc, vs, n1, lost, ofr, byr, set, full, CA, cc, code, NA, nc, names⟩ w = Q0 := ⟨_, rfl⟩
 rw [hQ0]
 have HQ := hide hQ0
 clear hQ0
 go_enter Tryz.func150, Tryz.ntmps150
 go_upto_region 1 with (fail)
 generalize World.alloc (World.alloc w _) _ = W0 at *
 go_cut [] from 7 to 17 (fun wx => ∃ (k1 n2 : Int) (s1 : ByteArray) (A1 : Option Addr) (cap1 : Nat) (l1 : List T) (r1 : Int), (T.mk k1 n2 s1 A1 cap1 l1 r1).v = (T.mk k n s A cap l r).v ∧ (T.mk k1 n2 s1 A1 cap1 l1 r1).Sp wx W0.heap.size wx.heap.size ∧ Blk wx w.heap.size 138 #[.int .u8 kind, .int .i64 home, .int .u8 k1, .int .i64 n2, .string s1, .slice A1 l1.length cap1, .int .i64 r1, .slice VA vs.length vc, .int .i64 n1, .int .i64 lost, .int .i64 ofr, .int .i64 byr, .int .u8 set, .bool full, .slice CA code.length cc, .slice NA names.length nc] ∧ Fr (fun i => i = w.heap.size) W0 wx)
 case first => as_aux_lemma =>
  go_wp2_with fail
  refine (HO.out W0 HF.out).mono ?_
  rintro e w1 ⟨⟨k1, n2, s1, A1, cap1, l1, r1⟩, rfl, hv1, hsh1, f1⟩
  rw [T.val_mk]
  have hb1 := HB.out.fr f1 fun h => h
  have HB1 := hide hb1
  have HV1 := hide hv1
  have HS1 := hide hsh1
  have HF1 := hide f1
  have hlt := HB.out.lt
  have HLT := hide hlt
  clear d0 d1 d2 d3 d4 d5 d6 d7 d8 d9 d10 d11 d12 d13 d14 d15 dq f1 hv1 hsh1 hlt
  obtain ⟨d0, d1, d2, d3, d4, d5, d6, d7, d8, d9, d10, d11, d12, d13, d14, d15⟩ := hb1.cells16
  have dq := hb1.lt
  have dz := hb1.frozen
  clear hb1
  go_wp2_with fail
  go_meet
  case rel =>
   have hb2 := ((((HB1.out.set_ 2 (.int .u8 k1)).set_ 3 (.int .i64 n2)).set_ 4 (.string s1)).set_ 5 (.slice A1 l1.length cap1)).set_ 6 (.int .i64 r1)
   simp only [lq4, lq5, lq6] at hb2
   have f2 : Fr (fun i => i = w.heap.size) w1 (((((w1.setCell ⟨w.heap.size, 2, none⟩ (.int .u8 k1)).setCell ⟨w.heap.size, 3, none⟩ (.int .i64 n2)).setCell ⟨w.heap.size, 4, none⟩ (.string s1)).setCell ⟨w.heap.size, 5, none⟩ (.slice A1 l1.length cap1)).setCell ⟨w.heap.size, 6, none⟩ (.int .i64 r1)) :=
    (((((Fr.refl (fun i => i = w.heap.size) w1).set (fun _ => rfl) _).set (fun _ => rfl) _).set (fun _ => rfl) _).set (fun _ => rfl) _).set (fun _ => rfl) _
   have hl0 := HLT.out
   have hz := HSZ.out
   refine ⟨k1, n2, s1, A1, cap1, l1, r1, HV1.out, T.Sp.more (Nat.le_refl _) f2.size _ (T.Sp.fr f2 _ (fun b hb h => ?_) HS1.out.sp), hb2, HF1.out.no.trans f2⟩
   have h' : b = w.heap.size := h
   have := (T.In.blocks _ HS1.out.inn b hb).1
   omega
 obtain ⟨k1, n2, s1, A1, cap1, l1, r1, hv1, hsp1, hb1, hf1⟩ := hcut
 obtain ⟨w1, rfl⟩ : ∃ w1 : World, w1 = wc := ⟨_, rfl⟩
 have hfw1 : Fr No w w1 := HF.out.trans' hf1 fun i hi h => by have h' : i = w.heap.size := h; omega
 have hr1 := HR.out.fr hf1 (by omega)
 have HV1 := hide hv1
 have HS1 := hide hsp1
 have HB1 := hide hb1
 have HR1 := hide hr1
 have HF1 := hide hfw1
 have HZ1 := hide hf1.size
 have HC := hide (fun W' (f : Fr No w W') => cloneVal VA vs.length vc (rowCells vs) W' lo hi ((row_lies HX.out.vs).no f hh) (Nat.le_trans hh f.size) (T.in_mk.1 HX.out.vs).1.len1)
 clear d0 d1 d2 d3 d4 d5 d6 d7 d8 d9 d10 d11 d12 d13 d14 d15 dq hv1 hsp1 hr1 hfw1 hf1 HO HB HR
 obtain ⟨d0, d1, d2, d3, d4, d5, d6, d7, d8, d9, d10, d11, d12, d13, d14, d15⟩ := hb1.cells16
 have dq := hb1.lt
 clear hb1
 go_upto_region 2 with (fail)
 go_cut [] from 7 to 17 (fun wx => ∃ (A2 : Option Addr) (c2 : Nat), wx.ownsRow w1.heap.size 28 5 (.slice A2 vs.length c2) vs.length (rowCells vs) ∧ Blk wx w.heap.size 138 #[.int .u8 kind, .int .i64 home, .int .u8 k1, .int .i64 n2, .string s1, .slice A1 l1.length cap1, .int .i64 r1, .slice A2 vs.length c2, .int .i64 n1, .int .i64 lost, .int .i64 ofr, .int .i64 byr, .int .u8 set, .bool full, .slice CA code.length cc, .slice NA names.length nc] ∧ Fr (fun i => i = w.heap.size) w1 wx)
 case first => as_aux_lemma =>
  go_wp2_with fail
  refine (HC.out w1 HF1.out).mono ?_
  rintro e w2 ⟨A2, c2, rfl, ho2, f2⟩
  have hb2 := HB1.out.fr f2 fun h => h
  have HB2 := hide hb2
  have HO2 := hide ho2
  have HF2 := hide f2
  have hlt := HB1.out.lt
  have HLT := hide hlt
  clear d0 d1 d2 d3 d4 d5 d6 d7 d8 d9 d10 d11 d12 d13 d14 d15 dq f2 ho2 hlt
  obtain ⟨d0, d1, d2, d3, d4, d5, d6, d7, d8, d9, d10, d11, d12, d13, d14, d15⟩ := hb2.cells16
  have dq := hb2.lt
  have dz := hb2.frozen
  clear hb2
  go_wp2_with fail
  go_meet
  case rel =>
   have hb3 := HB2.out.set_ 7 (.slice A2 vs.length c2)
   simp only [lq4, lq5, lq6] at hb3
   have f3 : Fr (fun i => i = w.heap.size) w2 (w2.setCell ⟨w.heap.size, 7, none⟩ (.slice A2 vs.length c2)) := (Fr.refl (fun i => i = w.heap.size) w2).set (fun _ => rfl) _
   have hl0 := HLT.out
   refine ⟨A2, c2, owns_fr HO2.out f3 fun g hg h => ?_, hb3, HF2.out.no.trans f3⟩
   have h' : g = w.heap.size := h
   have := (owns_lt HO2.out g hg).1
   omega
 obtain ⟨A2, c2, ho2, hb2, hf2⟩ := hcut
 obtain ⟨w2, rfl⟩ : ∃ w2 : World, w2 = wc := ⟨_, rfl⟩
 have hfw2 : Fr No w w2 := HF1.out.trans' hf2 fun i hi h => by have h' : i = w.heap.size := h; omega
 have hr2 := HR1.out.fr hf2 (by omega)
 have hsp2 := T.Sp.fr hf2 _ (fun b hb h => by
  have h' : b = w.heap.size := h
  have := (T.In.blocks _ (T.Sp.inn _ HS1.out) b hb).1
  have := HSZ.out
  omega) HS1.out
 have hst := OwnTI.start ho2 hfw2 HF1.out.size hf2.size
 have hlv : vs.length * 64 ≤ 140737488351232 := (T.in_mk.1 HX.out.vs).1.len1
 have HS2 := hide hsp2
 have HB2 := hide hb2
 have HR2 := hide hr2
 have HF2 := hide hfw2
 have HST := hide hst
 have HO2 := hide ho2
 have HC2 := hide (owns_leK ho2)
 have HZ2 := hide (And.intro HZ1.out hf2.size)
 clear d0 d1 d2 d3 d4 d5 d6 d7 d8 d9 d10 d11 d12 d13 d14 d15 dq hsp2 hr2 hfw2 hf2 hst ho2 HC HB1 HR1 HS1 HF1
 obtain ⟨d0, d1, d2, d3, d4, d5, d6, d7, d8, d9, d10, d11, d12, d13, d14, d15⟩ := hb2.cells16
 have dq := hb2.lt
 clear hb2
 go_wp2_with fail
 go_loopw [18] (fun i wr => ∃ (j : Nat) (l' : List T), j ≤ vs.length ∧ i = .int .i64 j ∧ OwnTI w w1.heap.size w2.heap.size A2 c2 vs j l' wr ∧ Fr (fun i => (Value.slice A2 vs.length c2).ownBlock = some i) w2 wr) (fun i _ => vs.length - (intOf i).toNat)
 case atStart => exact ⟨0, [], Nat.zero_le _, rfl, HST.out, Fr.refl _ _⟩
 case round =>
  obtain ⟨j, l', hj, rfl, inv, fl⟩ := hrel
  have hwn : ¬ (Value.slice A2 vs.length c2).ownBlock = some w.heap.size := fun h => by
   have := (owns_lt HO2.out _ h).1
   have := HF2.out.size
   have := HSZ.out
   have := HZ2.out.1
   omega
  have hbr := HB2.out.fr fl hwn
  clear d0 d1 d2 d3 d4 d5 d6 d7 d8 d9 d10 d11 d12 d13 d14 d15 dq
  obtain ⟨d0, d1, d2, d3, d4, d5, d6, d7, d8, d9, d10, d11, d12, d13, d14, d15⟩ := hbr.cells16
  have dq := hbr.lt
  by_cases hlt : j < vs.length
  · obtain ⟨ga, rfl, hg0, hg1, hce, hfz⟩ := inv.at_ hlt
    have hmem := List.getElem_mem hlt
    have hin := (T.in_mk.1 HX.out.vs).2.2 _ hmem
    have hmv := HMS.out _ hmem
    have hwr := inv.fr
    have hsz := hwr.size
    have hga : ga < wr.heap.size := by have := inv.big.2.2; omega
    have HOJ := hide (fun W' (f : Fr No wr W') => gown_w vs[j] W' lo hi (hin.no (hwr.trans f) hh) (Nat.le_trans hh (Nat.le_trans hsz f.size)) hmv)
    have HINV := hide inv
    have HFL := hide fl
    have HBR := hide hbr
    have HGA := hide hga
    have HFZ := hide hfz
    obtain ⟨tj, htj⟩ : ∃ tj, vs[j] = tj := ⟨_, rfl⟩
    rw [htj] at hce HOJ
    have HTJ := hide htj
    obtain ⟨k3, n3, s3, A3, cap3, l3, r3⟩ := tj
    have x0 : wr.cell? ⟨ga, j * 5, none⟩ = some (.int .u8 k3) := hce 0 _ rfl
    have x1 : wr.cell? ⟨ga, j * 5 + 1, none⟩ = some (.int .i64 n3) := hce 1 _ rfl
    have x2 : wr.cell? ⟨ga, j * 5 + 2, none⟩ = some (.string s3) := hce 2 _ rfl
    have x3 : wr.cell? ⟨ga, j * 5 + 3, none⟩ = some (.slice A3 l3.length cap3) := hce 3 _ rfl
    have x4 : wr.cell? ⟨ga, j * 5 + 4, none⟩ = some (.int .i64 r3) := hce 4 _ rfl
    have hnb : w.heap.size ≠ ga := fun h => hwn (by rw [h]; rfl)
    clear hce hfz inv fl hbr hin hmv hmem hwr htj hwn
    go_upto_region 5 with (fail)
    go_cut [3, 4] from 19 to 28 (fun i4 b4 wc4 => i4 = .int .i64 (j : Int) ∧ b4 = .pointer (some ⟨wr.heap.size, 0, none⟩) ∧ wc4 = wr.alloc (.cells #[.int .u8 k3, .int .i64 n3, .string s3, .slice A3 l3.length cap3, .int .i64 r3] 28))
    case first => as_aux_lemma =>
     go_wp2_with fail
     go_meet
     case rel => exact ⟨rfl, rfl, rfl⟩
    obtain ⟨rfl, rfl, rfl⟩ := hcut
    have hba := Blk.new wr 28 #[.int .u8 k3, .int .i64 n3, .string s3, .slice A3 l3.length cap3, .int .i64 r3]
    have hfa := (Fr.refl No wr).alloc (.cells #[.int .u8 k3, .int .i64 n3, .string s3, .slice A3 l3.length cap3, .int .i64 r3] 28)
    have HBA := hide hba
    have HFA := hide hfa
    have hWb := HBR.out.fr hfa fun h => h
    have HWB := hide hWb
    clear hba hfa hWb x0 x1 x2 x3 x4 d0 d1 d2 d3 d4 d5 d6 d7 d8 d9 d10 d11 d12 d13 d14 d15 dq
    go_upto_region 6 with (fail)
    generalize hgb : wr.heap.size = gb at *
    generalize World.alloc wr _ = Wa at *
    rw [T.val_mk] at HOJ
    refine wp_region_inv (I := fun a0 f a wx => ∃ y0 y1 y2 y3 y4 y5 r, a = ((((((a0.put (some 23) y0).put (some 24) y1).put (some 25) y2).put (some 26) y3).put (some 27) y4).put (some 28) y5) ∧ RcI (ow1 (.pointer (some ⟨w.heap.size, 7, none⟩)) (.slice (some ⟨ga, 0, none⟩) vs.length c2) ga (j * 5) (.int .i64 (j : Int)) (.agg #[.int .u8 k3, .int .i64 n3, .string s3, .slice A3 l3.length cap3, .int .i64 r3]) (T.mk k3 n3 s3 A3 cap3 l3 r3).v) Wa f [y0, y1, y2, y3, y4, y5, undef] r wx) (by kernel_rfl) (by kernel_rfl) ?st ?step ?en
    case st => exact ⟨_, _, _, _, _, _, (fun _ => T.zero), by simp only [Act.put, lq4, lq5, lq6] <;> rfl, RcI.begin ow1_ok Wa _ _⟩
    case step => as_aux_lemma =>
     rintro i oo f a wx ho hf hd ⟨y0, y1, y2, y3, y4, y5, r, rfl, J⟩ K' hK
     have hidx := (Array.getElem?_eq_some_iff.1 ho).1
     simp only [List.size_toArray, List.length_cons, List.length_nil] at hidx
     have hid : i = 0 ∨ i = 1 ∨ i = 2 ∨ i = 3 ∨ i = 4 ∨ i = 5 ∨ i = 6 := by omega
     simp only [Act.put, lq4, lq5, lq6]
     rcases hid with rfl | rfl | rfl | rfl | rfl | rfl | rfl
     · simp only [lq1, lq3, Option.some.injEq] at ho; subst ho
       have HFI := hide hf
       have HJ := hide J
       clear J hd hf  
       go_simp
       exact hK.out _ _ ⟨_, _, _, _, _, _, r, by simp only [Act.put, lq4, lq5, lq6] <;> rfl, HJ.out.quiet ow1_ok (i := 0) rfl rfl (by simp) (fun c h => nomatch h)⟩
     · simp only [lq1, lq2, lq3, Option.some.injEq] at ho; subst ho
       have b0 := hd ⟨0, .data⟩ (by simp) (by rfl)
       obtain rfl : y0 = .pointer (some ⟨w.heap.size, 7, none⟩) := J.x 0 b0 rfl
       have FX := hide (J.fr ow1_ok (J.none hf fun s hs => ow1_dep (by decide) hs))
       have HFI := hide hf
       have B0 := hide b0
       have hB := HWB.out.fr FX.out fun h => h
       have hq := hB.lt
       have c7 : wx.cell? ⟨w.heap.size, 7, none⟩ = some (.slice (some ⟨ga, 0, none⟩) vs.length c2) := hB.cell 7
       clear hB
       have HJ := hide J
       clear J hd hf b0 
       go_simp
       exact hK.out _ _ ⟨_, _, _, _, _, _, r, by simp only [Act.put, lq4, lq5, lq6] <;> rfl, HJ.out.quiet ow1_ok (i := 1) rfl rfl (by simp) (fun c h => nomatch h)⟩
     · simp only [lq1, lq2, lq3, Option.some.injEq] at ho; subst ho
       have HFI := hide hf
       have HJ := hide J
       clear J hd hf  
       go_simp
       exact hK.out _ _ ⟨_, _, _, _, _, _, r, by simp only [Act.put, lq4, lq5, lq6] <;> rfl, HJ.out.quiet ow1_ok (i := 2) rfl rfl (by simp) (fun c h => nomatch h)⟩
     · simp only [lq1, lq2, lq3, Option.some.injEq] at ho; subst ho
       have FX := hide (J.fr ow1_ok (J.none hf fun s hs => ow1_dep (by decide) hs))
       have HFI := hide hf
       have hB := HBA.out.fr FX.out fun h => h
       have hq := hB.lt
       have c0 : wx.cell? ⟨gb, 0, none⟩ = some (.int .u8 k3) := hB.cell 0
       have c1 : wx.cell? ⟨gb, 1, none⟩ = some (.int .i64 n3) := hB.cell 1
       have c2 : wx.cell? ⟨gb, 2, none⟩ = some (.string s3) := hB.cell 2
       have c3 : wx.cell? ⟨gb, 3, none⟩ = some (.slice A3 l3.length cap3) := hB.cell 3
       have c4 : wx.cell? ⟨gb, 4, none⟩ = some (.int .i64 r3) := hB.cell 4
       clear hB
       have HJ := hide J
       clear J hd hf  
       go_simp
       exact hK.out _ _ ⟨_, _, _, _, _, _, r, by simp only [Act.put, lq4, lq5, lq6] <;> rfl, HJ.out.quiet ow1_ok (i := 3) rfl rfl (by simp) (fun c h => nomatch h)⟩
     · simp only [lq1, lq2, lq3, Option.some.injEq] at ho; subst ho
       have b3 := hd ⟨3, .data⟩ (by simp) (by rfl)
       obtain rfl : y3 = .agg #[.int .u8 k3, .int .i64 n3, .string s3, .slice A3 l3.length cap3, .int .i64 r3] := J.x 3 b3 rfl
       have FX := hide (J.fr ow1_ok (J.none hf fun s hs => ow1_dep (by decide) hs))
       have HFI := hide hf
       have B3 := hide b3
       have HJ := hide J
       clear J hd hf b3 
       go_simp
       have hcon := HOJ.out wx (HFA.out.trans FX.out)
       refine hcon.mono ?_
       rintro e w2 ⟨b, he, hv, hsh, f2⟩
       have HF2 := hide f2
       have HPT := hide (And.intro hv (T.Sp.more FX.out.size (Nat.le_refl _) _ hsh.sp))
       subst he
       clear f2 hv hsh
       try go_simp
       exact hK.out _ _ ⟨_, _, _, _, _, _, _, by simp only [Act.put, lq4, lq5, lq6] <;> rfl, HJ.out.call ow1_ok HFI.out rfl rfl (by simp) (fun c h => nomatch h) HF2.out (b := b) HPT.out⟩
     · simp only [lq1, lq2, lq3, Option.some.injEq] at ho; subst ho
       have b1 := hd ⟨1, .data⟩ (by simp) (by rfl)
       obtain rfl : y1 = .slice (some ⟨ga, 0, none⟩) vs.length c2 := J.x 1 b1 rfl
       have b2 := hd ⟨2, .data⟩ (by simp) (by rfl)
       obtain rfl : y2 = .int .i64 (j : Int) := J.x 2 b2 rfl
       have FX := hide (J.fr ow1_ok (J.none hf fun s hs => ow1_dep (by decide) hs))
       have HFI := hide hf
       have B1 := hide b1
       have B2 := hide b2
       have hjl : (j : Int) < (vs.length : Int) := by omega
       have HJ := hide J
       clear J hd hf b1 b2 
       go_simp
       exact hK.out _ _ ⟨_, _, _, _, _, _, r, by simp only [Act.put, lq4, lq5, lq6] <;> rfl, HJ.out.quiet ow1_ok (i := 5) rfl rfl (by simp) (fun c h => nomatch h)⟩
     · simp only [lq1, lq2, lq3, Option.some.injEq] at ho; subst ho
       have b5 := hd ⟨5, .data⟩ (by simp) (by rfl)
       obtain rfl : y5 = .pointer (some ⟨ga, j * 5, none⟩) := J.x 5 b5 rfl
       have b4 := hd ⟨4, .data⟩ (by simp) (by rfl)
       obtain rfl : y4 = (r 4).val := J.x 4 b4 rfl
       have HWT : ∀ c, (ow1 (.pointer (some ⟨w.heap.size, 7, none⟩)) (.slice (some ⟨ga, 0, none⟩) vs.length c2) ga (j * 5) (.int .i64 (j : Int)) (.agg #[.int .u8 k3, .int .i64 n3, .string s3, .slice A3 l3.length cap3, .int .i64 r3]) (T.mk k3 n3 s3 A3 cap3 l3 r3).v).dep 6 c = true → f c = true := by
        intro c hc
        have hc' : c = 0 ∨ c = 1 ∨ c = 2 ∨ c = 3 ∨ c = 4 ∨ c = 5 := by have : c ≤ 5 := of_decide_eq_true hc; omega
        rcases hc' with rfl | rfl | rfl | rfl | rfl | rfl
        · first | exact waits hd (by rfl)
        · first | exact waits hd (by rfl)
        · first | exact waits hd (by rfl)
        · first | exact waits hd (by rfl)
        · first | exact waits hd (by rfl)
        · first | exact waits hd (by rfl)
       have HFI := hide hf
       have B5 := hide b5
       have B4 := hide b4
       have hM := J.m
       obtain ⟨w3, hm1, hm2, hm3⟩ := hM
       have hm3' : wx = w3 := by rw [hm3]; simp [ow1, hf]
       obtain ⟨hv, hsp⟩ := hm2 4 rfl (HWT 4 rfl)
       have HST := hide (fun w3 (h : wx = (ow1 (.pointer (some ⟨w.heap.size, 7, none⟩)) (.slice (some ⟨ga, 0, none⟩) vs.length c2) ga (j * 5) (.int .i64 (j : Int)) (.agg #[.int .u8 k3, .int .i64 n3, .string s3, .slice A3 l3.length cap3, .int .i64 r3]) (T.mk k3 n3 s3 A3 cap3 l3 r3).v).M f r w3) => ow1_st6 hf h)
       obtain ⟨k9, n9, s9, A9, cap9, l9, r9, er⟩ : ∃ k9 n9 s9 A9 cap9 l9 r9, r 4 = T.mk k9 n9 s9 A9 cap9 l9 r9 := by cases r 4; exact ⟨_, _, _, _, _, _, _, rfl⟩
       have inv2 := (HINV.out.no HFA.out).no hm1
       obtain ⟨g', hg', -, -, hce, hfz⟩ := inv2.at_ (by omega)
       simp only [Option.some.injEq, Addr.mk.injEq, and_true] at hg'
       subst hg'
       rw [← hm3', HTJ.out] at hce
       have x0 : wx.cell? ⟨ga, j * 5, none⟩ = some (.int .u8 k3) := hce 0 _ rfl
       have x1 : wx.cell? ⟨ga, j * 5 + 1, none⟩ = some (.int .i64 n3) := hce 1 _ rfl
       have x2 : wx.cell? ⟨ga, j * 5 + 2, none⟩ = some (.string s3) := hce 2 _ rfl
       have x3 : wx.cell? ⟨ga, j * 5 + 3, none⟩ = some (.slice A3 l3.length cap3) := hce 3 _ rfl
       have x4 : wx.cell? ⟨ga, j * 5 + 4, none⟩ = some (.int .i64 r3) := hce 4 _ rfl
       rw [← hm3'] at hfz
       have hgx : ga < wx.heap.size := by have := HGA.out; have := HFA.out.size; have := hm1.size; rw [hm3']; omega
       clear hm1 hm2 hm3 hm3' hv hsp hce inv2
       rw [er, T.val_mk] at J
       rw [er, T.val_mk]
       rw [er] at HST
       have HJ := hide J
       have HWTX := hide HWT
       clear J hd hf b5 b4 HWT
       go_simp
       exact hK.out _ _ ⟨_, _, _, _, _, _, r, by simp only [Act.put, lq4, lq5, lq6] <;> rfl, HJ.out.store (i := 6) rfl rfl HWTX.out (fun w3 h => by have := HST.out w3 h; simpa only [T.cells, setRow, Nat.add_assoc, Nat.reduceAdd] using this)⟩
    case en =>
     rintro f a wx hall ⟨y0, y1, y2, y3, y4, y5, r, rfl, J⟩
     simp only [Act.put, lq4, lq5, lq6]
     obtain ⟨w3, hfx, hP, hM⟩ := J.m
     obtain ⟨hv, hsp⟩ := hP 4 rfl (hall 4 (by simp))
     have hM' : wx = setRow w3 ga (j * 5) (r 4).cells := by rw [hM]; simp [ow1, hall 6 (by simp)]
     have hst := HINV.out.step hlt (HFA.out.trans hfx) (y := r 4) (by rw [HTJ.out]; exact hv) (by rw [hgb]; exact T.Sp.more (by have := HFA.out.size; omega) (Nat.le_refl _) _ hsp)
     rw [← hM'] at hst
     have hfl : Fr (fun i => (Value.slice (some ⟨ga, 0, none⟩) vs.length c2).ownBlock = some i) w2 wx := by
      rw [hM']
      exact ((HFL.out.thenNo HFA.out).thenNo hfx).trans' (setRow_fr (S := fun i => i = ga) (fun _ => rfl) _ _ _ (Fr.refl (fun i => i = ga) w3)) fun i _ h => by have h' : i = ga := h; rw [h']; rfl
     have HNX := hide (And.intro hst hfl)
     clear J hall hP hM hM' hfx hv hsp hst hfl
     go_wp2_with fail
     go_roundw
     case rel => exact ⟨j + 1, _, hlt, by go_num, HNX.out.1, HNX.out.2⟩
     case measure => simp [intOf]; omega
  · obtain rfl : vs.length = j := by omega
    have hno := HO2.out
    have hz0 := HSZ.out
    have hz1 := HZ2.out
    have hsl := fl.size
    have hrr := HR2.out.fr fl (fun h => by have := (owns_lt hno _ h).1; omega)
    have hsp := T.Sp.more (lo' := w.heap.size + 2) (hi' := wr.heap.size) (by omega) (by omega) _ (T.Sp.fr fl _ (fun b hb h => by
     have := (owns_lt hno _ h).1
     have := (T.In.blocks _ (T.Sp.inn _ HS2.out) b hb).2
     omega) HS2.out)
    have hfit := HX.out.fit
    have hst1 := own_st1 (kind := kind) (home := home) (n1 := n1) (lost := lost) (ofr := ofr) (byr := byr) (set := set) (full := full) ⟨hfit.kind, hfit.home, hfit.n, hfit.lost, hfit.ofr, hfit.byr, hfit.set⟩ hsp inv (by omega) hlv HC2.out
    have HST1 := hide hst1
    have HLV := hide inv.len
    have HVS := hide (inv.vs.trans (by rw [List.take_length]))
    have HFW := hide inv.fr
    have HBR := hide hbr
    have HRR := hide hrr
    have HZR := hide (show w.heap.size + 2 ≤ wr.heap.size by omega)
    have HCN := hide (fun W' (f : Fr No w W') => cloneNam NA names.length nc (nmRow names) W' lo hi ((nm_lies HX.out.names).no f hh) (Nat.le_trans hh f.size) HX.out.names.len1)
    clear hno hz0 hz1 hsl hrr hsp hfit hst1 inv hbr fl hwn HST HO2 HS2 HB2 HR2 HF2 HZ2 HZ1 HF
    go_upto_region 8 with (fail)
    go_cut [] from 30 to 36 (fun wx => ∃ (A4 : Option Addr) (c4 : Nat), wx.ownsRow wr.heap.size 260 6 (.slice A4 names.length c4) names.length (nmRow names) ∧ Blk wx w.heap.size 138 #[.int .u8 kind, .int .i64 home, .int .u8 k1, .int .i64 n2, .string s1, .slice A1 l1.length cap1, .int .i64 r1, .slice A2 vs.length c2, .int .i64 n1, .int .i64 lost, .int .i64 ofr, .int .i64 byr, .int .u8 set, .bool full, .slice CA code.length cc, .slice A4 names.length c4] ∧ Fr (fun i => i = w.heap.size) wr wx)
    case first => as_aux_lemma =>
     go_wp2_with fail
     refine (HCN.out wr HFW.out).mono ?_
     rintro e w2 ⟨A4, c4, rfl, ho2, f2⟩
     have hb2 := HBR.out.fr f2 fun h => h
     have HB2 := hide hb2
     have HO2 := hide ho2
     have HF2 := hide f2
     clear d0 d1 d2 d3 d4 d5 d6 d7 d8 d9 d10 d11 d12 d13 d14 d15 dq f2 ho2
     obtain ⟨d0, d1, d2, d3, d4, d5, d6, d7, d8, d9, d10, d11, d12, d13, d14, d15⟩ := hb2.cells16
     have dq := hb2.lt
     have dz := hb2.frozen
     clear hb2
     go_wp2_with fail
     go_meet
     case rel =>
      have hb3 := HB2.out.set_ 15 (.slice A4 names.length c4)
      simp only [lq4, lq5, lq6] at hb3
      have f3 : Fr (fun i => i = w.heap.size) w2 (w2.setCell ⟨w.heap.size, 15, none⟩ (.slice A4 names.length c4)) := (Fr.refl (fun i => i = w.heap.size) w2).set (fun _ => rfl) _
      have hl0 := HZR.out
      refine ⟨A4, c4, owns_fr HO2.out f3 fun g hg h => ?_, hb3, HF2.out.no.trans f3⟩
      have h' : g = w.heap.size := h
      have := (owns_lt HO2.out g hg).1
      omega
    obtain ⟨A4, c4, ho4, hb4, hf4⟩ := hcut
    obtain ⟨w4, rfl⟩ : ∃ w4 : World, w4 = wc := ⟨_, rfl⟩
    have hzr := HZR.out
    have hfw4 : Fr No w w4 := HFW.out.trans' hf4 fun i hi h => by have h' : i = w.heap.size := h; omega
    have hr4 := HRR.out.fr hf4 (by omega)
    have hst4 := HST1.out.fr hf4 fun b hb h => by have h' : b = w.heap.size := h; have := (HST1.out.inn.has hb).1; omega
    have hni := OwnNI.start ho4 hfw4 HFW.out.size hf4.size
    have HS4 := hide hst4
    have HB4 := hide hb4
    have HR4 := hide hr4
    have HF4 := hide hfw4
    have HNI := hide hni
    have HO4 := hide ho4
    have HC4 := hide (owns_leK ho4)
    have hln : names.length * 80 ≤ 140737488351232 := HX.out.names.len1
    clear d0 d1 d2 d3 d4 d5 d6 d7 d8 d9 d10 d11 d12 d13 d14 d15 dq hst4 hr4 hfw4 hni ho4 hzr HCN HBR HRR hf4
    obtain ⟨d0, d1, d2, d3, d4, d5, d6, d7, d8, d9, d10, d11, d12, d13, d14, d15⟩ := hb4.cells16
    have dq := hb4.lt
    clear hb4
    go_wp2_with fail
    obtain ⟨wo, rfl⟩ : ∃ wo : World, wo = wr := ⟨_, rfl⟩
    go_loopw [37] (fun i wr => ∃ (j : Nat) (ns : List Nm), j ≤ names.length ∧ i = .int .i64 j ∧ OwnNI w wo.heap.size w4.heap.size A4 c4 names j ns wr ∧ Fr (fun i => (Value.slice A4 names.length c4).ownBlock = some i) w4 wr) (fun i _ => names.length - (intOf i).toNat)
    case atStart => exact ⟨0, [], Nat.zero_le _, rfl, HNI.out, Fr.refl _ _⟩
    case round =>
     clear hj hlt
     obtain ⟨j, ns, hj, rfl, inv, fl⟩ := hrel
     have hwn : ¬ (Value.slice A4 names.length c4).ownBlock = some w.heap.size := fun h => by
      have := (owns_lt HO4.out _ h).1
      have := HZR.out
      omega
     have hbr := HB4.out.fr fl hwn
     clear d0 d1 d2 d3 d4 d5 d6 d7 d8 d9 d10 d11 d12 d13 d14 d15 dq
     obtain ⟨d0, d1, d2, d3, d4, d5, d6, d7, d8, d9, d10, d11, d12, d13, d14, d15⟩ := hbr.cells16
     have dq := hbr.lt
     by_cases hlt : j < names.length
     · obtain ⟨ga, rfl, hg0, hg1, hce, hfz⟩ := inv.at_ hlt
       have hmem := List.getElem_mem hlt
       have hin := (HX.out.names.inn _ hmem).2
       have hmv := HMN.out _ hmem
       have hwr := inv.fr
       have hsz := hwr.size
       have hga : ga < wr.heap.size := by have := inv.big.2.2; omega
       have HOJ := hide (fun W' (f : Fr No wr W') => gown_w names[j].2 W' lo hi (hin.no (hwr.trans f) hh) (Nat.le_trans hh (Nat.le_trans hsz f.size)) hmv)
       have HINV := hide inv
       have HFL := hide fl
       have HBR := hide hbr
       have HGA := hide hga
       have HFZ := hide hfz
       obtain ⟨xj, hxj⟩ : ∃ xj, names[j] = xj := ⟨_, rfl⟩
       rw [hxj] at hce HOJ
       have HTJ := hide hxj
       obtain ⟨nm, ⟨k3, n3, s3, A3, cap3, l3, r3⟩⟩ := xj
       have x0 : wr.cell? ⟨ga, j * 6, none⟩ = some (.string nm) := hce 0 _ rfl
       have x1 : wr.cell? ⟨ga, j * 6 + 1, none⟩ = some (.int .u8 k3) := hce 1 _ rfl
       have x2 : wr.cell? ⟨ga, j * 6 + 2, none⟩ = some (.int .i64 n3) := hce 2 _ rfl
       have x3 : wr.cell? ⟨ga, j * 6 + 3, none⟩ = some (.string s3) := hce 3 _ rfl
       have x4 : wr.cell? ⟨ga, j * 6 + 4, none⟩ = some (.slice A3 l3.length cap3) := hce 4 _ rfl
       have x5 : wr.cell? ⟨ga, j * 6 + 5, none⟩ = some (.int .i64 r3) := hce 5 _ rfl
       clear hce hfz inv fl hbr hin hmv hmem hwr hxj hwn
       go_upto_region 11 with (fail)
       go_cut [5, 6] from 38 to 49 (fun i4 b4 wc4 => i4 = .int .i64 (j : Int) ∧ b4 = .pointer (some ⟨wr.heap.size, 0, none⟩) ∧ wc4 = wr.alloc (.cells #[.string nm, .int .u8 k3, .int .i64 n3, .string s3, .slice A3 l3.length cap3, .int .i64 r3] 260))
       case first => as_aux_lemma =>
        go_wp2_with fail
        go_meet
        case rel => exact ⟨rfl, rfl, rfl⟩
       obtain ⟨rfl, rfl, rfl⟩ := hcut
       have hba := Blk.new wr 260 #[.string nm, .int .u8 k3, .int .i64 n3, .string s3, .slice A3 l3.length cap3, .int .i64 r3]
       have hfa := (Fr.refl No wr).alloc (.cells #[.string nm, .int .u8 k3, .int .i64 n3, .string s3, .slice A3 l3.length cap3, .int .i64 r3] 260)
       have HBA := hide hba
       have HFA := hide hfa
       have hWb := HBR.out.fr hfa fun h => h
       have HWB := hide hWb
       clear hba hfa hWb x0 x1 x2 x3 x4 x5 d0 d1 d2 d3 d4 d5 d6 d7 d8 d9 d10 d11 d12 d13 d14 d15 dq
       go_upto_region 12 with (fail)
       generalize hgb : wr.heap.size = gb at *
       generalize World.alloc wr _ = Wa at *
       rw [T.val_mk] at HOJ
       refine wp_region_inv (I := fun a0 f a wx => ∃ y0 y1 y2 y3 y4 y5 y6 y7 r, a = ((((((((a0.put (some 42) y0).put (some 43) y1).put (some 44) y2).put (some 45) y3).put (some 46) y4).put (some 47) y5).put (some 48) y6).put (some 49) y7) ∧ RcI (ow2 (.pointer (some ⟨w.heap.size, 15, none⟩)) (.slice (some ⟨ga, 0, none⟩) names.length c4) (.int .i64 (j : Int)) (.pointer (some ⟨gb, 1, none⟩)) ga (j * 6) (.agg #[.int .u8 k3, .int .i64 n3, .string s3, .slice A3 l3.length cap3, .int .i64 r3]) (T.mk k3 n3 s3 A3 cap3 l3 r3).v) Wa f [y0, y1, y2, y3, y4, y5, y6, y7, undef] r wx) (by kernel_rfl) (by kernel_rfl) ?st ?step ?en
       case st => exact ⟨_, _, _, _, _, _, _, _, (fun _ => T.zero), by simp only [Act.put, lq4, lq5, lq6] <;> rfl, RcI.begin ow2_ok Wa _ _⟩
       case step => as_aux_lemma =>
        rintro i oo f a wx ho hf hd ⟨y0, y1, y2, y3, y4, y5, y6, y7, r, rfl, J⟩ K' hK
        have hidx := (Array.getElem?_eq_some_iff.1 ho).1
        simp only [List.size_toArray, List.length_cons, List.length_nil] at hidx
        have hid : i = 0 ∨ i = 1 ∨ i = 2 ∨ i = 3 ∨ i = 4 ∨ i = 5 ∨ i = 6 ∨ i = 7 ∨ i = 8 := by omega
        simp only [Act.put, lq4, lq5, lq6]
        rcases hid with rfl | rfl | rfl | rfl | rfl | rfl | rfl | rfl | rfl
        · simp only [lq1, lq3, Option.some.injEq] at ho; subst ho
          have HFI := hide hf
          have HJ := hide J
          clear J hd hf  
          go_simp
          exact hK.out _ _ ⟨_, _, _, _, _, _, _, _, r, by simp only [Act.put, lq4, lq5, lq6] <;> rfl, HJ.out.quiet ow2_ok (i := 0) rfl rfl (by simp) (fun c h => nomatch h)⟩
        · simp only [lq1, lq2, lq3, Option.some.injEq] at ho; subst ho
          have b0 := hd ⟨0, .data⟩ (by simp) (by rfl)
          obtain rfl : y0 = .pointer (some ⟨w.heap.size, 15, none⟩) := J.x 0 b0 rfl
          have FX := hide (J.fr ow2_ok (J.none hf fun s hs => ow2_dep (by decide) hs))
          have HFI := hide hf
          have B0 := hide b0
          have hB := HWB.out.fr FX.out fun h => h
          have hq := hB.lt
          have c15 : wx.cell? ⟨w.heap.size, 15, none⟩ = some (.slice (some ⟨ga, 0, none⟩) names.length c4) := hB.cell 15
          clear hB
          have HJ := hide J
          clear J hd hf b0 
          go_simp
          exact hK.out _ _ ⟨_, _, _, _, _, _, _, _, r, by simp only [Act.put, lq4, lq5, lq6] <;> rfl, HJ.out.quiet ow2_ok (i := 1) rfl rfl (by simp) (fun c h => nomatch h)⟩
        · simp only [lq1, lq2, lq3, Option.some.injEq] at ho; subst ho
          have HFI := hide hf
          have HJ := hide J
          clear J hd hf  
          go_simp
          exact hK.out _ _ ⟨_, _, _, _, _, _, _, _, r, by simp only [Act.put, lq4, lq5, lq6] <;> rfl, HJ.out.quiet ow2_ok (i := 2) rfl rfl (by simp) (fun c h => nomatch h)⟩
        · simp only [lq1, lq2, lq3, Option.some.injEq] at ho; subst ho
          have HFI := hide hf
          have hgq := HBA.out.lt
          have HJ := hide J
          clear J hd hf  
          go_simp
          exact hK.out _ _ ⟨_, _, _, _, _, _, _, _, r, by simp only [Act.put, lq4, lq5, lq6] <;> rfl, HJ.out.quiet ow2_ok (i := 3) rfl rfl (by simp) (fun c h => nomatch h)⟩
        · simp only [lq1, lq2, lq3, Option.some.injEq] at ho; subst ho
          have b3 := hd ⟨3, .data⟩ (by simp) (by rfl)
          obtain rfl : y3 = .pointer (some ⟨gb, 1, none⟩) := J.x 3 b3 rfl
          have FX := hide (J.fr ow2_ok (J.none hf fun s hs => ow2_dep (by decide) hs))
          have HFI := hide hf
          have B3 := hide b3
          have hB := HBA.out.fr FX.out fun h => h
          have hq := hB.lt
          have c1 : wx.cell? ⟨gb, 1, none⟩ = some (.int .u8 k3) := hB.cell 1
          have c2 : wx.cell? ⟨gb, 2, none⟩ = some (.int .i64 n3) := hB.cell 2
          have c3 : wx.cell? ⟨gb, 3, none⟩ = some (.string s3) := hB.cell 3
          have c4 : wx.cell? ⟨gb, 4, none⟩ = some (.slice A3 l3.length cap3) := hB.cell 4
          have c5 : wx.cell? ⟨gb, 5, none⟩ = some (.int .i64 r3) := hB.cell 5
          clear hB
          have HJ := hide J
          clear J hd hf b3 
          go_simp
          exact hK.out _ _ ⟨_, _, _, _, _, _, _, _, r, by simp only [Act.put, lq4, lq5, lq6] <;> rfl, HJ.out.quiet ow2_ok (i := 4) rfl rfl (by simp) (fun c h => nomatch h)⟩
        · simp only [lq1, lq2, lq3, Option.some.injEq] at ho; subst ho
          have b4 := hd ⟨4, .data⟩ (by simp) (by rfl)
          obtain rfl : y4 = .agg #[.int .u8 k3, .int .i64 n3, .string s3, .slice A3 l3.length cap3, .int .i64 r3] := J.x 4 b4 rfl
          have FX := hide (J.fr ow2_ok (J.none hf fun s hs => ow2_dep (by decide) hs))
          have HFI := hide hf
          have B4 := hide b4
          have HJ := hide J
          clear J hd hf b4 
          go_simp
          have hcon := HOJ.out wx (HFA.out.trans FX.out)
          refine hcon.mono ?_
          rintro e w2 ⟨b, he, hv, hsh, f2⟩
          have HF2 := hide f2
          have HPT := hide (And.intro hv (T.Sp.more FX.out.size (Nat.le_refl _) _ hsh.sp))
          subst he
          clear f2 hv hsh
          try go_simp
          exact hK.out _ _ ⟨_, _, _, _, _, _, _, _, _, by simp only [Act.put, lq4, lq5, lq6] <;> rfl, HJ.out.call ow2_ok HFI.out rfl rfl (by simp) (fun c h => nomatch h) HF2.out (b := b) HPT.out⟩
        · simp only [lq1, lq2, lq3, Option.some.injEq] at ho; subst ho
          have b1 := hd ⟨1, .data⟩ (by simp) (by rfl)
          obtain rfl : y1 = .slice (some ⟨ga, 0, none⟩) names.length c4 := J.x 1 b1 rfl
          have b2 := hd ⟨2, .data⟩ (by simp) (by rfl)
          obtain rfl : y2 = .int .i64 (j : Int) := J.x 2 b2 rfl
          have FX := hide (J.fr ow2_ok (J.none hf fun s hs => ow2_dep (by decide) hs))
          have HFI := hide hf
          have B1 := hide b1
          have B2 := hide b2
          have hjl : (j : Int) < (names.length : Int) := by omega
          have HJ := hide J
          clear J hd hf b1 b2 
          go_simp
          exact hK.out _ _ ⟨_, _, _, _, _, _, _, _, r, by simp only [Act.put, lq4, lq5, lq6] <;> rfl, HJ.out.quiet ow2_ok (i := 6) rfl rfl (by simp) (fun c h => nomatch h)⟩
        · simp only [lq1, lq2, lq3, Option.some.injEq] at ho; subst ho
          have b6 := hd ⟨6, .data⟩ (by simp) (by rfl)
          obtain rfl : y6 = .pointer (some ⟨ga, j * 6, none⟩) := J.x 6 b6 rfl
          have FX := hide (J.fr ow2_ok (J.none hf fun s hs => ow2_dep (by decide) hs))
          have HWT : ∀ c, (ow2 (.pointer (some ⟨w.heap.size, 15, none⟩)) (.slice (some ⟨ga, 0, none⟩) names.length c4) (.int .i64 (j : Int)) (.pointer (some ⟨gb, 1, none⟩)) ga (j * 6) (.agg #[.int .u8 k3, .int .i64 n3, .string s3, .slice A3 l3.length cap3, .int .i64 r3]) (T.mk k3 n3 s3 A3 cap3 l3 r3).v).dep 7 c = true → f c = true := by
           intro c hc
           have hc' : c = 6 := by simpa [ow2] using hc
           rcases hc' with rfl
           · first | exact waits hd (by rfl)
          have HFI := hide hf
          have B6 := hide b6
          have hgx : ga < wx.heap.size := by have := HGA.out; have := HFA.out.size; have := FX.out.size; omega
          have HJ := hide J
          have HWTX := hide HWT
          clear J hd hf b6 HWT
          go_simp
          exact hK.out _ _ ⟨_, _, _, _, _, _, _, _, r, by simp only [Act.put, lq4, lq5, lq6] <;> rfl, HJ.out.quiet ow2_ok (i := 7) rfl rfl (by simp) HWTX.out⟩
        · simp only [lq1, lq2, lq3, Option.some.injEq] at ho; subst ho
          have b7 := hd ⟨7, .data⟩ (by simp) (by rfl)
          obtain rfl : y7 = .pointer (some ⟨ga, j * 6 + 1, none⟩) := J.x 7 b7 rfl
          have b5 := hd ⟨5, .data⟩ (by simp) (by rfl)
          obtain rfl : y5 = (r 5).val := J.x 5 b5 rfl
          have HWT : ∀ c, (ow2 (.pointer (some ⟨w.heap.size, 15, none⟩)) (.slice (some ⟨ga, 0, none⟩) names.length c4) (.int .i64 (j : Int)) (.pointer (some ⟨gb, 1, none⟩)) ga (j * 6) (.agg #[.int .u8 k3, .int .i64 n3, .string s3, .slice A3 l3.length cap3, .int .i64 r3]) (T.mk k3 n3 s3 A3 cap3 l3 r3).v).dep 8 c = true → f c = true := by
           intro c hc
           have hc' : c = 0 ∨ c = 1 ∨ c = 2 ∨ c = 3 ∨ c = 4 ∨ c = 5 ∨ c = 6 ∨ c = 7 := by have : c ≤ 7 := of_decide_eq_true hc; omega
           rcases hc' with rfl | rfl | rfl | rfl | rfl | rfl | rfl | rfl
           · first | exact waits hd (by rfl) | exact J.d 7 0 rfl (waits hd (by rfl))
           · first | exact waits hd (by rfl) | exact J.d 7 1 rfl (waits hd (by rfl))
           · first | exact waits hd (by rfl) | exact J.d 7 2 rfl (waits hd (by rfl))
           · first | exact waits hd (by rfl) | exact J.d 7 3 rfl (waits hd (by rfl))
           · first | exact waits hd (by rfl) | exact J.d 7 4 rfl (waits hd (by rfl))
           · first | exact waits hd (by rfl) | exact J.d 7 5 rfl (waits hd (by rfl))
           · first | exact waits hd (by rfl) | exact J.d 7 6 rfl (waits hd (by rfl))
           · first | exact waits hd (by rfl) | exact J.d 7 7 rfl (waits hd (by rfl))
          have HFI := hide hf
          have B7 := hide b7
          have B5 := hide b5
          have hM := J.m
          obtain ⟨w3, hm1, hm2, hm3⟩ := hM
          have hm3' : wx = w3 := by rw [hm3]; simp [ow2, hf]
          obtain ⟨hv, hsp⟩ := hm2 5 rfl (HWT 5 rfl)
          have HST := hide (fun w3 (h : wx = (ow2 (.pointer (some ⟨w.heap.size, 15, none⟩)) (.slice (some ⟨ga, 0, none⟩) names.length c4) (.int .i64 (j : Int)) (.pointer (some ⟨gb, 1, none⟩)) ga (j * 6) (.agg #[.int .u8 k3, .int .i64 n3, .string s3, .slice A3 l3.length cap3, .int .i64 r3]) (T.mk k3 n3 s3 A3 cap3 l3 r3).v).M f r w3) => ow2_st8 hf h)
          obtain ⟨k9, n9, s9, A9, cap9, l9, r9, er⟩ : ∃ k9 n9 s9 A9 cap9 l9 r9, r 5 = T.mk k9 n9 s9 A9 cap9 l9 r9 := by cases r 5; exact ⟨_, _, _, _, _, _, _, rfl⟩
          have inv2 := (HINV.out.no HFA.out).no hm1
          obtain ⟨g', hg', -, -, hce, hfz⟩ := inv2.at_ (by omega)
          simp only [Option.some.injEq, Addr.mk.injEq, and_true] at hg'
          subst hg'
          rw [← hm3', HTJ.out] at hce
          have x1 : wx.cell? ⟨ga, j * 6 + 1, none⟩ = some (.int .u8 k3) := hce 1 _ rfl
          have x2 : wx.cell? ⟨ga, j * 6 + 2, none⟩ = some (.int .i64 n3) := hce 2 _ rfl
          have x3 : wx.cell? ⟨ga, j * 6 + 3, none⟩ = some (.string s3) := hce 3 _ rfl
          have x4 : wx.cell? ⟨ga, j * 6 + 4, none⟩ = some (.slice A3 l3.length cap3) := hce 4 _ rfl
          have x5 : wx.cell? ⟨ga, j * 6 + 5, none⟩ = some (.int .i64 r3) := hce 5 _ rfl
          rw [← hm3'] at hfz
          have hgx : ga < wx.heap.size := by have := HGA.out; have := HFA.out.size; have := hm1.size; rw [hm3']; omega
          clear hm1 hm2 hm3 hm3' hv hsp hce inv2
          rw [er, T.val_mk] at J
          rw [er, T.val_mk]
          rw [er] at HST
          have HJ := hide J
          have HWTX := hide HWT
          clear J hd hf b7 b5 HWT
          go_simp
          exact hK.out _ _ ⟨_, _, _, _, _, _, _, _, r, by simp only [Act.put, lq4, lq5, lq6] <;> rfl, HJ.out.store (i := 8) rfl rfl HWTX.out (fun w3 h => by have := HST.out w3 h; simpa only [T.cells, setRow, Nat.add_assoc, Nat.reduceAdd] using this)⟩
       case en =>
        rintro f a wx hall ⟨y0, y1, y2, y3, y4, y5, y6, y7, r, rfl, J⟩
        simp only [Act.put, lq4, lq5, lq6]
        obtain ⟨w3, hfx, hP, hM⟩ := J.m
        obtain ⟨hv, hsp⟩ := hP 5 rfl (hall 5 (by simp))
        have hM' : wx = setRow w3 ga (j * 6 + 1) (r 5).cells := by rw [hM]; simp [ow2, hall 8 (by simp)]
        have hst := HINV.out.step hlt (HFA.out.trans hfx) (y := r 5) (by rw [HTJ.out]; exact hv) (by rw [hgb]; exact T.Sp.more (by have := HFA.out.size; omega) (Nat.le_refl _) _ hsp)
        rw [← hM'] at hst
        have hfl : Fr (fun i => (Value.slice (some ⟨ga, 0, none⟩) names.length c4).ownBlock = some i) w4 wx := by
         rw [hM']
         exact ((HFL.out.thenNo HFA.out).thenNo hfx).trans' (setRow_fr (S := fun i => i = ga) (fun _ => rfl) _ _ _ (Fr.refl (fun i => i = ga) w3)) fun i _ h => by have h' : i = ga := h; rw [h']; rfl
        have HNX := hide (And.intro hst hfl)
        clear J hall hP hM hM' hfx hv hsp hst hfl
        go_wp2_with fail
        go_roundw
        case rel => exact ⟨j + 1, _, hlt, by go_num, HNX.out.1, HNX.out.2⟩
        case measure => simp [intOf]; omega
     · obtain rfl : names.length = j := by omega
       have hno := HO4.out
       have hz0 := HZR.out
       have hsl := fl.size
       have hrr := HR4.out.fr fl (fun h => by have := (owns_lt hno _ h).1; omega)
       have hst5 := own_st2 (HS4.out.fr fl fun b hb h => by
        have := (owns_lt hno _ h).1
        have := (HST1.out.inn.has hb).2
        omega) inv hz0 hln HC4.out fun x hx => (HX.out.names.inn x hx).1
       have HST5 := hide hst5
       have HNS := hide (And.intro inv.len (inv.vs.trans (by rw [List.take_length])))
       have HFW5 := hide inv.fr
       have HBR5 := hide hbr
       have HRR5 := hide hrr
       have HZR5 := hide (show w.heap.size + 2 ≤ wr.heap.size by have := inv.big.2; omega)
       have HOC := hide (fun W' (f : Fr No w W') => ownCode_any code W' lo hi CA cc (HX.out.code.fr f hh fun _ _ _ h => h) (Nat.le_trans hh f.size))
       clear hno hz0 hsl hrr hst5 inv hbr fl hwn HO4 HS4 HB4 HR4 HST1 HNI HFW HF4 HZR
       go_upto_region 14 with (fail)
       go_cut [] from 51 to 54 (fun wx => ∃ (A6 : Option Addr) (c6 : Nat) (l6 : List G), (l6.length = code.length ∧ code.length ≤ c6 ∧ (∀ x ∈ l6, Ty 311 x) ∧ l6.map G.er = code.map G.er ∧ (G.row A6 l6).In wx wr.heap.size wx.heap.size ∧ (G.row A6 l6).Td wx) ∧ Blk wx w.heap.size 138 #[.int .u8 kind, .int .i64 home, .int .u8 k1, .int .i64 n2, .string s1, .slice A1 l1.length cap1, .int .i64 r1, .slice A2 vs.length c2, .int .i64 n1, .int .i64 lost, .int .i64 ofr, .int .i64 byr, .int .u8 set, .bool full, .slice A6 code.length c6, .slice A4 names.length c4] ∧ Fr (fun i => i = w.heap.size) wr wx)
       case first => as_aux_lemma =>
        go_wp2_with fail
        refine (HOC.out wr HFW5.out).mono ?_
        rintro e w2 ⟨A6, c6, l6, rfl, q1, q2, q3, q4, q5, q6, f2⟩
        have hb2 := HBR5.out.fr f2 fun h => h
        have HB2 := hide hb2
        have HO2 := hide (And.intro q1 (And.intro q2 (And.intro q3 (And.intro q4 (And.intro q5 q6)))))
        have HF2 := hide f2
        clear d0 d1 d2 d3 d4 d5 d6 d7 d8 d9 d10 d11 d12 d13 d14 d15 dq f2 q1 q2 q3 q4 q5 q6
        obtain ⟨d0, d1, d2, d3, d4, d5, d6, d7, d8, d9, d10, d11, d12, d13, d14, d15⟩ := hb2.cells16
        have dq := hb2.lt
        have dz := hb2.frozen
        clear hb2
        go_wp2_with fail
        go_meet
        case rel =>
         have hb3 := HB2.out.set_ 14 (.slice A6 code.length c6)
         simp only [lq4, lq5, lq6] at hb3
         have f3 : Fr (fun i => i = w.heap.size) w2 (w2.setCell ⟨w.heap.size, 14, none⟩ (.slice A6 code.length c6)) := (Fr.refl (fun i => i = w.heap.size) w2).set (fun _ => rfl) _
         have hl0 := HZR5.out
         obtain ⟨q1, q2, q3, q4, q5, q6⟩ := HO2.out
         have hne : ∀ b, (G.row A6 l6).Has b → ¬ b = w.heap.size := fun b hb h => by
          have := (G.In.has hb q5).1
          omega
         exact ⟨A6, c6, l6, ⟨q1, q2, q3, q4, G.In.more (Nat.le_refl _) f3.size _ (q5.frH f3 (Nat.le_refl _) hne), q6.fr f3 hne⟩, hb3, HF2.out.no.trans f3⟩
       obtain ⟨A6, c6, l6, ⟨q1, q2, q3, q4, q5, q6⟩, hb6, hf6⟩ := hcut
       obtain ⟨w6, rfl⟩ : ∃ w6 : World, w6 = wc := ⟨_, rfl⟩
       have hzr := HZR5.out
       have hs6 := hf6.size
       have hfw6 : Fr No w w6 := HFW5.out.trans' hf6 fun i hi h => by have h' : i = w.heap.size := h; omega
       have hr6 := HRR5.out.fr hf6 (by omega)
       have hst6 := own_st3 (HST5.out.fr hf6 fun b hb h => by have h' : b = w.heap.size := h; have := (HST5.out.inn.has hb).1; omega) (cc := c6) (by rw [q1]; exact HX.out.code.len1) (by rw [q1]; exact q2) q3 (G.In.more (by omega) (Nat.le_refl _) _ q5) q6
       have HS6 := hide hst6
       have HR6 := hide hr6
       have HF6 := hide hfw6
       have HQ6 := hide (And.intro q1 q4)
       have HLT6 := hide (show w.heap.size + 2 ≤ w6.heap.size by omega)
       clear d0 d1 d2 d3 d4 d5 d6 d7 d8 d9 d10 d11 d12 d13 d14 d15 dq hst6 hfw6 q1 q2 q3 q4 q5 q6 hzr hs6 hf6 HOC HBR5 HRR5 HST5 HFW5 HZR5
       obtain ⟨d0, d1, d2, d3, d4, d5, d6, d7, d8, d9, d10, d11, d12, d13, d14, d15⟩ := hb6.cells16
       have dq := hb6.lt
       obtain ⟨e0, e1, e2, e3, e4, e5, e6, e7, e8, e9, e10, e11, e12, e13, e14, e15⟩ := hr6.cells16
       have eq_ := hr6.lt
       have ez := hr6.frozen
       clear hb6 hr6
       go_wp2_with fail
       generalize hWe : World.setCell _ _ _ = W
       have hbF := ((((((((((((((((HR6.out.set_ 0 (.int .u8 kind)).set_ 1 (.int .i64 home)).set_ 2 (.int .u8 k1)).set_ 3 (.int .i64 n2)).set_ 4 (.string s1)).set_ 5 (.slice A1 l1.length cap1)).set_ 6 (.int .i64 r1)).set_ 7 (.slice A2 vs.length c2)).set_ 8 (.int .i64 n1)).set_ 9 (.int .i64 lost)).set_ 10 (.int .i64 ofr)).set_ 11 (.int .i64 byr)).set_ 12 (.int .u8 set)).set_ 13 (.bool full)).set_ 14 (.slice A6 code.length c6)).set_ 15 (.slice A4 names.length c4))
       simp only [lq4, lq5, lq6] at hbF
       rw [hWe] at hbF
       have hfF : Fr (fun i => i = w.heap.size + 1) w6 W := by
        rw [← hWe]
        repeat (first | with_reducible exact Fr.refl _ w6 | with_reducible refine Fr.set ?_ (by simp) _)
       clear hWe d0 d1 d2 d3 d4 d5 d6 d7 d8 d9 d10 d11 d12 d13 d14 d15 e0 e1 e2 e3 e4 e5 e6 e7 e8 e9 e10 e11 e12 e13 e14 e15 dq eq_ ez
       obtain ⟨e0, e1, e2, e3, e4, e5, e6, e7, e8, e9, e10, e11, e12, e13, e14, e15⟩ := hbF.cells16
       refine bodyPost_ret (v := .agg #[.int .u8 kind, .int .i64 home, .int .u8 k1, .int .i64 n2, .string s1, .slice A1 l1.length cap1, .int .i64 r1, .slice A2 vs.length c2, .int .i64 n1, .int .i64 lost, .int .i64 ofr, .int .i64 byr, .int .u8 set, .bool full, .slice A6 code.length c6, .slice A4 names.length c4]) (by simp [results, Tryz.results150, go_sem, e0, e1, e2, e3, e4, e5, e6, e7, e8, e9, e10, e11, e12, e13, e14, e15]) rfl ?_
       rw [← HQ.out]
       obtain ⟨hq1, hq2⟩ := HQ6.out
       obtain ⟨hn1, hn2⟩ := HNS.out
       have hlt6 := HLT6.out
       have hs6 := HS6.out
       refine ⟨⟨kind, home, T.mk k1 n2 s1 A1 cap1 l1 r1, A2, c2, l', n1, lost, ofr, byr, set, full, A6, c6, l6, A4, c4, ns⟩, ?_, ⟨rfl, rfl, rfl, rfl, rfl, rfl, rfl, rfl⟩, HV1.out, HVS.out, hq2, hn2, (hs6.fr hfF fun b hb h => by have h' : b = w.heap.size + 1 := h; have := (hs6.inn.has hb).1; omega).more (by omega), HF6.out.trans' hfF fun i hi h => by have h' : i = w.heap.size + 1 := h; omega⟩
       show Ending.returned (.agg #[.int .u8 kind, .int .i64 home, .int .u8 k1, .int .i64 n2, .string s1, .slice A1 l1.length cap1, .int .i64 r1, .slice A2 vs.length c2, .int .i64 n1, .int .i64 lost, .int .i64 ofr, .int .i64 byr, .int .u8 set, .bool full, .slice A6 code.length c6, .slice A4 names.length c4]) = Ending.returned (.agg #[.int .u8 kind, .int .i64 home, .int .u8 k1, .int .i64 n2, .string s1, .slice A1 l1.length cap1, .int .i64 r1, .slice A2 l'.length c2, .int .i64 n1, .int .i64 lost, .int .i64 ofr, .int .i64 byr, .int .u8 set, .bool full, .slice A6 l6.length c6, .slice A4 ns.length c4])
       rw [hq1, hn1, HLV.out]
end Go.Proofs.YtlejelbefmkakaaGreat

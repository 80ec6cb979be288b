/- Texts joined: Hf4, Wo24, Gf10, Gf11. -/
import Derived.Test.YtlejelbefmkakaaGreatJn1
import Derived.Test.YtlejelbefmkakaaGreatJn8
import Derived.Test.YtlejelbefmkakaaGreatJn26
import Derived.Test.YtlejelbefmkakaaGreatJn27
import Derived.Test.YtlejelbefmkakaaGreatJn28
import Derived.Test.YtlejelbefmkakaaGreatJn29
namespace Go.Proofs.YtlejelbefmkakaaGreat
open Go.RowKit
theorem prev_nonneg {k : Nat} {ths : List (Int × Tg)} {last : Int} (h : ∀ i, GoodT k ths last i) : ∀ i, i ≤ ths.length → 0 ≤ prevOf ths i
 | 0, _ => Int.le_refl _
 | i + 1, hi => by
  have h1 := prev_nonneg h i (by omega)
  have hg : ths[i]? = some ths[i] := List.getElem?_eq_getElem (by omega)
  have h2 := (h i _ hg).2.2
  show 0 ≤ (ths[i]?.map Prod.fst).getD 0
  rw [hg]
  simp only [Option.map_some, Option.getD_some]
  omega
theorem sub_of {s a : Nat} (hs : s < 256) (ha : a < 64) (h : (bits .andNot .u8 (s : Int) (a : Int) == 0) = true) : s &&& a = s := by
 rw [u8_andNot_nat s a hs (by omega)] at h
 have : ∀ s : Fin 256, ∀ a : Fin 64, (((s.val &&& (255 - a.val) : Nat) : Int) == 0) = true → s.val &&& a.val = s.val := by decide +kernel
 exact this ⟨s, hs⟩ ⟨a, ha⟩ h
theorem fw_of {ps cuts : List Int} {ths : List (Int × Tg)} {last : Int} {made : List Int} {m : Gm} {lo : Nat} {W : World} (hf : FromOk ps cuts ths last made) (hl : ths.length ≤ 60) (hok : m.Ok lo W) (hlo : lo ≤ W.heap.size)
 (hpl : m.pl = (Gm.ofT ths).pl) (hfac : FacI m (fun i => ∃ x, m.th[i]? = some x) m.fac) (hla : m.last = last) : FW m lo 0 W := by
 have hsnd := hf.snd.sim hpl.symm
 have hm16 : made.length ≤ 16 := by have := hf.new.1; have := hf.sides; omega
 have hsum : 0 ≤ made.sum ∧ made.sum ≤ 512 * 16 := by
  have := sum_good (ths := ths) (made := made) (j := made.length) (k := 16) (fun i _ => hf.mades i) hm16
  rw [List.take_length] at this
  simpa using this
 have hone : ∀ x ∈ m.th, ∃ (i : Nat) (z : Int × Tg), ths[i]? = some z ∧ z.1 = x.1 ∧ z.2.pl = x.2.2.pl ∧ z.2.Form made.length ∧ 1 ≤ x.1 ∧ x.1 ≤ last := fun x hx => by
  have hpm : plE x ∈ m.pl := List.mem_map.2 ⟨x, hx, rfl⟩
  rw [hpl, ofT_pl] at hpm
  obtain ⟨z, hz, e⟩ := List.mem_map.1 hpm
  obtain ⟨i, hi⟩ := List.mem_iff_getElem?.1 hz
  have hg := hf.thing i z hi
  have hp := prev_nonneg (fun i => hf.thing i) i (by have := (List.getElem?_eq_some_iff.1 hi).1; omega)
  have e1 : z.1 = x.1 := congrArg Prod.fst e
  have e2 : z.2.pl = x.2.2.pl := congrArg Prod.snd e
  exact ⟨i, z, hi, e1, e2, hg.1, by omega, by omega⟩
 have hthl : m.th.length ≤ 60 := by rw [pl_len hpl]; exact hl
 have hfl : m.fac.length ≤ 60 := by
  have := nodup_le hfac.nod (k := m.th.map Prod.fst) fun y hy => by
   obtain ⟨⟨o, s, r⟩, hff, rfl⟩ := List.mem_map.1 hy
   obtain ⟨j, z, hz, -, hz1, -⟩ := (hfac.mem o s r).1 hff
   exact List.mem_map.2 ⟨z, List.mem_of_getElem? hz, hz1⟩
  rw [List.length_map, List.length_map] at this
  omega
 have hset : ∀ r x, m.get r = some x → 0 ≤ x.2.set ∧ x.2.set < 256 := fun r x hx => (hok.st _ (Gm.get_mem hx)).inn.fit.set
 have habl : ∀ r x, m.get r = some x → ∃ a, m.Abl r a := fun r x hx => by
  obtain ⟨n, hn⟩ := hsnd.hgt _ (Gm.get_mem hx)
  exact hn.abl fun r x hx => (hset r x hx).1
 refine ⟨hok, hlo, ⟨fun x hx => ?_, fun x hx => ?_, ?_, habl, fun r x hx hk => ?_, fun o s r => ?_⟩, fun x hx => ?_, ?_⟩
 · obtain ⟨i, z, -, -, -, -, h1, h2⟩ := hone x hx
   rw [hla]
   exact ⟨h1, h2⟩
 · obtain ⟨i, z, -, -, e2, hform, -, -⟩ := hone x hx
   have hb := hform.1
   unfold Tg.Bad1 at hb
   have e3 := congrArg TgV.kind e2
   simp only [Tg.pl] at e3
   have h0 := (hok.st x hx).inn.fit.kind
   rw [← e3] at h0 ⊢
   have a1 : z.2.kind ≠ 0 := fun h => hb (.inl h)
   have a2 : ¬ 16 < z.2.kind := fun h => hb (.inr (.inl h))
   omega
 · rw [hla]
   have := hf.lasts
   omega
 · have hfit := hsnd.fit _ (Gm.get_mem hx)
   unfold Gm.fitS at hfit
   simp only at hfit
   rw [if_pos hk] at hfit
   simp only [Bool.and_eq_true, bne_iff_ne, ne_eq] at hfit
   obtain ⟨⟨⟨h1, h2⟩, h3⟩, h4⟩ := hfit
   obtain ⟨y, hy⟩ := Option.isSome_iff_exists.1 h1
   obtain ⟨a, ha⟩ := habl _ y hy
   rw [Gm.abl_eq ha] at h3 h4
   have hs := hset r x hx
   obtain ⟨s, hs'⟩ : ∃ s : Nat, x.2.set = (s : Int) := ⟨x.2.set.toNat, by omega⟩
   rw [hs'] at h3 h4
   have hsub := sub_of (by omega) ha.lt h4
   have hs64 : s < 64 := by
    rw [← hsub]
    exact Nat.lt_of_le_of_lt Nat.and_le_right ha.lt
   have hyk : y.2.kind ≠ 14 := fun e => by
    unfold Gm.kind at h2
    rw [hy] at h2
    exact h2 e
   exact ⟨s, hs', hs64, y, hy, hyk, a, ha, hsub, fun e => h3 (by rw [e])⟩
 · rw [hfac.mem]
   constructor
   · rintro ⟨i, x, hx, -, e1, e2, e3, e4⟩
     refine ⟨x.2, ?_, e2, e3, e4⟩
     rw [← e1]
     exact Gm.get_of hok.keys (List.mem_of_getElem? hx)
   · rintro ⟨x, hx, e2, e3, e4⟩
     obtain ⟨i, hi⟩ := List.mem_iff_getElem?.1 (Gm.get_mem hx)
     exact ⟨i, _, hi, ⟨_, hi⟩, rfl, e2, e3, e4⟩
 · obtain ⟨i, z, -, -, e2, hform, -, -⟩ := hone x hx
   exact hform.Mays.sim e2
 · have := hf.lasts
   rw [hla]
   refine ⟨by omega, by omega, by omega⟩
def ReadW (W : World) (e : Ending) (w' : World) : Prop :=
 (e = .returned (.pointer none) ∧ Fr No W w') ∨ ∃ m : Gm, e = .returned (.pointer (some ⟨m.wb, 0, none⟩)) ∧ FW m W.heap.size 0 w' ∧ Fr No W w'
set_option maxRecDepth 100000 in
set_option maxHeartbeats 4000000 in
theorem read_w (PA : Option Addr) (pc : Nat) (ps : List Int) (CA : Option Addr) (cc : Nat) (cuts : List Int) (TA : Option Addr) (tc : Nat) (ths : List (Int × Tg)) (last : Int) (MA : Option Addr) (mc : Nat) (made : List Int) (W : World) (lo hi : Nat)
 (hp : Ints W lo hi PA pc ps) (hc : Ints W lo hi CA cc cuts) (ht : EnRow W lo hi TA tc ths) (hm : Ints W lo hi MA mc made) (hla : -9223372036854775808 ≤ last ∧ last ≤ 9223372036854775807) (hh : hi ≤ W.heap.size) :
 Calls Tryz.prog 77 #[.agg #[.slice PA ps.length pc, .slice CA cuts.length cc, .slice TA ths.length tc, .int .i64 last, .slice MA made.length mc]] W (ReadW W) := by
 have hf0 := (Fr.refl No W).alloc (.cells #[.slice PA ps.length pc, .slice CA cuts.length cc, .slice TA ths.length tc, .int .i64 last, .slice MA made.length mc] 71)
 have hb0 := Blk.new W 71 #[.slice PA ps.length pc, .slice CA cuts.length cc, .slice TA ths.length tc, .int .i64 last, .slice MA made.length mc]
 have hF := fun hlen => From_g PA pc ps CA cc cuts TA tc ths last MA mc made (W.alloc (.cells #[.slice PA ps.length pc, .slice CA cuts.length cc, .slice TA ths.length tc, .int .i64 last, .slice MA made.length mc] 71)) lo hi (hp.noI hf0 hh) (hc.noI hf0 hh) (ht.no hf0 hh) (hm.noI hf0 hh) hla (Nat.le_trans hh hf0.size) hlen
 have HF := hide hF
 have HF0 := hide hf0
 have htl := ht.len
 have d0 := hb0.cell 0
 have d1 := hb0.cell 1
 have d2 := hb0.cell 2
 have d3 := hb0.cell 3
 have d4 := hb0.cell 4
 have dq := hb0.lt
 simp only [List.getElem?_toArray, List.getElem?_cons_zero, List.getElem?_cons_succ] at d0 d1 d2 d3 d4
 clear hp hc ht hm hf0 hb0 hF hla hh
 by_cases h60 : 60 < ths.length
 · have e60 : decide ((60 : Int) < (ths.length : Int)) = true := by simp; omega
   clear h60
   go_enter Tryz.func77, Tryz.ntmps77
   go_wp2_with fail
   go_ret
   exact .inl ⟨rfl, HF0.out⟩
 · have e60 : decide ((60 : Int) < (ths.length : Int)) = false := by simp; omega
   have H60 := hide h60
   clear h60
   go_enter Tryz.func77, Tryz.ntmps77
   go_wp2_with fail
   generalize World.alloc W _ = W0 at *
   refine (HF.out (by have := H60.out; omega)).mono ?_
   rintro e w1 (⟨-, rfl, f1⟩ | ⟨hfok, m, rfl, hok, ⟨hpl, hfac, -, -, -, hml⟩, f1⟩)
   · have HF1 := hide (HF0.out.trans f1)
     clear f1
     go_wp2_with fail
     go_ret
     exact .inl ⟨rfl, HF1.out⟩
   · have hfw := fw_of hfok (by have := H60.out; omega) (hok.less HF0.out.size) (Nat.le_trans HF0.out.size f1.size) hpl hfac hml
     have HFW := hide hfw
     have HF1 := hide (HF0.out.trans f1)
     clear f1 hfok hok hpl hfac hml hfw
     go_wp2_with fail
     go_ret
     exact .inr ⟨m, rfl, HFW.out, HF1.out⟩
end Go.Proofs.YtlejelbefmkakaaGreat

namespace Go.Proofs.YtlejelbefmkakaaGreat
open Go.RowKit
def Wm.pair (m : Wm) (g1 g2 : Nat) (t1 t2 : T) (s : Nat) : Wm :=
 (m.add g1 ⟨5, s, t1, 0, 0, 0, 0, 0, false⟩ s).add g2 ⟨6, s, t2, 0, 0, (m.th.length : Int) + 1, 0, 0, false⟩ s
section
variable {m : Wm} {g1 g2 s : Nat} {t1 t2 : T}
end
end Go.Proofs.YtlejelbefmkakaaGreat

namespace Go.Proofs.YtlejelbefmkakaaGreat
open Go.RowKit
set_option maxRecDepth 100000 in
set_option maxHeartbeats 4000000 in
theorem New_one2 (W : World) : Calls Tryz.prog 82 #[.slice none 0 0] W fun e w' => ∃ m : Wm, e = .returned (.tuple #[.pointer (some ⟨m.wb, 0, none⟩), .int .i64 0]) ∧ m.Ok W.heap.size w' ∧ m.th = [] ∧ m.made = [0] ∧ m.fac = [] ∧ m.P = none ∧ m.pn = 0 ∧ m.pc = 0 ∧ (∃ gc, m.C = some ⟨gc, 0, none⟩ ∧ m.cn = 1 ∧ m.cc = 1 ∧ Blk w' gc 4 #[.bool false] ∧ W.heap.size ≤ gc) ∧ Fr No W w' := by
 have hmm := @run_makeMap Tryz.prog
 have hC := cloneS_w
 have hb1 := mk1_bool
 have hb2 := mk1_int
 go_enter Tryz.func82, Tryz.ntmps82
 go_wp2_with fail
 refine wp_loop_rounds 1 ?_
 rw [rounds_succ]
 go_wp2_with fail
 refine wp_region_inv (I := fun a0 f a wx => ∃ y0 y1 y2 y3 y4 y5 y6 y7 y8 y9 y10 y11 g, a = ((((((((((((a0.put (some 28) y0).put (some 29) y1).put (some 30) y2).put (some 31) y3).put (some 32) y4).put (some 33) y5).put (some 34) y6).put (some 35) y7).put (some 36) y8).put (some 37) y9).put (some 2) y10).put (some 3) y11) ∧ NJ W f [y0, y1, y2, y3, y4, y5, y6, y7, y8, y9, y10, y11] g wx) (by kernel_rfl) (by kernel_rfl) ?st ?step ?en
 case st => exact ⟨_, _, _, _, _, _, _, _, _, _, _, _, _, by simp only [Act.put, lq4, lq5, lq6] <;> rfl, NJ.begin W _⟩
 case step =>
  rintro i o f a wx ho hf hd ⟨y0, y1, y2, y3, y4, y5, y6, y7, y8, y9, y10, y11, g, rfl, J⟩ K' hK
  have hi := (Array.getElem?_eq_some_iff.1 ho).1
  simp only [List.size_toArray, List.length_cons, List.length_nil] at hi
  have hid : i = 0 ∨ i = 1 ∨ i = 2 ∨ i = 3 ∨ i = 4 ∨ i = 5 ∨ i = 6 ∨ i = 7 ∨ i = 8 ∨ i = 9 ∨ i = 10 ∨ i = 11 := by omega
  simp only [Act.put, lq4, lq5, lq6]
  rcases hid with rfl | rfl | rfl | rfl | rfl | rfl | rfl | rfl | rfl | rfl | rfl | rfl
  · simp only [lq1, lq3, Option.some.injEq] at ho; subst ho
    have HJ := hide J
    have HFI := hide hf
    clear J hd hf
    go_simp
    exact hK.out _ _ ⟨_, _, _, _, _, _, _, _, _, _, _, _, _, by simp only [Act.put, lq4, lq5, lq6] <;> rfl, HJ.out.quiet (i := 0) (by decide) (by simp) (nofun) (nofun)⟩
  · simp only [lq1, lq2, lq3, Option.some.injEq] at ho; subst ho
    have b0 := hd ⟨0, .data⟩ (by simp) (by rfl)
    obtain rfl : y0 = .slice none 0 0 := J.x 0 b0
    have HJ := hide J
    have B0 := hide b0
    have HFI := hide hf
    clear J hd hf b0
    go_simp
    refine (hC _).mono ?_
    rintro e w' ⟨rfl, rfl⟩
    try go_simp
    exact hK.out _ _ ⟨_, _, _, _, _, _, _, _, _, _, _, _, _, by simp only [Act.put, lq4, lq5, lq6] <;> rfl, HJ.out.quiet (i := 1) (by decide) (by simp) (nofun) (nofun)⟩
  · simp only [lq1, lq2, lq3, Option.some.injEq] at ho; subst ho
    have HJ := hide J
    have HFI := hide hf
    clear J hd hf
    go_simp
    exact hK.out _ _ ⟨_, _, _, _, _, _, _, _, _, _, _, _, _, by simp only [Act.put, lq4, lq5, lq6] <;> rfl, HJ.out.quiet (i := 2) (by decide) (by simp) (nofun) (nofun)⟩
  · simp only [lq1, lq2, lq3, Option.some.injEq] at ho; subst ho
    have b2 := hd ⟨2, .data⟩ (by simp) (by rfl)
    obtain rfl : y2 = .int .i64 1 := J.x 2 b2
    have HJ := hide J
    have B2 := hide b2
    have HFI := hide hf
    clear J hd hf b2
    go_simp
    exact hK.out _ _ ⟨_, _, _, _, _, _, _, _, _, _, _, _, _, by simp only [Act.put, lq4, lq5, lq6] <;> rfl, HJ.out.make (i := 3) (by simp) HFI.out (by simp) (by show (World.alloc _ _).heap[gset g 3 wx.heap.size 3]? = _; rw [gset_eq]; exact World.alloc_heap_new _ _)⟩
  · simp only [lq1, lq2, lq3, Option.some.injEq] at ho; subst ho
    have HJ := hide J
    have HFI := hide hf
    clear J hd hf
    go_simp
    exact hK.out _ _ ⟨_, _, _, _, _, _, _, _, _, _, _, _, _, by simp only [Act.put, lq4, lq5, lq6] <;> rfl, HJ.out.quiet (i := 4) (by decide) (by simp) (nofun) (nofun)⟩
  · simp only [lq1, lq2, lq3, Option.some.injEq] at ho; subst ho
    have b4 := hd ⟨4, .data⟩ (by simp) (by rfl)
    obtain rfl : y4 = .int .i64 1 := J.x 4 b4
    have HJ := hide J
    have B4 := hide b4
    have HFI := hide hf
    clear J hd hf b4
    go_simp
    exact hK.out _ _ ⟨_, _, _, _, _, _, _, _, _, _, _, _, _, by simp only [Act.put, lq4, lq5, lq6] <;> rfl, HJ.out.make (i := 5) (by simp) HFI.out (by simp) (by show (World.alloc _ _).heap[gset g 5 wx.heap.size 5]? = _; rw [gset_eq]; exact World.alloc_heap_new _ _)⟩
  · simp only [lq1, lq2, lq3, Option.some.injEq] at ho; subst ho
    have HJ := hide J
    have HFI := hide hf
    clear J hd hf
    go_simp
    exact hK.out _ _ ⟨_, _, _, _, _, _, _, _, _, _, _, _, _, by simp only [Act.put, lq4, lq5, lq6] <;> rfl, HJ.out.make (i := 6) (by simp) HFI.out (by simp) (by show (World.alloc _ _).heap[gset g 6 wx.heap.size 6]? = _; rw [gset_eq]; exact World.alloc_heap_new _ _)⟩
  · simp only [lq1, lq2, lq3, Option.some.injEq] at ho; subst ho
    have HJ := hide J
    have HFI := hide hf
    clear J hd hf
    go_simp
    exact hK.out _ _ ⟨_, _, _, _, _, _, _, _, _, _, _, _, _, by simp only [Act.put, lq4, lq5, lq6] <;> rfl, HJ.out.make (i := 7) (by simp) HFI.out (by simp) (by show (World.alloc _ _).heap[gset g 7 wx.heap.size 7]? = _; rw [gset_eq]; exact World.alloc_heap_new _ _)⟩
  · simp only [lq1, lq2, lq3, Option.some.injEq] at ho; subst ho
    have b1 := hd ⟨1, .data⟩ (by simp) (by rfl)
    obtain rfl : y1 = .slice none 0 0 := J.x 1 b1
    have b3 := hd ⟨3, .data⟩ (by simp) (by rfl)
    obtain rfl : y3 = .slice (some ⟨g 3, 0, none⟩) 1 1 := J.x 3 b3
    have b5 := hd ⟨5, .data⟩ (by simp) (by rfl)
    obtain rfl : y5 = .slice (some ⟨g 5, 0, none⟩) 1 1 := J.x 5 b5
    have b6 := hd ⟨6, .data⟩ (by simp) (by rfl)
    obtain rfl : y6 = .map (some (g 6)) := J.x 6 b6
    have b7 := hd ⟨7, .data⟩ (by simp) (by rfl)
    obtain rfl : y7 = .map (some (g 7)) := J.x 7 b7
    have HJ := hide J
    have B1 := hide b1
    have B3 := hide b3
    have B5 := hide b5
    have B6 := hide b6
    have B7 := hide b7
    have HFI := hide hf
    clear J hd hf b1 b3 b5 b6 b7
    go_simp
    exact hK.out _ _ ⟨_, _, _, _, _, _, _, _, _, _, _, _, _, by simp only [Act.put, lq4, lq5, lq6] <;> rfl, HJ.out.quiet (i := 8) (by decide) (by simp) (fun _ => ⟨B3.out, B5.out, B6.out, B7.out⟩) (nofun)⟩
  · simp only [lq1, lq2, lq3, Option.some.injEq] at ho; subst ho
    have b8 := hd ⟨8, .data⟩ (by simp) (by rfl)
    obtain rfl : y8 = .agg #[.slice none 0 0, .slice (some ⟨g 3, 0, none⟩) 1 1, .map (some (g 6)), .map (some (g 7)), .int .i64 0, .slice (some ⟨g 5, 0, none⟩) 1 1] := J.x 8 b8
    have HJ := hide J
    have B8 := hide b8
    have HFI := hide hf
    clear J hd hf b8
    go_simp
    exact hK.out _ _ ⟨_, _, _, _, _, _, _, _, _, _, _, _, _, by simp only [Act.put, lq4, lq5, lq6] <;> rfl, HJ.out.box B8.out HFI.out (by simp) (by show (World.alloc _ _).heap[gset g 9 wx.heap.size 9]? = _; rw [gset_eq]; exact World.alloc_heap_new _ _)⟩
  · simp only [lq1, lq2, lq3, Option.some.injEq] at ho; subst ho
    have b9 := hd ⟨9, .data⟩ (by simp) (by rfl)
    obtain rfl : y9 = .pointer (some ⟨g 9, 0, none⟩) := J.x 9 b9
    have HJ := hide J
    have B9 := hide b9
    have HFI := hide hf
    clear J hd hf b9
    go_simp
    exact hK.out _ _ ⟨_, _, _, _, _, _, _, _, _, _, _, _, _, by simp only [Act.put, lq4, lq5, lq6] <;> rfl, HJ.out.quiet (i := 10) (by decide) (by simp) (nofun) (fun _ => B9.out)⟩
  · simp only [lq1, lq2, lq3, Option.some.injEq] at ho; subst ho
    have HJ := hide J
    have HFI := hide hf
    clear J hd hf
    go_simp
    exact hK.out _ _ ⟨_, _, _, _, _, _, _, _, _, _, _, _, _, by simp only [Act.put, lq4, lq5, lq6] <;> rfl, HJ.out.quiet (i := 11) (by decide) (by simp) (nofun) (nofun)⟩
 case en =>
  rintro f a wx hall ⟨y0, y1, y2, y3, y4, y5, y6, y7, y8, y9, y10, y11, g, rfl, J⟩
  simp only [Act.put, lq4, lq5, lq6]
  have ha : ∀ j, j < 12 → f j = true := fun j hj => hall j (by simpa using hj)
  obtain rfl : y10 = .pointer (some ⟨g 9, 0, none⟩) := J.x 10 (ha 10 (by omega))
  obtain rfl : y11 = .int .i64 0 := J.x 11 (ha 11 (by omega))
  have n3 : wx.heap[g 9]? = _ := J.b 9 (ha 9 (by omega))
  have n5 : wx.heap[g 5]? = _ := J.b 5 (ha 5 (by omega))
  have nc : wx.heap[g 3]? = _ := J.b 3 (ha 3 (by omega))
  have n6 : wx.heap[g 6]? = _ := J.b 6 (ha 6 (by omega))
  have n7 : wx.heap[g 7]? = _ := J.b 7 (ha 7 (by omega))
  have hne := J.ne (ha 6 (by omega)) (ha 7 (by omega))
  have l9 := J.lo 9 (ha 9 (by omega)) (by simp)
  have l3 := J.lo 3 (ha 3 (by omega)) (by simp)
  have l5 := J.lo 5 (ha 5 (by omega)) (by simp)
  have l6 := J.lo 6 (ha 6 (by omega)) (by simp)
  have l7 := J.lo 7 (ha 7 (by omega)) (by simp)
  have hfr := J.fr
  have hok : (⟨g 9, g 6, g 7, none, 0, 0, some ⟨g 3, 0, none⟩, 1, 1, some ⟨g 5, 0, none⟩, 1, [0], [], []⟩ : Wm).Ok W.heap.size wx :=
   ⟨n3, ⟨#[], 0, n6, ⟨rfl, by simp⟩, by simp, by simp⟩, ⟨#[], 0, n7, rfl, by simp⟩, ⟨rfl, .inr ⟨g 5, 1, #[.int .i64 0], rfl, l5.1, n5, by simp, by simp [maxLen], rfl, rfl⟩⟩, by simp, by simp, ⟨l9.1, l6.1, l7.1, by simp⟩, hne, by simp, by simp, by simp, by simp⟩
  have HC : Hid (Blk wx (g 3) 4 #[.bool false] ∧ W.heap.size ≤ g 3) := hide ⟨nc, l3.1⟩
  have HOK := hide hok
  have HFR := hide hfr
  clear J hall ha n3 nc l3 n5 n6 n7 hne l9 l5 l6 l7 hok hfr
  go_wp2_with fail
  go_ret2
  exact ⟨_, rfl, HOK.out, rfl, rfl, rfl, rfl, rfl, rfl, ⟨_, rfl, rfl, rfl, HC.out.1, HC.out.2⟩, HFR.out⟩
def Tg.z (kind home n lost ofr byr set : Int) (full : Bool) : Tg := ⟨kind, home, T.zero, none, 0, [], n, lost, ofr, byr, set, full, none, 0, [], none, 0, []⟩
theorem z_in (W : World) (lo hi : Nat) {kind home n lost ofr byr set : Int} {full : Bool} (hf : (Tg.z kind home n lost ofr byr set full).Fit) : (Tg.z kind home n lost ofr byr set full).In W lo hi := by
 refine ⟨hf, (T.zero_ow W lo hi).inn, ?_, ⟨by simp [Tg.z], by simp [Tg.z], by simp [Tg.z], ?_⟩, ⟨by simp [Tg.z], by simp [Tg.z], fun h => absurd rfl h, by simp [Tg.z]⟩⟩
 · exact T.in_mk.2 ⟨fit_row, fun h => absurd rfl h, by simp [Tg.z]⟩
 · exact G.row_in.2 ⟨fun h => absurd rfl h, by simp [Tg.z]⟩
theorem z_st (W : World) (lo : Nat) {kind home n lost ofr byr set : Int} {full : Bool} (hf : (Tg.z kind home n lost ofr byr set full).Fit) : (Tg.z kind home n lost ofr byr set full).St W lo := by
 refine ⟨z_in W lo _ hf, fun b hb => ?_, fun b hb => ?_, fun b hb => ?_, fun y hy => ?_⟩
 · exfalso
   rcases hb with hb | hb
   · simp [Tg.z, T.zero, T.blocks_mk] at hb
   · simp [Tg.z, T.row, T.blocks_mk] at hb
 · exfalso
   rcases G.row_has hb with ⟨a, ha, -⟩ | ⟨x, hx, -⟩
   · cases ha
   · cases hx
 · exfalso
   obtain ⟨a, ha, -⟩ := hb
   cases ha
 · cases hy
theorem gm_of {m : Wm} {lo : Nat} {W : World} (h : m.Ok lo W) {g gc : Nat} {kind home n lost ofr byr set : Int} {full : Bool} (hth : m.th = [(g, ⟨kind, home, T.zero, n, lost, ofr, byr, set, full⟩)]) (hf : m.fac = []) (hmd : m.made = [1]) (hP : m.P = none) (hpn : m.pn = 0) (hpc : m.pc = 0) (hC : m.C = some ⟨gc, 0, none⟩) (hcn : m.cn = 1) (hcc : m.cc = 1) (hb : Blk W gc 4 #[.bool false]) (hgc : lo ≤ gc)
 (hft : (Tg.z kind home n lost ofr byr set full).Fit) :
 (⟨m.wb, m.M, m.F, none, 0, [], some ⟨gc, 0, none⟩, 1, [false], m.D, m.dc, [1], 1, [(1, g, Tg.z kind home n lost ofr byr set full)], []⟩ : Gm).Ok lo W := by
 obtain ⟨es, cl, hm, he, hst⟩ := h.things
 obtain ⟨ef, cf, hff, hfe⟩ := h.facets
 rw [hth] at he
 rw [hf] at hfe
 have hmr := h.made
 rw [hmd] at hmr
 have hbk := h.blk
 have hbx := h.box _ (by rw [hth]; exact List.mem_singleton.2 rfl)
 have hl0 := h.lo0
 refine ⟨?_, ⟨es, cl, hm, ⟨he.1, fun i e x hei hxi => ?_⟩, hst⟩, ⟨ef, cf, hff, ⟨hfe.1, fun i e x _ hxi => by simp at hxi⟩, ?_⟩, World.ownsRow_nil _ _ _ _, ?_, hmr, fun x hx => ?_, fun x hx => ?_, ⟨hl0.1, hl0.2.1, hl0.2.2.1, fun x hx => ?_⟩, h.mf, by simp, by simp, by simp, by simp, by simp, by simp⟩
 · have : (⟨m.wb, m.M, m.F, none, 0, [], some ⟨gc, 0, none⟩, 1, [false], m.D, m.dc, [1], 1, [(1, g, Tg.z kind home n lost ofr byr set full)], []⟩ : Gm).cells = m.cells := by
    simp [Gm.cells, Wm.cells, hP, hpn, hpc, hC, hcn, hcc, hmd, hth]
   rw [this]
   exact hbk
 · cases i with
   | zero =>
    simp at hxi
    subst hxi
    exact he.2 0 e _ hei rfl
   | succ i => simp at hxi
 · have : ef.toList = [] := List.eq_nil_of_length_eq_zero hfe.1
   rw [this]
   exact ⟨by simp, by simp⟩
 · exact ⟨rfl, .inr ⟨gc, 1, #[.bool false], rfl, hgc, hb, by simp, by simp [maxLen], rfl, rfl⟩⟩
 · simp only [List.mem_singleton] at hx
   subst hx
   exact hbx
 · simp only [List.mem_singleton] at hx
   subst hx
   exact z_st W lo hft
 · simp only [List.mem_singleton] at hx
   subst hx
   exact hl0.2.2.2 _ (by rw [hth]; exact List.mem_singleton.2 rfl)
end Go.Proofs.YtlejelbefmkakaaGreat

namespace Go.Proofs.YtlejelbefmkakaaGreat
open Go.RowKit
set_option maxRecDepth 100000 in
set_option maxHeartbeats 4000000 in
theorem What_gz {m : Gm} {lo : Nat} {W : World} (h : m.Ok lo W) {r : Int} {gx : Nat} {kind home n1 lost ofr byr set : Int} {full : Bool} (hg : m.get r = some (gx, Tg.z kind home n1 lost ofr byr set full)) :
 Calls Tryz.prog 89 #[.pointer (some ⟨m.wb, 0, none⟩), .int .i64 r] W fun e w' => ∃ t' : T, e = .returned (.tuple #[Th.val ⟨kind, home, t', n1, lost, ofr, byr, set, full⟩, .int .i64 0]) ∧ t'.v = T.zero.v ∧ t'.Sh w' W.heap.size w'.heap.size ∧ Fr No W w' := by
 have hf0 := (Fr.refl No W).alloc (.cells (th16 0 0 0 0 ⟨#[]⟩ none 0 0 0 0 0 0 0 0 false) 138)
 have h0 := h.no hf0
 have hN := gnone_w h0
 have hI := gIs_w h0 r
 have hl := gook_thing h0 r
 have hx := Gm.get_mem hg
 have hbx := h0.box _ hx
 have c0 := gmap_cell h0
 have q0 := h0.blk.lt
 have hi1 : (m.get r).isSome = true := by rw [hg]; rfl
 rw [hi1] at hI
 rw [hg] at hl
 have hb4 := Blk.new W 138 (th16 0 0 0 0 ⟨#[]⟩ none 0 0 0 0 0 0 0 0 false)
 have hbx' : Blk (W.alloc (.cells (th16 0 0 0 0 ⟨#[]⟩ none 0 0 0 0 0 0 0 0 false) 138)) gx 138 (th16 kind home 0 0 ⟨#[]⟩ none 0 0 0 n1 lost ofr byr set full) := hbx
 have hO := fun W' (f : Fr No W W') => ownWhat_w kind home 0 0 ⟨#[]⟩ none 0 [] 0 n1 lost ofr byr set full W' W'.heap.size ((T.zero_ow W' 0 W'.heap.size).inn) (Nat.le_refl _) (by show T.zero.v.may = true; rw [T.zero_v, zero_may])
 simp only [Option.map_some] at hl
 simp only [List.length_nil] at hO
 change ∀ W', Fr No W W' → Calls _ _ _ W' (OwnW kind home T.zero.v n1 lost ofr byr set full W') at hO
 generalize T.zero.v = u at *
 unfold th16 at hbx' hf0 hb4 hO hN hI hl c0 q0
 obtain ⟨d0, d1, d2, d3, d4, d5, d6, d7, d8, d9, d10, d11, d12, d13, d14, d15⟩ := hbx'.cells16
 have dq := hbx'.lt
 have HN := hide hN
 have HI := hide hI
 have HO := hide hO
 have HF0 := hide hf0
 have HB4 := hide hb4
 clear hN hI hO hf0 hb4 h0 hx hbx hbx' hi1 h hg
 go_enter Tryz.func89, Tryz.ntmps89
 go_wp2_with fail
 generalize hW0 : World.alloc W _ = W0 at *
 refine HN.out.mono ?_
 rintro e w' ⟨rfl, rfl⟩
 go_wp2_with fail
 refine HI.out.mono ?_
 rintro e w' ⟨rfl, rfl⟩
 go_wp2_with fail
 refine (HO.out w' HF0.out).mono ?_
 rintro e w1 ⟨⟨k2, n2, s2, A2, cap2, l2, r2⟩, rfl, hv, hsh, f1⟩
 have hval : (Th.val ⟨kind, home, T.mk k2 n2 s2 A2 cap2 l2 r2, n1, lost, ofr, byr, set, full⟩) = .agg (th16 kind home k2 n2 s2 A2 l2.length cap2 r2 n1 lost ofr byr set full) := rfl
 rw [hval]
 have hb := HB4.out.fr f1 fun h => h
 obtain ⟨e0, e1, e2, e3, e4, e5, e6, e7, e8, e9, e10, e11, e12, e13, e14, e15⟩ := hb.cells16
 have ez := hb.frozen
 have eq_ := hb.lt
 have HV := hide hv
 have HSH := hide hsh
 have HF1 := hide f1
 unfold th16
 clear hb hv hsh f1 d0 d1 d2 d3 d4 d5 d6 d7 d8 d9 d10 d11 d12 d13 d14 d15 dq hval c0 q0 hl
 go_wp2_with fail
 refine bodyPost_ret (v := .tuple #[.agg (th16 kind home k2 n2 s2 A2 l2.length cap2 r2 n1 lost ofr byr set full), .int .i64 0]) (by simp [results, Tryz.results89, th16, go_sem, *]) rfl ?_
 generalize hWe : World.setCell _ _ _ = We
 have fe : Fr (fun i => i = W.heap.size) w1 We := by
  rw [← hWe]
  repeat (first | with_reducible exact Fr.refl _ w1 | with_reducible refine Fr.set ?_ (by simp) _)
 have hs0 : W.heap.size + 1 ≤ w'.heap.size := by rw [← hW0]; simp
 have hbl : ∀ b ∈ (T.mk k2 n2 s2 A2 cap2 l2 r2).blocks, w'.heap.size ≤ b := fun b hb => (T.In.blocks _ HSH.out.inn b hb).1
 refine ⟨T.mk k2 n2 s2 A2 cap2 l2 r2, rfl, HV.out, ((HSH.out.fr fe fun b hb h => by have := hbl b hb; omega).more (by omega) fe.size), (HF0.out.trans HF1.out).trans' fe fun i hi h => by omega⟩
def Gm.Zs (m : Gm) : Prop := ∀ x ∈ m.th, ∃ kind home n lost ofr byr set full, x.2.2 = Tg.z kind home n lost ofr byr set full
theorem Gm.Zs.what {m : Gm} (hz : m.Zs) (lo : Nat) : WhatOk m lo := by
 intro r x W hg h
 obtain ⟨kind, home, n, lost, ofr, byr, set, full, hx⟩ := hz _ (Gm.get_mem hg)
 obtain ⟨gx, x2⟩ := x
 simp only at hx
 subst hx
 refine (What_gz h hg).mono ?_
 rintro e w' ⟨t', rfl, hv, hsh, f⟩
 obtain rfl := zero_of hsh (hv.trans T.zero_v)
 exact ⟨Tg.z kind home n lost ofr byr set full, rfl, rfl, rfl, rfl, rfl, rfl, rfl, f⟩
theorem Gm.Zs.addF {m : Gm} (hz : m.Zs) (g : Nat) (t : Int) (s : Nat) : (m.addF g t s).Zs := by
 intro x hx
 rcases List.mem_append.1 hx with hx | hx
 · exact hz x hx
 · simp only [List.mem_singleton] at hx
   subst hx
   exact ⟨_, _, _, _, _, _, _, _, rfl⟩
end Go.Proofs.YtlejelbefmkakaaGreat

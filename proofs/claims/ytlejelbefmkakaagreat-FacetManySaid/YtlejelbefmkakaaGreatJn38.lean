/- Texts joined: Fm7. -/
import Derived.Test.YtlejelbefmkakaaGreatJn1
import Derived.Test.YtlejelbefmkakaaGreatJn34
import Derived.Test.YtlejelbefmkakaaGreatJn37
namespace Go.Proofs.YtlejelbefmkakaaGreat
open Go.RowKit
theorem wrap_nat {n : Nat} (h : n ≤ 1000) : IntKind.i64.wrap (n : Int) = (n : Int) := by
 rw [IntKind.wrap_i64]
 omega
theorem wrap64_small {x : Int} (h : -10000000 ≤ x ∧ x ≤ 10000000) : wrap64 x = x := by
 unfold wrap64
 omega
set_option maxRecDepth 100000 in
set_option maxHeartbeats 16000000 in
theorem facetMany_any (HSORT : Hid SortRefs) (HSF : Hid SortFn) (HSAME : Hid SameEqP) (PA : Option Addr) (pc : Nat) (ps : List Int) (CA : Option Addr) (cc : Nat) (cuts : List Int) (TA : Option Addr) (tc : Nat) (ths : List (Int × Tg)) (last : Int) (MA : Option Addr) (mc : Nat) (made : List Int) (r : Int) (W : World)
 (hp : Ints W 0 W.heap.size PA pc ps) (hc : Ints W 0 W.heap.size CA cc cuts) (ht : EnRow W 0 W.heap.size TA tc ths) (hm : Ints W 0 W.heap.size MA mc made) (hla : -9223372036854775808 ≤ last ∧ last ≤ 9223372036854775807) :
 Calls Tryz.prog 15 #[.agg #[.slice PA ps.length pc, .slice CA cuts.length cc, .slice TA ths.length tc, .int .i64 last, .slice MA made.length mc], .int .i64 r] W fun e w' => e = .returned (.bool true) ∧ Fr No W w' := by
 have hf0 := (Fr.refl No W).alloc (.cells #[.slice PA ps.length pc, .slice CA cuts.length cc, .slice TA ths.length tc, .int .i64 last, .slice MA made.length mc] 71)
 have hb0 := Blk.new W 71 #[.slice PA ps.length pc, .slice CA cuts.length cc, .slice TA ths.length tc, .int .i64 last, .slice MA made.length mc]
 have hR := read_w PA pc ps CA cc cuts TA tc ths last MA mc made (W.alloc (.cells #[.slice PA ps.length pc, .slice CA cuts.length cc, .slice TA ths.length tc, .int .i64 last, .slice MA made.length mc] 71)) 0 W.heap.size (hp.noI hf0 (Nat.le_refl _)) (hc.noI hf0 (Nat.le_refl _)) (ht.no hf0 (Nat.le_refl _)) (hm.noI hf0 (Nat.le_refl _)) hla hf0.size
 have HR := hide hR
 have HF0 := hide hf0
 have HAW := hide awake11
 obtain ⟨d0, d1, d2, d3, d4⟩ : (W.alloc (.cells #[.slice PA ps.length pc, .slice CA cuts.length cc, .slice TA ths.length tc, .int .i64 last, .slice MA made.length mc] 71)).cell? ⟨W.heap.size, 0, none⟩ = some (.slice PA ps.length pc) ∧ (W.alloc (.cells #[.slice PA ps.length pc, .slice CA cuts.length cc, .slice TA ths.length tc, .int .i64 last, .slice MA made.length mc] 71)).cell? ⟨W.heap.size, 1, none⟩ = some (.slice CA cuts.length cc) ∧ (W.alloc (.cells #[.slice PA ps.length pc, .slice CA cuts.length cc, .slice TA ths.length tc, .int .i64 last, .slice MA made.length mc] 71)).cell? ⟨W.heap.size, 2, none⟩ = some (.slice TA ths.length tc) ∧ (W.alloc (.cells #[.slice PA ps.length pc, .slice CA cuts.length cc, .slice TA ths.length tc, .int .i64 last, .slice MA made.length mc] 71)).cell? ⟨W.heap.size, 3, none⟩ = some (.int .i64 last) ∧ (W.alloc (.cells #[.slice PA ps.length pc, .slice CA cuts.length cc, .slice TA ths.length tc, .int .i64 last, .slice MA made.length mc] 71)).cell? ⟨W.heap.size, 4, none⟩ = some (.slice MA made.length mc) := ⟨hb0.cell 0, hb0.cell 1, hb0.cell 2, hb0.cell 3, hb0.cell 4⟩
 have dq := hb0.lt
 clear hf0 hb0 hR hp hc ht hm hla
 go_enter Tryz.func15, Tryz.ntmps15
 go_wp2_with fail
 generalize World.alloc W _ = W0 at *
 refine HR.out.mono ?_
 rintro e w1 (⟨rfl, f1⟩ | ⟨m0, rfl, hfw, f1⟩)
 · have HF1 := hide (HF0.out.trans f1)
   clear f1 d0 d1 d2 d3 d4 dq HR
   go_wp2_with fail
   refine (HAW.out w1).mono ?_
   rintro e w2 ⟨rfl, f2⟩
   have HF2 := hide (HF1.out.trans f2)
   clear f2
   go_wp2
   go_ret
   exact ⟨rfl, HF2.out⟩
 have hfx : FX W0 m0.wb m0 0 w1 := ⟨hfw, rfl, f1⟩
 have HFX := hide hfx
 clear d0 d1 d2 d3 d4 dq HR hfw f1 hfx
 have hnil : ((Value.pointer (some ⟨m0.wb, 0, none⟩)) = .pointer none) = False := by simp
 obtain ⟨wb, hwb⟩ : ∃ wb, m0.wb = wb := ⟨_, rfl⟩
 rw [hwb] at HFX ⊢
 have HWB := hide hwb
 clear hwb hnil
 have hI := Is_x HFX.out r
 cases hgr : m0.get r with
 | none =>
  rw [hgr] at hI
  have HI := hide hI
  clear hI hgr
  go_wp2_with fail
  refine HI.out.mono ?_
  rintro e w' ⟨rfl, rfl⟩
  clear HI
  go_wp2_with fail
  refine (HAW.out _).mono ?_
  rintro e w2 ⟨rfl, f2⟩
  have HF2 := hide (HF0.out.trans (HFX.out.fr.trans f2))
  clear f2
  go_wp2
  go_ret
  exact ⟨rfl, HF2.out⟩
 | some x =>
  rw [hgr] at hI
  have HI := hide hI
  obtain ⟨y, hy, hyk⟩ := HFX.out.fw.fs.root_is hgr
  obtain ⟨t, ht⟩ : ∃ t, m0.root r = t := ⟨_, rfl⟩
  rw [ht] at hy
  obtain ⟨a, ha⟩ := HFX.out.fw.fs.abl t y hy
  have hit : Is1 m0 t t a := ⟨⟨y, hy⟩, Gm.root_of hy hyk, ha⟩
  have HIT := hide hit
  have HRT := hide ht
  have HGR := hide hgr
  have HGY := hide hy
  have HYK := hide hyk
  have HA64 := hide ha.lt
  have HTELL := hide (HWB.out ▸ Tell_g HFX.out.fw.ok HFX.out.fw.lo1 (hide HFX.out.fw.mays) HSORT : Calls Tryz.prog 78 #[.pointer (some ⟨wb, 0, none⟩)] w1 (TellP m0 w1))
  clear hI hgr hy hyk ht ha hit
  go_wp2_with fail
  refine HI.out.mono ?_
  rintro e w1 ⟨rfl, rfl⟩
  clear HI
  go_wp2_with fail
  refine HTELL.out.mono ?_
  rintro e w2 ⟨B, cB, C, cC, TB, tb, E, cE, L0, rfl, oB, oC, oT, oE, ost, otold, f2⟩
  have HT0 : Hid (TRow m0.par (cutIdx m0.cut) m0.made w1.heap.size B cB C cC TB tb E cE L0 w2) := hide ⟨oB, oC, oT, oE, ost⟩
  have HTO := hide otold
  have HFX2 := hide (HFX.out.no f2)
  have HF2 := hide f2
  clear oB oC oT oE ost otold f2 HTELL
  go_wp2_with fail
  have hbA := Blk.new w2 71 #[.slice B m0.par.length cB, .slice C (cutIdx m0.cut).length cC, .slice TB L0.length tb, .int .i64 m0.last, .slice E m0.made.length cE]
  have fA := (Fr.refl No w2).alloc (.cells #[.slice B m0.par.length cB, .slice C (cutIdx m0.cut).length cC, .slice TB L0.length tb, .int .i64 m0.last, .slice E m0.made.length cE] 71)
  have hlt0 := fun i hi => (HFX.out.fw.ok.lt i hi).2
  have hlt1 := fun i hi => (HFX2.out.fw.ok.lt i hi).2
  have hgA1 : w1.heap.size ≤ w2.heap.size := HF2.out.size
  have HW10 := hide (HFX.out.fr.size)
  have HGA0 := hide (HFX2.out.fr.size)
  obtain ⟨gA, hgA⟩ : ∃ gA, gA = w2.heap.size := ⟨_, rfl⟩
  rw [← hgA] at hbA hlt1 hgA1 HGA0 ⊢
  have HFX3 := hide (HFX2.out.no fA)
  have hT3 := HT0.out.no fA
  generalize World.alloc w2 _ = w3 at *
  obtain ⟨D, hD⟩ : ∃ D : Nat → Prop, D = fun b => b = gA ∨ TD m0.par.length (cutIdx m0.cut).length L0.length m0.made.length B cB C cC TB tb E cE L0 b := ⟨_, rfl⟩
  have hkd : KeepD D m0 w3 := by
   intro b hb
   rw [hD] at hb
   rcases hb with rfl | hb
   · exact ⟨fun h => by have := hlt1 _ h; omega, hbA.lt, fun cs hc => Blk.ne_ hc hbA (by decide) rfl⟩
   · have hty := hT3.ty hb
     exact ⟨fun h => by have := hlt0 _ h; omega, hty.1.2, fun cs hc => hT3.ne hb hc (.inl rfl) rfl⟩
  have HDD := hide hD
  have HKD := hide hkd
  have HBA := hide hbA
  have HT3 := hide hT3
  clear fA hlt0 hlt1 hgA1 hgA hT3 hkd hD hbA HFX HFX2 HT0 HF2
  have HRO := hide (HWB.out ▸ HRT.out ▸ Root_f HFX3.out.fw HGR.out : Calls Tryz.prog 71 #[.pointer (some ⟨wb, 0, none⟩), .int .i64 r] w3 fun e w' => e = .returned (.tuple #[.int .i64 t, .int .i64 0]) ∧ Fr No w3 w')
  refine HRO.out.mono ?_
  rintro e w4 ⟨rfl, f4⟩
  have HFX4 := hide (HFX3.out.no f4)
  have HKD4 := hide (HKD.out.fr f4 fun _ _ h => h)
  have HFD4 : Hid (Fr (fun i => ¬ D i) w3 w4) := hide f4.no
  clear f4 HRO HFX3
  go_wp2_with fail
  obtain ⟨wo, hwo⟩ : ∃ wo : World, wo = w4 := ⟨_, rfl⟩
  go_loopw [9, 10] (fun n i wr => ∃ j : Nat, j ≤ 6 ∧ n = .int .i64 (cntTo a j : Nat) ∧ i = .int .u8 ((2 ^ j : Nat) : Int) ∧ Fr No w4 wr) (fun _ i _ => 200 - (intOf i).toNat)
  case atStart => exact ⟨0, by omega, rfl, rfl, Fr.refl _ _⟩
  case round =>
   obtain ⟨j, hj, rfl, rfl, hf⟩ := hrel
   have hcl := cntTo_le a j
   have hpl : 2 ^ j ≤ 64 := Nat.pow_le_pow_right (n := 2) (by omega) hj
   obtain ⟨cn, hcn⟩ : ∃ cn, cntTo a j = cn := ⟨_, rfl⟩
   obtain ⟨pw, hpw⟩ : ∃ pw, 2 ^ j = pw := ⟨_, rfl⟩
   have HCN := hide hcn
   have HPW := hide hpw
   rw [hcn, hpw] at hcl
   rw [hpw] at hpl
   rw [hcn, hpw]
   by_cases hlt : j < 6
   · have hle : pw ≤ 32 := by
      have := Nat.pow_le_pow_right (n := 2) (by omega) (show j ≤ 5 by omega)
      omega
     have hp1 : 1 ≤ pw := by have := Nat.one_le_two_pow (n := j); omega
     have dle : decide ((pw : Int) ≤ 32) = true := by simp; omega
     have e1 : bits .and .u8 (a : Int) (pw : Int) = ((a &&& pw : Nat) : Int) := u8_and_nat a pw (by have := HA64.out; omega) (by omega)
     have HF := hide hf
     have HLT := hide hlt
     have HAB := hide (Able_n (HFX4.out.no hf) HIT.out)
     clear hf hlt hj hcn hpw
     go_wp2_with fail
     refine HAB.out.mono ?_
     rintro e w5 ⟨rfl, f5⟩
     have HF5 := hide (HF.out.trans f5)
     clear f5 HF HAB
     have hb1 := cntTo_succ a j
     rw [HCN.out, HPW.out] at hb1
     obtain ⟨z, hz⟩ : ∃ z, a &&& pw = z := ⟨_, rfl⟩
     rw [hz] at e1 hb1
     have hp2 : 2 ^ (j + 1) = pw * 2 := by rw [Nat.pow_succ, HPW.out]
     have HB1 := hide hb1
     have HP2 := hide hp2
     clear hz hb1 hp2
     by_cases hz0 : z = 0
     · subst hz0
       go_wp2_with fail
       go_roundw
       case rel =>
        have h1 := HB1.out
        simp only [if_true] at h1
        exact ⟨j + 1, HLT.out, by rw [h1], by rw [HP2.out, Int.natCast_mul]; rfl, HF5.out⟩
       case measure =>
        simp [intOf]
        omega
     · have hzn : ((z : Int) != 0) = true := by simp; omega
       have HZ := hide hz0
       clear hz0
       go_wp2_with fail
       go_roundw
       case rel =>
        have h1 := HB1.out
        rw [if_neg HZ.out] at h1
        exact ⟨j + 1, HLT.out, by rw [h1, Int.natCast_mul]; rfl, by rw [HP2.out, Int.natCast_mul]; rfl, HF5.out⟩
       case measure =>
        simp [intOf]
        omega
   · obtain rfl : j = 6 := by omega
     have hp6 : pw = 64 := by rw [← hpw]
     subst hp6
     have HF5 := hide hf
     clear hlt hj hpw hf
     have hmm := @run_makeMap Tryz.prog
     go_wp2_with fail
     clear hmm
     have HN0 := hide (N2.start (t := t) (a := a) (HFX4.out.no HF5.out) (HKD4.out.fr HF5.out fun _ _ h => h) (HFD4.out.trans' HF5.out fun _ _ h => h.elim))
     have hmb1 : wr.heap.size ≠ m0.M ∧ wr.heap.size ≠ m0.F := by
      have h1 := (HFX4.out.no HF5.out).fw.ok
      have h2 := (h1.lt m0.M (.inr (.inl rfl))).2
      have h3 := (h1.lt m0.F (.inr (.inr (.inl rfl)))).2
      omega
     have hmb2 : ¬ D wr.heap.size := fun h => by have := ((HKD4.out.fr HF5.out fun _ _ h => h) _ h).2.1; omega
     have hmb3 : W0.heap.size ≤ wr.heap.size := (HFX4.out.no HF5.out).fr.size
     have HM1 := hide hmb1
     have HM2 := hide hmb2
     have HM3 := hide hmb3
     clear hmb1 hmb2 hmb3
     generalize hmb : wr.heap.size = mb at *
     clear hmb
     generalize World.alloc wr _ = w5 at *
     go_loopw [12] (fun s w => ∃ (j : Nat) (m : Gm) (l : List (Int × Int)), j ≤ 64 ∧ s = .int .u8 (j : Int) ∧ N2 W0 w3 wb mb D m0 t a m j l w) (fun s _ => 64 - (intOf s).toNat)
     case atStart => exact ⟨0, m0, [], by omega, rfl, HN0.out⟩
     case round =>
      obtain ⟨j, m, l, hj, rfl, hn⟩ := hrel
      have HN := hide hn
      by_cases hlt : j < 64
      · have hle : decide ((j : Int) ≤ 63) = true := by simp; omega
        have e1 : bits .and .u8 (a : Int) (j : Int) = ((a &&& j : Nat) : Int) := u8_and_nat a j (by have := HA64.out; omega) (by omega)
        have HNA := hide (Narrow_m hn.fx (by omega) (HIT.out.ext hn.ext) hlt)
        have HLT := hide hlt
        clear hn hlt hj
        go_wp2_with fail
        refine HNA.out.mono ?_
        rintro e w6 ⟨q, m1, rfl, he, hx, hi, hmd, hM, hF, f⟩
        have HE := hide he
        have HX := hide hx
        have HI := hide hi
        have HMD := hide hmd
        have HMM := hide (And.intro hM hF)
        have HFB := hide f
        have HA1 := hide (Able_n hx hi)
        clear he hx hi hmd hM hF f HNA
        go_wp2_with fail
        refine HA1.out.mono ?_
        rintro e w7 ⟨rfl, f7⟩
        have HF7 := hide f7
        have HA2 := hide (Able_n (HX.out.no f7) ((HIT.out.ext HN.out.ext).ext HE.out))
        clear f7 HA1
        go_wp2_with fail
        refine HA2.out.mono ?_
        rintro e w8 ⟨rfl, f8⟩
        have HF8 := hide (HF7.out.trans f8)
        clear f8 HA2 HF7
        have eac : j &&& a = a &&& j := Nat.and_comm j a
        rw [eac]
        have hmap := HN.out.nar_map HM1.out HFB.out HF8.out
        have hlk := (imap_look (t := 134) hmap Tryz.underlying22 Tryz.underlying134 (z := .int .i64 0) (by rfl) q).1
        have hlz : ((iget l q).map (Value.int .i64)).getD (.int .i64 0) = .int .i64 ((iget l q).getD 0) := by cases iget l q <;> rfl
        rw [hlz] at hlk
        obtain ⟨w9, hu, hmp, f9⟩ := imap_put (t := 134) hmap Tryz.underlying22 Tryz.underlying134 q ((iget l q).getD 0 + 1)
        have hvb : 0 ≤ (iget l q).getD 0 ∧ (iget l q).getD 0 ≤ j := by
         cases hg : iget l q with
         | none => simp
         | some v =>
          have := HN.out.many.cnt _ (iget_some hg)
          simp only at this
          simp only [Option.getD_some]
          omega
        have HST := hide (HN.out.step HA64.out HM1.out HM2.out HM3.out HE.out HX.out HI.out HMD.out HMM.out.1 HMM.out.2 HFB.out HF8.out hmp f9)
        clear hmap hlz hmp f9
        generalize (iget l q).getD 0 = vq at *
        have hw64 : wrap64 (vq + 1) = vq + 1 := wrap64_small (by have := HLT.out; omega)
        clear hvb
        go_wp2_with fail
        go_roundw
        case rel => exact ⟨j + 1, m1, _, HLT.out, by have := HLT.out; rw [show ((j : Int) + 1) % 256 = ((j + 1 : Nat) : Int) by omega], HST.out⟩
        case measure =>
         have := HLT.out
         simp [intOf]
         omega
      · obtain rfl : j = 64 := by omega
        have HN64 := hide (HN.out.no (Fr.refl No wr))
        clear hn hlt hj
        have hrtm : m.root r = t := by rw [HN64.out.ext.root HGR.out]; exact HRT.out
        have HOF := hide (HN64.out.fx.wb ▸ hrtm ▸ Of_f HN64.out.fx.fw (HN64.out.ext.2.2 _ _ HGR.out) HSORT HSF : Calls Tryz.prog 75 #[.pointer (some ⟨wb, 0, none⟩), .int .i64 r] wr (FOfP m t wr))
        clear hrtm
        go_wp2_with fail
        refine HOF.out.mono ?_
        rintro e w10 ⟨vl, FL, rfl, hown, hperm, hsort, f10⟩
        obtain ⟨gl, cl, rfl, hgl0, hgl1⟩ := hown.form (by simp)
        have hone := fun p q u => HN64.out.fx.one (p := p) (q := q) (t := t) (u := u)
        have hgy := HN64.out.ext.2.2 _ _ HGY.out
        have hab := HIT.out.abl.ext HN64.out.ext
        have hc1 := of_count HN64.out.fx.fw.fs HN64.out.fx.fw.ok.keys hgy HYK.out hab hperm HN64.out.many hone
        have hc2 := HN64.out.many.count HA64.out hone
        obtain ⟨h1, h2, h3⟩ := of_is HN64.out.fx.fw.fs HN64.out.fx.fw.ok.keys hgy HYK.out hab hperm
        have hmet : ∀ (k : Nat) (q : Int), (t :: FL)[k]? = some q → ∃ v, iget l q = some v ∧ 1 ≤ v ∧ v ≤ 64 := fun k q hk => by
         obtain ⟨u, hu, hq⟩ := h1 _ (List.mem_of_getElem? hk)
         obtain ⟨v, hv, hv1⟩ := HN64.out.many.met HA64.out hone hq hu
         have := HN64.out.many.cnt _ (iget_some hv)
         simp only at this
         exact ⟨v, hv, hv1, by omega⟩
        have hris : ∀ (k : Nat) (q' q : Int) (u' u : Nat), 2 ≤ k → (t :: FL)[k - 1]? = some q' → (t :: FL)[k]? = some q → Is1 m q' t u' → Is1 m q t u → u' < u := fun k q' q u' u h2k hq' hq hi' hi => by
         obtain ⟨i, rfl⟩ : ∃ i, k = i + 2 := ⟨k - 2, by omega⟩
         have e1 : i + 2 - 1 = i + 1 := rfl
         rw [e1, List.getElem?_cons_succ] at hq'
         rw [List.getElem?_cons_succ] at hq
         obtain ⟨hi1, rfl⟩ := List.getElem?_eq_some_iff.1 hq'
         obtain ⟨hi2, rfl⟩ := List.getElem?_eq_some_iff.1 hq
         have := of_rises h1 h2 hone hsort hi2
         rwa [Gm.ablN_of hi'.abl, Gm.ablN_of hi.abl] at this
        have habl : ∀ (k : Nat) (q : Int), (t :: FL)[k]? = some q → ∃ u, u < 64 ∧ Is1 m q t u := fun k q hk => by
         obtain ⟨u, hu, hq⟩ := h1 _ (List.mem_of_getElem? hk)
         exact ⟨u, (mem_subs.1 hu).1, hq⟩
        rw [HCN.out] at hc1 hc2
        have HN10 := hide (HN64.out.no f10)
        have HROW := hide hown
        have HMET := hide hmet
        have HRIS := hide hris
        have HABL := hide habl
        have HC1 := hide hc1
        have hgls : gl < w10.heap.size := hgl1
        obtain ⟨es, cm, hes, hesl, -⟩ := HN10.out.map
        have hesn : es.size = cn := by have := hesl.1; rw [← hc2]; simpa using this
        have hlen := fun ty => run_len_map (P := Tryz.prog) (w := w10) 134 ty mb es cm (by kernel_rfl) hes
        rw [hesn] at hlen
        have c0 : w10.cell? ⟨gl, 0, none⟩ = some (.int .i64 t) := by
         have := World.ownsRow.cells hown (g := gl) rfl 0 (.int .i64 t) rfl
         rwa [add_at] at this
        have hcn1 : 1 ≤ cn := by rw [← hc1]; simp
        have HCL := hide hcl
        clear hown hperm hsort f10 hone hgy hab hc2 h1 h2 h3 hmet hris habl hes hesl hesn HOF HN64 hcn hpl hcl
        rw [hc1]
        clear hc1
        go_wp2_with fail
        obtain ⟨wl, rfl⟩ : ∃ wl : World, wl = w10 := ⟨_, rfl⟩
        go_loopw [16] (fun i w => ∃ k : Nat, 1 ≤ k ∧ k ≤ cn ∧ i = .int .i64 (k : Int) ∧ Fr No wl w) (fun i _ => cn - (intOf i).toNat)
        case atStart => exact ⟨1, by omega, by omega, rfl, Fr.refl _ _⟩
        case round =>
         obtain ⟨k, hk1, hk2, rfl, hf⟩ := hrel
         have HF := hide hf
         by_cases hlt : k < cn
         · obtain ⟨qk, hqk⟩ : ∃ q, (t :: FL)[k]? = some q := ⟨_, List.getElem?_eq_getElem (by rw [HC1.out]; exact hlt)⟩
           obtain ⟨vk, hvk, hv1, hv2⟩ := HMET.out k qk hqk
           obtain ⟨uk, huk, hik⟩ := HABL.out k qk hqk
           have hlook : ∀ w', Fr No wl w' → (Instr.lookup 134 (.map (some mb)) (.int .i64 qk) false).run Tryz.prog w' = .ok (.int .i64 vk) w' := fun w' f => by
            have hlk := (imap_look (t := 134) (HN10.out.no f).map Tryz.underlying22 Tryz.underlying134 (z := .int .i64 0) (by rfl) qk).1
            rwa [hvk] at hlk
           have hcell : ∀ w', Fr No wl w' → ∀ (j : Nat) (q : Int), (t :: FL)[j]? = some q → w'.cell? ⟨gl, j, none⟩ = some (.int .i64 q) := fun w' f j q hq => by
            have := World.ownsRow.cells (owns_fr HROW.out f fun _ _ h => h) (g := gl) (by rw [HC1.out]; rfl) j (.int .i64 q) (by simp only [refRow, List.getElem?_map, hq, Option.map_some])
            rwa [add_at, Nat.zero_add] at this
           have hgz : ∀ w', Fr No wl w' → gl < w'.heap.size := fun w' f => Nat.lt_of_lt_of_le hgl1 f.size
           have hz : ((vk : Int) == 0) = false := by simp; omega
           have hk0 : (0 : Int) ≤ (k : Int) := by omega
           have hkl : (k : Int) < (cn : Int) := by omega
           have HLT := hide hlt
           have HLOOK := hide hlook
           have HCELL := hide hcell
           have HGZ := hide hgz
           have HQK := hide hqk
           have HAK := hide fun w' (f : Fr No wl w') => Able_n (HN10.out.no f).fx hik
           by_cases hk2 : 2 ≤ k
           · obtain ⟨kk, hkk⟩ : ∃ kk, kk + 1 = k := ⟨k - 1, by omega⟩
             have ekk : k - 1 = kk := by omega
             obtain ⟨qj, hqj⟩ : ∃ q, (t :: FL)[k - 1]? = some q := ⟨_, List.getElem?_eq_getElem (by rw [HC1.out]; omega)⟩
             obtain ⟨uj, huj, hij⟩ := HABL.out (k - 1) qj hqj
             have huu := HRIS.out k qj qk uj uk hk2 hqj hqk hij hik
             rw [ekk] at hqj
             have hge : decide ((uk : Int) ≤ (uj : Int)) = false := by simp; omega
             have hge2 : decide (uk ≤ uj) = false := by simp; omega
             have hgt : decide ((1 : Int) < (k : Int)) = true := by simp; omega
             have hcn64 : cn ≤ 64 := HCL.out
             have hsub : (k : Int) - 1 = (kk : Int) := by omega
             have hkk0 : (0 : Int) ≤ (kk : Int) := by omega
             have hkkl : (kk : Int) < (cn : Int) := by omega
             have hwsub : wrap64 ((k : Int) - 1) = (kk : Int) := (wrap64_small (by omega)).trans hsub
             have hwk : IntKind.i64.wrap (kk : Int) = (kk : Int) := wrap_nat (by omega)
             have hw1 : wrap64 ((k : Int) + 1) = (k : Int) + 1 := wrap64_small (by omega)
             clear hcn64
             have HAJ := hide fun w' (f : Fr No wl w') => Able_n (HN10.out.no f).fx hij
             have HSS := hide fun w' (f : Fr No wl w') => (show (fun w' => (Instr.lookup 134 (.map (some mb)) (.int .i64 qk) false).run Tryz.prog w' = .ok (.int .i64 vk) w' ∧ w'.cell? ⟨gl, k, none⟩ = some (.int .i64 qk) ∧ w'.cell? ⟨gl, kk, none⟩ = some (.int .i64 qj) ∧ gl < w'.heap.size) w' from ⟨HLOOK.out w' f, HCELL.out w' f k qk hqk, HCELL.out w' f kk qj hqj, HGZ.out w' f⟩)
             clear hf hlt hqk hvk hv1 hv2 hik hlook hcell hgz hqj hij huu huk huj hk1 hk2 hkk ekk
             go_upto_region 28 with (fail)
             refine wp_region_held_drew (S := fun w' => (Instr.lookup 134 (.map (some mb)) (.int .i64 qk) false).run Tryz.prog w' = .ok (.int .i64 vk) w' ∧ w'.cell? ⟨gl, k, none⟩ = some (.int .i64 qk) ∧ w'.cell? ⟨gl, kk, none⟩ = some (.int .i64 qj) ∧ gl < w'.heap.size) (by kernel_rfl) ?_ (fun hHeld => ?_)
             · exact HSS.out _ (HF.out.trans ((Fr.refl No wr).drew))
             refine tk (i := 0) (v := ?_) (by simp only [lq1, lq3]; rfl) (by kernel_rfl) (by intro _ _ _ h; exact h) (by rfl) (by assumption) ?_ ?_; rotate_left
             · (intro w hSw; (try dsimp only at hSw); go_simp; try (with_reducible rfl))
             try simp only [Act.put, lq4, lq5, lq6]
             refine tk (i := 1) (v := ?_) (by simp only [lq1, lq2, lq3]; rfl) (by kernel_rfl) (by intro _ _ _ h; exact h) (by rfl) (by assumption) ?_ ?_; rotate_left
             · (intro w hSw; (try dsimp only at hSw); go_simp; try (with_reducible rfl))
             try simp only [Act.put, lq4, lq5, lq6]
             refine tk (i := 2) (v := ?_) (by simp only [lq1, lq2, lq3]; rfl) (by kernel_rfl) (by intro _ _ _ h; exact h) (by rfl) (by assumption) ?_ ?_; rotate_left
             · (intro w hSw; (try dsimp only at hSw); go_simp; try (with_reducible rfl))
             try simp only [Act.put, lq4, lq5, lq6]
             refine tk (i := 3) (v := ?_) (by simp only [lq1, lq2, lq3]; rfl) (by kernel_rfl) (by intro _ _ _ h; exact h) (by rfl) (by assumption) ?_ ?_; rotate_left
             · (intro w hSw; (try dsimp only at hSw); go_simp; try (with_reducible rfl))
             try simp only [Act.put, lq4, lq5, lq6]
             refine tk (i := 4) (v := ?_) (by simp only [lq1, lq2, lq3]; rfl) (by kernel_rfl) (by intro _ _ _ h; exact h) (by rfl) (by assumption) ?_ ?_; rotate_left
             · (intro w hSw; (try dsimp only at hSw); go_simp; try (with_reducible rfl))
             try simp only [Act.put, lq4, lq5, lq6]
             refine tk (i := 5) (v := ?_) (by simp only [lq1, lq2, lq3]; rfl) (by kernel_rfl) (by intro _ _ _ h; exact h) (by rfl) (by assumption) ?_ ?_; rotate_left
             · (intro w hSw; (try dsimp only at hSw); go_simp; try (with_reducible rfl))
             try simp only [Act.put, lq4, lq5, lq6]
             refine tk (i := 6) (v := ?_) (by simp only [lq1, lq2, lq3]; rfl) (by kernel_rfl) (by intro _ _ _ h; exact h) (by rfl) (by assumption) ?_ ?_; rotate_left
             · (intro w hSw; (try dsimp only at hSw); go_simp; try (with_reducible rfl))
             try simp only [Act.put, lq4, lq5, lq6]
             refine tk (i := 7) (v := ?_) (by simp only [lq1, lq2, lq3]; rfl) (by kernel_rfl) (by intro _ _ _ h; exact h) (by rfl) (by assumption) ?_ ?_; rotate_left
             · (intro w hSw; (try dsimp only at hSw); go_simp; try (with_reducible rfl))
             try simp only [Act.put, lq4, lq5, lq6]
             refine tk (i := 8) (v := ?_) (by simp only [lq1, lq2, lq3]; rfl) (by kernel_rfl) (by intro _ _ _ h; exact h) (by rfl) (by assumption) ?_ ?_; rotate_left
             · (intro w hSw; (try dsimp only at hSw); go_simp; try (with_reducible rfl))
             try simp only [Act.put, lq4, lq5, lq6]
             refine tk (i := 9) (v := ?_) (by simp only [lq1, lq2, lq3]; rfl) (by kernel_rfl) (by intro _ _ _ h; exact h) (by rfl) (by assumption) ?_ ?_; rotate_left
             · (intro w hSw; (try dsimp only at hSw); go_simp; try (with_reducible rfl))
             try simp only [Act.put, lq4, lq5, lq6]
             refine tk (i := 10) (v := ?_) (by simp only [lq1, lq2, lq3]; rfl) (by kernel_rfl) (by intro _ _ _ h; exact h) (by rfl) (by assumption) ?_ ?_; rotate_left
             · (intro w hSw; (try dsimp only at hSw); go_simp; try (with_reducible rfl))
             try simp only [Act.put, lq4, lq5, lq6]
             refine tk (i := 11) (v := ?_) (by simp only [lq1, lq2, lq3]; rfl) (by kernel_rfl) (by intro _ _ _ h; exact h) (by rfl) (by assumption) ?_ ?_; rotate_left
             · (intro w hSw; (try dsimp only at hSw); go_simp; try (with_reducible rfl))
             try simp only [Act.put, lq4, lq5, lq6]
             refine tk (i := 12) (v := ?_) (by simp only [lq1, lq2, lq3]; rfl) (by kernel_rfl) (by intro _ _ _ h; exact h) (by rfl) (by assumption) ?_ ?_; rotate_left
             · (intro w hSw; (try dsimp only at hSw); go_simp; try (with_reducible rfl))
             try simp only [Act.put, lq4, lq5, lq6]
             refine tk (i := 13) (v := ?_) (by simp only [lq1, lq2, lq3]; rfl) (by kernel_rfl) (by intro _ _ _ h; exact h) (by rfl) (by assumption) ?_ ?_; rotate_left
             · (intro w hSw; (try dsimp only at hSw); go_simp; try (with_reducible rfl))
             try simp only [Act.put, lq4, lq5, lq6]
             refine tk (i := 14) (v := ?_) (by simp only [lq1, lq2, lq3]; rfl) (by kernel_rfl) (by intro _ _ _ h; exact h) (by rfl) (by assumption) ?_ ?_; rotate_left
             · (intro w hSw; (try dsimp only at hSw); go_simp; try (with_reducible rfl))
             try simp only [Act.put, lq4, lq5, lq6]
             refine tk (i := 15) (v := ?_) (by simp only [lq1, lq2, lq3]; rfl) (by kernel_rfl) (by intro _ _ _ h; exact h) (by rfl) (by assumption) ?_ ?_; rotate_left
             · (intro w hSw; (try dsimp only at hSw); go_simp; try (with_reducible rfl))
             try simp only [Act.put, lq4, lq5, lq6]
             refine tk (i := 16) (v := ?_) (by simp only [lq1, lq2, lq3]; rfl) (by kernel_rfl) (by intro _ _ _ h; exact h) (by rfl) (by assumption) ?_ ?_; rotate_left
             · (intro w hSw; (try dsimp only at hSw); go_simp; try (with_reducible rfl))
             try simp only [Act.put, lq4, lq5, lq6]
             refine tk (i := 18) (v := ?_) (by simp only [lq1, lq2, lq3]; rfl) (by kernel_rfl) (by intro _ _ _ h; exact h) (by rfl) (by assumption) ?_ ?_; rotate_left
             · (intro w hSw; (try dsimp only at hSw); go_simp; try (with_reducible rfl))
             try simp only [Act.put, lq4, lq5, lq6]
             refine tk (i := 19) (v := ?_) (by simp only [lq1, lq2, lq3]; rfl) (by kernel_rfl) (by intro _ _ _ h; exact h) (by rfl) (by assumption) ?_ ?_; rotate_left
             · (intro w hSw; (try dsimp only at hSw); go_simp; try (with_reducible rfl))
             try simp only [Act.put, lq4, lq5, lq6]
             refine tk (i := 20) (v := ?_) (by simp only [lq1, lq2, lq3]; rfl) (by kernel_rfl) (by intro _ _ _ h; exact h) (by rfl) (by assumption) ?_ ?_; rotate_left
             · (intro w hSw; (try dsimp only at hSw); go_simp; try (with_reducible rfl))
             try simp only [Act.put, lq4, lq5, lq6]
             refine tk (i := 21) (v := ?_) (by simp only [lq1, lq2, lq3]; rfl) (by kernel_rfl) (by intro _ _ _ h; exact h) (by rfl) (by assumption) ?_ ?_; rotate_left
             · (intro w hSw; (try dsimp only at hSw); go_simp; try (with_reducible rfl))
             try simp only [Act.put, lq4, lq5, lq6]
             refine tk (i := 22) (v := ?_) (by simp only [lq1, lq2, lq3]; rfl) (by kernel_rfl) (by intro _ _ _ h; exact h) (by rfl) (by assumption) ?_ ?_; rotate_left
             · (intro w hSw; (try dsimp only at hSw); go_simp; try (with_reducible rfl))
             try simp only [Act.put, lq4, lq5, lq6]
             refine wpAnyH_ready (rs := [17]) (by kernel_rfl) (by simp) ?_
             refine AllReadyH.cons rfl (fun K hK => ?_) AllReadyH.nil
             · go_simp
               (go_at_call 79; (refine (HAJ.out _ (HF.out.trans ((Fr.refl No wr).drew))).mono ?_); (rintro e wa1 ⟨rfl, f⟩); (have HG1 := hide ((HF.out.trans ((Fr.refl No wr).drew)).trans f)); clear f)
               try go_simp
               refine hK.out _ _ ?_ (fun hHeld2 => ?_)
               · exact HSS.out _ HG1.out
               clear hK K hHeld
               have hHeld := hHeld2
               clear hHeld2
               try simp only [Act.put, lq4, lq5, lq6]
               refine wpAnyH_ready (rs := [23]) (by kernel_rfl) (by simp) ?_
               refine AllReadyH.cons rfl (fun K hK => ?_) AllReadyH.nil
               · go_simp
                 (go_at_call 79; (refine (HAK.out _ HG1.out).mono ?_); (rintro e wa2 ⟨rfl, f⟩); (have HG2 := hide (HG1.out.trans f)); clear f)
                 try go_simp
                 refine hK.out _ _ ?_ (fun hHeld2 => ?_)
                 · exact HSS.out _ HG2.out
                 clear hK K hHeld
                 have hHeld := hHeld2
                 clear hHeld2
                 try simp only [Act.put, lq4, lq5, lq6]
                 refine tk (i := 24) (v := ?_) (by simp only [lq1, lq2, lq3]; rfl) (by kernel_rfl) (by intro _ _ _ h; exact h) (by rfl) (by assumption) ?_ ?_; rotate_left
                 · (intro w hSw; (try dsimp only at hSw); go_simp; try (with_reducible rfl))
                 try simp only [Act.put, lq4, lq5, lq6]
                 refine tk (i := 25) (v := ?_) (by simp only [lq1, lq2, lq3]; rfl) (by kernel_rfl) (by intro _ _ _ h; exact h) (by rfl) (by assumption) ?_ ?_; rotate_left
                 · (intro w hSw; (try dsimp only at hSw); go_simp; try (with_reducible rfl))
                 try simp only [Act.put, lq4, lq5, lq6]
                 refine tk (i := 26) (v := ?_) (by simp only [lq1, lq2, lq3]; rfl) (by kernel_rfl) (by intro _ _ _ h; exact h) (by rfl) (by assumption) ?_ ?_; rotate_left
                 · (intro w hSw; (try dsimp only at hSw); go_simp; try (with_reducible rfl))
                 try simp only [Act.put, lq4, lq5, lq6]
                 refine wpAnyH_done (by kernel_rfl) ?_ _
                 clear hHeld
                 go_wp2_with fail
                 clear hwsub hwk hsub hge hge2 hgt
                 go_roundw
                 case rel => exact ⟨k + 1, Nat.le_add_left 1 k, HLT.out, by first | rfl | (rw [hw1]; rfl), HG2.out⟩
                 case measure =>
                  have h1 := HLT.out
                  try rw [hw1]
                  clear hw1
                  simp [intOf] <;> omega
           · obtain rfl : k = 1 := by omega
             have HSS := hide fun w' (f : Fr No wl w') => (show (fun w' => (Instr.lookup 134 (.map (some mb)) (.int .i64 qk) false).run Tryz.prog w' = .ok (.int .i64 vk) w' ∧ w'.cell? ⟨gl, 1, none⟩ = some (.int .i64 qk) ∧ gl < w'.heap.size) w' from ⟨HLOOK.out w' f, HCELL.out w' f 1 qk hqk, HGZ.out w' f⟩)
             clear hf hlt hqk hvk hv1 hv2 hik hlook hcell hgz huk hk1 hk2
             go_upto_region 28 with (fail)
             refine wp_region_held_drew (S := fun w' => (Instr.lookup 134 (.map (some mb)) (.int .i64 qk) false).run Tryz.prog w' = .ok (.int .i64 vk) w' ∧ w'.cell? ⟨gl, 1, none⟩ = some (.int .i64 qk) ∧ gl < w'.heap.size) (by kernel_rfl) ?_ (fun hHeld => ?_)
             · exact HSS.out _ (HF.out.trans ((Fr.refl No wr).drew))
             refine tk (i := 0) (v := ?_) (by simp only [lq1, lq3]; rfl) (by kernel_rfl) (by intro _ _ _ h; exact h) (by rfl) (by assumption) ?_ ?_; rotate_left
             · (intro w hSw; (try dsimp only at hSw); go_simp; try (with_reducible rfl))
             try simp only [Act.put, lq4, lq5, lq6]
             refine tk (i := 1) (v := ?_) (by simp only [lq1, lq2, lq3]; rfl) (by kernel_rfl) (by intro _ _ _ h; exact h) (by rfl) (by assumption) ?_ ?_; rotate_left
             · (intro w hSw; (try dsimp only at hSw); go_simp; try (with_reducible rfl))
             try simp only [Act.put, lq4, lq5, lq6]
             refine tk (i := 2) (v := ?_) (by simp only [lq1, lq2, lq3]; rfl) (by kernel_rfl) (by intro _ _ _ h; exact h) (by rfl) (by assumption) ?_ ?_; rotate_left
             · (intro w hSw; (try dsimp only at hSw); go_simp; try (with_reducible rfl))
             try simp only [Act.put, lq4, lq5, lq6]
             refine tk (i := 3) (v := ?_) (by simp only [lq1, lq2, lq3]; rfl) (by kernel_rfl) (by intro _ _ _ h; exact h) (by rfl) (by assumption) ?_ ?_; rotate_left
             · (intro w hSw; (try dsimp only at hSw); go_simp; try (with_reducible rfl))
             try simp only [Act.put, lq4, lq5, lq6]
             refine tk (i := 4) (v := ?_) (by simp only [lq1, lq2, lq3]; rfl) (by kernel_rfl) (by intro _ _ _ h; exact h) (by rfl) (by assumption) ?_ ?_; rotate_left
             · (intro w hSw; (try dsimp only at hSw); go_simp; try (with_reducible rfl))
             try simp only [Act.put, lq4, lq5, lq6]
             refine tk (i := 5) (v := ?_) (by simp only [lq1, lq2, lq3]; rfl) (by kernel_rfl) (by intro _ _ _ h; exact h) (by rfl) (by assumption) ?_ ?_; rotate_left
             · (intro w hSw; (try dsimp only at hSw); go_simp; try (with_reducible rfl))
             try simp only [Act.put, lq4, lq5, lq6]
             refine tk (i := 6) (v := ?_) (by simp only [lq1, lq2, lq3]; rfl) (by kernel_rfl) (by intro _ _ _ h; exact h) (by rfl) (by assumption) ?_ ?_; rotate_left
             · (intro w hSw; (try dsimp only at hSw); go_simp; try (with_reducible rfl))
             try simp only [Act.put, lq4, lq5, lq6]
             refine tk (i := 7) (v := ?_) (by simp only [lq1, lq2, lq3]; rfl) (by kernel_rfl) (by intro _ _ _ h; exact h) (by rfl) (by assumption) ?_ ?_; rotate_left
             · (intro w hSw; (try dsimp only at hSw); go_simp; try (with_reducible rfl))
             try simp only [Act.put, lq4, lq5, lq6]
             refine tk (i := 8) (v := ?_) (by simp only [lq1, lq2, lq3]; rfl) (by kernel_rfl) (by intro _ _ _ h; exact h) (by rfl) (by assumption) ?_ ?_; rotate_left
             · (intro w hSw; (try dsimp only at hSw); go_simp; try (with_reducible rfl))
             try simp only [Act.put, lq4, lq5, lq6]
             refine tk (i := 9) (v := ?_) (by simp only [lq1, lq2, lq3]; rfl) (by kernel_rfl) (by intro _ _ _ h; exact h) (by rfl) (by assumption) ?_ ?_; rotate_left
             · (intro w hSw; (try dsimp only at hSw); go_simp; try (with_reducible rfl))
             try simp only [Act.put, lq4, lq5, lq6]
             refine tk (i := 10) (v := ?_) (by simp only [lq1, lq2, lq3]; rfl) (by kernel_rfl) (by intro _ _ _ h; exact h) (by rfl) (by assumption) ?_ ?_; rotate_left
             · (intro w hSw; (try dsimp only at hSw); go_simp; try (with_reducible rfl))
             try simp only [Act.put, lq4, lq5, lq6]
             refine wpAnyH_take (i := 11) (v := undef) (by simp only [lq1, lq2, lq3]; rfl) (by kernel_rfl) (by kernel_rfl) (by kernel_rfl) (by intro _ _ _ h; exact h) (Or.inr ⟨by rfl, rfl⟩) (by assumption) ?_
             try simp only [Act.put, lq4, lq5, lq6]
             refine wpAnyH_take (i := 12) (v := undef) (by simp only [lq1, lq2, lq3]; rfl) (by kernel_rfl) (by kernel_rfl) (by kernel_rfl) (by intro _ _ _ h; exact h) (Or.inr ⟨by rfl, rfl⟩) (by assumption) ?_
             try simp only [Act.put, lq4, lq5, lq6]
             refine wpAnyH_take (i := 13) (v := undef) (by simp only [lq1, lq2, lq3]; rfl) (by kernel_rfl) (by kernel_rfl) (by kernel_rfl) (by intro _ _ _ h; exact h) (Or.inr ⟨by rfl, rfl⟩) (by assumption) ?_
             try simp only [Act.put, lq4, lq5, lq6]
             refine wpAnyH_take (i := 14) (v := undef) (by simp only [lq1, lq2, lq3]; rfl) (by kernel_rfl) (by kernel_rfl) (by kernel_rfl) (by intro _ _ _ h; exact h) (Or.inr ⟨by rfl, rfl⟩) (by assumption) ?_
             try simp only [Act.put, lq4, lq5, lq6]
             refine wpAnyH_take (i := 15) (v := undef) (by simp only [lq1, lq2, lq3]; rfl) (by kernel_rfl) (by kernel_rfl) (by kernel_rfl) (by intro _ _ _ h; exact h) (Or.inr ⟨by rfl, rfl⟩) (by assumption) ?_
             try simp only [Act.put, lq4, lq5, lq6]
             refine wpAnyH_take (i := 16) (v := undef) (by simp only [lq1, lq2, lq3]; rfl) (by kernel_rfl) (by kernel_rfl) (by kernel_rfl) (by intro _ _ _ h; exact h) (Or.inr ⟨by rfl, rfl⟩) (by assumption) ?_
             try simp only [Act.put, lq4, lq5, lq6]
             refine wpAnyH_take (i := 17) (v := undef) (by simp only [lq1, lq2, lq3]; rfl) (by kernel_rfl) (by kernel_rfl) (by kernel_rfl) (by intro _ _ _ h; exact h) (Or.inr ⟨by rfl, rfl⟩) (by assumption) ?_
             try simp only [Act.put, lq4, lq5, lq6]
             refine wpAnyH_take (i := 18) (v := undef) (by simp only [lq1, lq2, lq3]; rfl) (by kernel_rfl) (by kernel_rfl) (by kernel_rfl) (by intro _ _ _ h; exact h) (Or.inr ⟨by rfl, rfl⟩) (by assumption) ?_
             try simp only [Act.put, lq4, lq5, lq6]
             refine wpAnyH_take (i := 19) (v := undef) (by simp only [lq1, lq2, lq3]; rfl) (by kernel_rfl) (by kernel_rfl) (by kernel_rfl) (by intro _ _ _ h; exact h) (Or.inr ⟨by rfl, rfl⟩) (by assumption) ?_
             try simp only [Act.put, lq4, lq5, lq6]
             refine wpAnyH_take (i := 20) (v := undef) (by simp only [lq1, lq2, lq3]; rfl) (by kernel_rfl) (by kernel_rfl) (by kernel_rfl) (by intro _ _ _ h; exact h) (Or.inr ⟨by rfl, rfl⟩) (by assumption) ?_
             try simp only [Act.put, lq4, lq5, lq6]
             refine wpAnyH_take (i := 21) (v := undef) (by simp only [lq1, lq2, lq3]; rfl) (by kernel_rfl) (by kernel_rfl) (by kernel_rfl) (by intro _ _ _ h; exact h) (Or.inr ⟨by rfl, rfl⟩) (by assumption) ?_
             try simp only [Act.put, lq4, lq5, lq6]
             refine wpAnyH_take (i := 22) (v := undef) (by simp only [lq1, lq2, lq3]; rfl) (by kernel_rfl) (by kernel_rfl) (by kernel_rfl) (by intro _ _ _ h; exact h) (Or.inr ⟨by rfl, rfl⟩) (by assumption) ?_
             try simp only [Act.put, lq4, lq5, lq6]
             refine wpAnyH_take (i := 23) (v := undef) (by simp only [lq1, lq2, lq3]; rfl) (by kernel_rfl) (by kernel_rfl) (by kernel_rfl) (by intro _ _ _ h; exact h) (Or.inr ⟨by rfl, rfl⟩) (by assumption) ?_
             try simp only [Act.put, lq4, lq5, lq6]
             refine wpAnyH_take (i := 24) (v := undef) (by simp only [lq1, lq2, lq3]; rfl) (by kernel_rfl) (by kernel_rfl) (by kernel_rfl) (by intro _ _ _ h; exact h) (Or.inr ⟨by rfl, rfl⟩) (by assumption) ?_
             try simp only [Act.put, lq4, lq5, lq6]
             refine tk (i := 25) (v := ?_) (by simp only [lq1, lq2, lq3]; rfl) (by kernel_rfl) (by intro _ _ _ h; exact h) (by rfl) (by assumption) ?_ ?_; rotate_left
             · (intro w hSw; (try dsimp only at hSw); go_simp; try (with_reducible rfl))
             try simp only [Act.put, lq4, lq5, lq6]
             refine tk (i := 26) (v := ?_) (by simp only [lq1, lq2, lq3]; rfl) (by kernel_rfl) (by intro _ _ _ h; exact h) (by rfl) (by assumption) ?_ ?_; rotate_left
             · (intro w hSw; (try dsimp only at hSw); go_simp; try (with_reducible rfl))
             try simp only [Act.put, lq4, lq5, lq6]
             refine wpAnyH_done (by kernel_rfl) ?_ _
             clear hHeld
             go_wp2_with fail
             go_roundw
             case rel => exact ⟨2, by omega, HLT.out, by go_num, (HF.out.trans ((Fr.refl No wr).drew))⟩
             case measure =>
              have := HLT.out
              simp [intOf] <;> omega
         · obtain rfl : k = cn := by omega
           have HN3 := hide (HN10.out.no hf)
           have HS3 := hide (HN10.out.no hf).fx.fr.size
           clear hlt hk1 hk2 hf
           have HTE2 := hide (HN3.out.fx.wb ▸ Tell_g HN3.out.fx.fw.ok HN3.out.fx.fw.lo1 (hide HN3.out.fx.fw.mays) HSORT : Calls Tryz.prog 78 #[.pointer (some ⟨wb, 0, none⟩)] wr (TellP m wr))
           go_wp2_with fail
           refine HTE2.out.mono ?_
           rintro e w11 ⟨B2, cB2, C2, cC2, TB2, tb2, E2, cE2, L1, rfl, oB, oC, oT, oE, ost, otold, f11⟩
           have ep := HN3.out.many.par
           have ec := HN3.out.many.cut
           have em := HN3.out.many.made
           rw [ep] at oB ⊢
           rw [ec] at oC ⊢
           rw [em] at oE ⊢
           clear ep ec em
           have hN11 := HN3.out.no f11
           have fB := (Fr.refl No w11).alloc (.cells #[.slice B2 m0.par.length cB2, .slice C2 (cutIdx m0.cut).length cC2, .slice TB2 L1.length tb2, .int .i64 m.last, .slice E2 m0.made.length cE2] 71)
           have z3 : (World.alloc w11 (.cells #[.slice B2 m0.par.length cB2, .slice C2 (cutIdx m0.cut).length cC2, .slice TB2 L1.length tb2, .int .i64 m.last, .slice E2 m0.made.length cE2] 71)).cell? ⟨gA, 3, none⟩ = some (.int .i64 m0.last) := (HBA.out.fr (hN11.no fB).fd fun h => h (by rw [HDD.out]; exact .inl rfl)).cell 3
           have zA := (hN11.no fB).fd.size
           have zB : gA < (World.alloc w11 (.cells #[.slice B2 m0.par.length cB2, .slice C2 (cutIdx m0.cut).length cC2, .slice TB2 L1.length tb2, .int .i64 m.last, .slice E2 m0.made.length cE2] 71)).heap.size := Nat.lt_of_lt_of_le HBA.out.lt zA
           clear fB zA
           have fN := (Fr.refl No w11).alloc (.cells #[.slice B2 m0.par.length cB2, .slice C2 (cutIdx m0.cut).length cC2, .slice TB2 L1.length tb2, .int .i64 m0.last, .slice E2 m0.made.length cE2] 71)
           have hN12 := hN11.no fN
           have hBA12 : Blk (w11.alloc (.cells #[.slice B2 m0.par.length cB2, .slice C2 (cutIdx m0.cut).length cC2, .slice TB2 L1.length tb2, .int .i64 m0.last, .slice E2 m0.made.length cE2] 71)) gA 71 _ := HBA.out.fr hN12.fd fun h => h (by rw [HDD.out]; exact .inl rfl)
           have hT0 := HT3.out.fr hN12.fd fun b hb h => h (by rw [HDD.out]; exact .inr hb)
           have hT1 : TRow m0.par (cutIdx m0.cut) m0.made wr.heap.size B2 cB2 C2 cC2 TB2 tb2 E2 cE2 L1 w11 := ⟨oB, oC, oT, oE, ost⟩
           have HTO1 := hide otold
           have HBB := hide (Blk.new w11 71 #[.slice B2 m0.par.length cB2, .slice C2 (cutIdx m0.cut).length cC2, .slice TB2 L1.length tb2, .int .i64 m0.last, .slice E2 m0.made.length cE2])
           have HBA3 := hide hBA12
           have HT03 := hide hT0
           have HT13 := hide (hT1.no fN)
           have HMP := hide hN12.map
           have HW13 := hide hN12.fx.fr
           have HWSZ := hide (show wr.heap.size ≤ w11.heap.size from f11.size)
           have HAB2 : Hid (gA ≠ w11.heap.size) := hide (Nat.ne_of_lt (Nat.lt_of_lt_of_le HBA.out.lt hN11.fd.size))
           have HWZ : Hid (wr.heap.size ≤ (World.alloc w11 (.cells #[.slice B2 m0.par.length cB2, .slice C2 (cutIdx m0.cut).length cC2, .slice TB2 L1.length tb2, .int .i64 m0.last, .slice E2 m0.made.length cE2] 71)).heap.size) := hide (Nat.le_trans f11.size fN.size)
           have HGB0 := hide (Nat.le_trans HS3.out f11.size)
           clear oB oC oT oE ost otold f11 hN11 HTE2 hN12 hBA12 hT0 hT1 fN
           go_wp2_with fail
           clear z3 zB
           generalize World.alloc w11 _ = w13 at *
           generalize w11.heap.size = gB at *
           have HMET' := hide HMET.out
           clear HMET HRIS HABL HROW HC1
           obtain ⟨wz, rfl⟩ : ∃ wz : World, wz = w13 := ⟨_, rfl⟩
           go_loopw [18, 19] (fun v i w => ∃ (j : Nat) (K : List (Int × Tg)) (OA : Option Addr) (oc : Nat), j ≤ L1.length ∧ i = .int .i64 (j : Int) ∧ v = .slice OA K.length oc ∧ K = (L1.take j).filter (keptB l m0.last) ∧ w.ownsRow wz.heap.size 140 17 (.slice OA K.length oc) K.length (entRow K) ∧ Fr No wz w) (fun _ i _ => L1.length - (intOf i).toNat)
           case atStart => exact ⟨0, [], none, 0, Nat.zero_le _, rfl, rfl, by simp, ⟨rfl, .inl ⟨rfl, rfl⟩⟩, Fr.refl _ _⟩
           case round =>
            obtain ⟨j, K, OA, oc, hj, rfl, rfl, hK, hrow, hf⟩ := hrel
            have HF := hide hf
            have HROWK := hide hrow
            have HK := hide hK
            have hB2 := (HBB.out.fr hf fun h => h)
            have y2 : wr.cell? ⟨gB, 2, none⟩ = some (.slice TB2 L1.length tb2) := hB2.cell 2
            have yq := hB2.lt
            by_cases hlt : j < L1.length
            · have hmemj := List.getElem_mem hlt
              have hgetj := List.getElem?_eq_getElem hlt
              have htk : L1.take (j + 1) = L1.take j ++ [L1[j]] := by rw [List.take_add_one, hgetj]; rfl
              have hnk := fun (hb : keptB l m0.last L1[j] = false) => not_kept HN3.out.many HN3.out.fx.fw.ok.keys (fun x hx => (HFX4.out.fw.fs.num x hx).2) HTO1.out (x := L1[j]) hmemj hb
              have hlen1 : L1.length ≤ 1000000 := by
               have h1 := congrArg List.length HTO1.out.nums
               rw [List.length_map, List.length_take, Nat.min_self, Gm.refs_length] at h1
               rw [h1]
               exact HN3.out.fx.fw.ok.len
              have hw1 : wrap64 ((j : Int) + 1) = (j : Int) + 1 := wrap64_small (by omega)
              have HW1 := hide hw1
              clear hw1
              have hlook : ∀ w', Fr No wz w' → (Instr.lookup 134 (.map (some mb)) (.int .i64 L1[j].1) false).run Tryz.prog w' = .ok (.int .i64 ((iget l L1[j].1).getD 0)) w' := fun w' f => by
               have hlk := (imap_look (t := 134) (HMP.out.fr f fun h => h) Tryz.underlying22 Tryz.underlying134 (z := .int .i64 0) (by rfl) L1[j].1).1
               have hlz : ((iget l L1[j].1).map (Value.int .i64)).getD (.int .i64 0) = .int .i64 ((iget l L1[j].1).getD 0) := by cases iget l L1[j].1 <;> rfl
               rwa [hlz] at hlk
              obtain ⟨gT, tbc, hgT, -, hgT1⟩ := HT13.out.rT.form (Nat.zero_lt_of_lt hlt)
              have hTS := hgT
              simp only [Value.slice.injEq, true_and] at hTS
              obtain ⟨hTB, -⟩ := hTS
              have hcell : ∀ w', Fr No wz w' → ∀ (i : Nat) (u : Value), (entC L1[j])[i]? = some u → w'.cell? ⟨gT, j * 17 + i, none⟩ = some u := fun w' f i u hu => by
               have := World.ownsRow.cells (HT13.out.no f).rT (g := gT) (by rw [hTB]; rfl) (j * 17 + i) u (entRow_at hgetj hu)
               rwa [add_at, Nat.zero_add] at this
              rw [hTB] at y2
              have hBB2 : ∀ w', Fr No wz w' → w'.cell? ⟨gB, 2, none⟩ = some (.slice (some ⟨gT, 0, none⟩) L1.length tb2) := fun w' f => by have := (HBB.out.fr f fun h => h).cell 2; rwa [hTB] at this
              generalize hxj : L1[j] = xj at *
              obtain ⟨rj, ⟨kind, home, ⟨ek, en, es, eA, ecap, el, er⟩, VA, vc, vss, n1, lost, ofr, byr, set, full, CA2, cc2, code, NA, nc, names⟩⟩ := xj
              simp only at hlook hnk
              have HCS := hide fun w' (f : Fr No wz w') => (show (fun w' => w'.cell? ⟨gT, j * 17, none⟩ = some (.int .i64 rj) ∧ w'.cell? ⟨gT, j * 17 + 1, none⟩ = some (.int .u8 kind) ∧ w'.cell? ⟨gT, j * 17 + 2, none⟩ = some (.int .i64 home) ∧ w'.cell? ⟨gT, j * 17 + 3, none⟩ = some (.int .u8 ek) ∧ w'.cell? ⟨gT, j * 17 + 4, none⟩ = some (.int .i64 en) ∧ w'.cell? ⟨gT, j * 17 + 5, none⟩ = some (.string es) ∧ w'.cell? ⟨gT, j * 17 + 6, none⟩ = some (.slice eA el.length ecap) ∧ w'.cell? ⟨gT, j * 17 + 7, none⟩ = some (.int .i64 er) ∧ w'.cell? ⟨gT, j * 17 + 8, none⟩ = some (.slice VA vss.length vc) ∧ w'.cell? ⟨gT, j * 17 + 9, none⟩ = some (.int .i64 n1) ∧ w'.cell? ⟨gT, j * 17 + 10, none⟩ = some (.int .i64 lost) ∧ w'.cell? ⟨gT, j * 17 + 11, none⟩ = some (.int .i64 ofr) ∧ w'.cell? ⟨gT, j * 17 + 12, none⟩ = some (.int .i64 byr) ∧ w'.cell? ⟨gT, j * 17 + 13, none⟩ = some (.int .u8 set) ∧ w'.cell? ⟨gT, j * 17 + 14, none⟩ = some (.bool full) ∧ w'.cell? ⟨gT, j * 17 + 15, none⟩ = some (.slice CA2 code.length cc2) ∧ w'.cell? ⟨gT, j * 17 + 16, none⟩ = some (.slice NA names.length nc)) w' from ⟨hcell w' f 0 _ rfl, hcell w' f 1 _ rfl, hcell w' f 2 _ rfl, hcell w' f 3 _ rfl, hcell w' f 4 _ rfl, hcell w' f 5 _ rfl, hcell w' f 6 _ rfl, hcell w' f 7 _ rfl, hcell w' f 8 _ rfl, hcell w' f 9 _ rfl, hcell w' f 10 _ rfl, hcell w' f 11 _ rfl, hcell w' f 12 _ rfl, hcell w' f 13 _ rfl, hcell w' f 14 _ rfl, hcell w' f 15 _ rfl, hcell w' f 16 _ rfl⟩)
              have HTK := hide htk
              have HNK := hide hnk
              have HL1M := hide hlen1
              have HLT := hide hlt
              have HSA := hide fun w' (f : Fr No wz w') => (⟨(HBA3.out.fr f fun h => h).cell 3, (HBA3.out.fr f fun h => h).lt, hBB2 w' f, (HBB.out.fr f fun h => h).lt, hlook w' f, Nat.lt_of_lt_of_le hgT1 f.size⟩ : w'.cell? ⟨gA, 3, none⟩ = some (.int .i64 m0.last) ∧ gA < w'.heap.size ∧ w'.cell? ⟨gB, 2, none⟩ = some (.slice (some ⟨gT, 0, none⟩) L1.length tb2) ∧ gB < w'.heap.size ∧ (Instr.lookup 134 (.map (some mb)) (.int .i64 rj) false).run Tryz.prog w' = .ok (.int .i64 ((iget l rj).getD 0)) w' ∧ gT < w'.heap.size)
              have hj0 : (0 : Int) ≤ (j : Int) := Int.natCast_nonneg j
              have hjl : (j : Int) < (L1.length : Int) := Int.ofNat_lt.2 hlt
              have hkb : keptB l m0.last (rj, ⟨kind, home, T.mk ek en es eA ecap el er, VA, vc, vss, n1, lost, ofr, byr, set, full, CA2, cc2, code, NA, nc, names⟩) = ((iget l rj).getD 0 == 0 || decide (rj ≤ m0.last)) := rfl
              have HKB := hide hkb
              clear hmemj hgetj htk hnk hlen1 hlook hgT hTB hcell hBB2 hxj hlt hj hK hrow hf hB2 hkb hgT1
              generalize (iget l rj).getD 0 = vj at *
              by_cases hkept : (vj == 0 || decide (rj ≤ m0.last)) = true
              · have HKP := hide (HKB.out.trans hkept)
                by_cases hv0 : vj = 0
                · have hz : (vj == 0) = true := by rw [hv0]; rfl
                  clear hkept hv0
                  go_upto_region 36 with (fail)
                  refine wp_region_held_drew (S := fun w' => w'.cell? ⟨gT, j * 17, none⟩ = some (.int .i64 rj) ∧ w'.cell? ⟨gA, 3, none⟩ = some (.int .i64 m0.last) ∧ gA < w'.heap.size ∧ w'.cell? ⟨gB, 2, none⟩ = some (.slice (some ⟨gT, 0, none⟩) L1.length tb2) ∧ gB < w'.heap.size ∧ (Instr.lookup 134 (.map (some mb)) (.int .i64 rj) false).run Tryz.prog w' = .ok (.int .i64 vj) w' ∧ gT < w'.heap.size) (by kernel_rfl) ?_ (fun hHeld => ?_)
                  · exact ⟨(HCS.out _ (HF.out.trans ((Fr.refl No wr).drew))).1, HSA.out _ (HF.out.trans ((Fr.refl No wr).drew))⟩
                  refine tk (i := 0) (v := ?_) (by simp only [lq1, lq3]; rfl) (by kernel_rfl) (by intro _ _ _ h; exact h) (by rfl) (by assumption) ?_ ?_; rotate_left
                  · (intro w hSw; (try dsimp only at hSw); go_simp; try (with_reducible rfl))
                  try simp only [Act.put, lq4, lq5, lq6]
                  refine tk (i := 1) (v := ?_) (by simp only [lq1, lq2, lq3]; rfl) (by kernel_rfl) (by intro _ _ _ h; exact h) (by rfl) (by assumption) ?_ ?_; rotate_left
                  · (intro w hSw; (try dsimp only at hSw); go_simp; try (with_reducible rfl))
                  try simp only [Act.put, lq4, lq5, lq6]
                  refine tk (i := 2) (v := ?_) (by simp only [lq1, lq2, lq3]; rfl) (by kernel_rfl) (by intro _ _ _ h; exact h) (by rfl) (by assumption) ?_ ?_; rotate_left
                  · (intro w hSw; (try dsimp only at hSw); go_simp; try (with_reducible rfl))
                  try simp only [Act.put, lq4, lq5, lq6]
                  refine tk (i := 3) (v := ?_) (by simp only [lq1, lq2, lq3]; rfl) (by kernel_rfl) (by intro _ _ _ h; exact h) (by rfl) (by assumption) ?_ ?_; rotate_left
                  · (intro w hSw; (try dsimp only at hSw); go_simp; try (with_reducible rfl))
                  try simp only [Act.put, lq4, lq5, lq6]
                  refine tk (i := 4) (v := ?_) (by simp only [lq1, lq2, lq3]; rfl) (by kernel_rfl) (by intro _ _ _ h; exact h) (by rfl) (by assumption) ?_ ?_; rotate_left
                  · (intro w hSw; (try dsimp only at hSw); go_simp; try (with_reducible rfl))
                  try simp only [Act.put, lq4, lq5, lq6]
                  refine tk (i := 5) (v := ?_) (by simp only [lq1, lq2, lq3]; rfl) (by kernel_rfl) (by intro _ _ _ h; exact h) (by rfl) (by assumption) ?_ ?_; rotate_left
                  · (intro w hSw; (try dsimp only at hSw); go_simp; try (with_reducible rfl))
                  try simp only [Act.put, lq4, lq5, lq6]
                  refine tk (i := 6) (v := ?_) (by simp only [lq1, lq2, lq3]; rfl) (by kernel_rfl) (by intro _ _ _ h; exact h) (by rfl) (by assumption) ?_ ?_; rotate_left
                  · (intro w hSw; (try dsimp only at hSw); go_simp; try (with_reducible rfl))
                  try simp only [Act.put, lq4, lq5, lq6]
                  refine tk (i := 7) (v := ?_) (by simp only [lq1, lq2, lq3]; rfl) (by kernel_rfl) (by intro _ _ _ h; exact h) (by rfl) (by assumption) ?_ ?_; rotate_left
                  · (intro w hSw; (try dsimp only at hSw); go_simp; try (with_reducible rfl))
                  try simp only [Act.put, lq4, lq5, lq6]
                  refine tk (i := 8) (v := ?_) (by simp only [lq1, lq2, lq3]; rfl) (by kernel_rfl) (by intro _ _ _ h; exact h) (by rfl) (by assumption) ?_ ?_; rotate_left
                  · (intro w hSw; (try dsimp only at hSw); go_simp; try (with_reducible rfl))
                  try simp only [Act.put, lq4, lq5, lq6]
                  refine tk (i := 9) (v := ?_) (by simp only [lq1, lq2, lq3]; rfl) (by kernel_rfl) (by intro _ _ _ h; exact h) (by rfl) (by assumption) ?_ ?_; rotate_left
                  · (intro w hSw; (try dsimp only at hSw); go_simp; try (with_reducible rfl))
                  try simp only [Act.put, lq4, lq5, lq6]
                  refine wpAnyH_take (i := 10) (v := undef) (by simp only [lq1, lq2, lq3]; rfl) (by kernel_rfl) (by kernel_rfl) (by kernel_rfl) (by intro _ _ _ h; exact h) (Or.inr ⟨by rfl, rfl⟩) (by assumption) ?_
                  try simp only [Act.put, lq4, lq5, lq6]
                  refine wpAnyH_take (i := 11) (v := undef) (by simp only [lq1, lq2, lq3]; rfl) (by kernel_rfl) (by kernel_rfl) (by kernel_rfl) (by intro _ _ _ h; exact h) (Or.inr ⟨by rfl, rfl⟩) (by assumption) ?_
                  try simp only [Act.put, lq4, lq5, lq6]
                  refine wpAnyH_take (i := 12) (v := undef) (by simp only [lq1, lq2, lq3]; rfl) (by kernel_rfl) (by kernel_rfl) (by kernel_rfl) (by intro _ _ _ h; exact h) (Or.inr ⟨by rfl, rfl⟩) (by assumption) ?_
                  try simp only [Act.put, lq4, lq5, lq6]
                  refine wpAnyH_take (i := 13) (v := undef) (by simp only [lq1, lq2, lq3]; rfl) (by kernel_rfl) (by kernel_rfl) (by kernel_rfl) (by intro _ _ _ h; exact h) (Or.inr ⟨by rfl, rfl⟩) (by assumption) ?_
                  try simp only [Act.put, lq4, lq5, lq6]
                  refine wpAnyH_take (i := 14) (v := undef) (by simp only [lq1, lq2, lq3]; rfl) (by kernel_rfl) (by kernel_rfl) (by kernel_rfl) (by intro _ _ _ h; exact h) (Or.inr ⟨by rfl, rfl⟩) (by assumption) ?_
                  try simp only [Act.put, lq4, lq5, lq6]
                  refine wpAnyH_take (i := 15) (v := undef) (by simp only [lq1, lq2, lq3]; rfl) (by kernel_rfl) (by kernel_rfl) (by kernel_rfl) (by intro _ _ _ h; exact h) (Or.inr ⟨by rfl, rfl⟩) (by assumption) ?_
                  try simp only [Act.put, lq4, lq5, lq6]
                  refine wpAnyH_take (i := 16) (v := undef) (by simp only [lq1, lq2, lq3]; rfl) (by kernel_rfl) (by kernel_rfl) (by kernel_rfl) (by intro _ _ _ h; exact h) (Or.inr ⟨by rfl, rfl⟩) (by assumption) ?_
                  try simp only [Act.put, lq4, lq5, lq6]
                  refine wpAnyH_take (i := 17) (v := undef) (by simp only [lq1, lq2, lq3]; rfl) (by kernel_rfl) (by kernel_rfl) (by kernel_rfl) (by intro _ _ _ h; exact h) (Or.inr ⟨by rfl, rfl⟩) (by assumption) ?_
                  try simp only [Act.put, lq4, lq5, lq6]
                  refine wpAnyH_take (i := 18) (v := undef) (by simp only [lq1, lq2, lq3]; rfl) (by kernel_rfl) (by kernel_rfl) (by kernel_rfl) (by intro _ _ _ h; exact h) (Or.inr ⟨by rfl, rfl⟩) (by assumption) ?_
                  try simp only [Act.put, lq4, lq5, lq6]
                  refine tk (i := 19) (v := ?_) (by simp only [lq1, lq2, lq3]; rfl) (by kernel_rfl) (by intro _ _ _ h; exact h) (by rfl) (by assumption) ?_ ?_; rotate_left
                  · (intro w hSw; (try dsimp only at hSw); go_simp; try (with_reducible rfl))
                  try simp only [Act.put, lq4, lq5, lq6]
                  refine wpAnyH_done (by kernel_rfl) ?_ _
                  clear hHeld
                  have HFD := hide (HF.out.trans ((Fr.refl No wr).drew))
                  have HFD2 := hide ((Fr.refl No wr).drew)
                  generalize World.drew wr = wd at *
                  obtain ⟨x0, x1, x2, x3, x4, x5, x6, x7, x8, x9, x10, x11, x12, x13, x14, x15, x16⟩ := HCS.out wd HFD.out
                  obtain ⟨-, -, y2, yq, -, xq⟩ := HSA.out wd HFD.out
                  have hfa := (Fr.refl No wd).alloc (.cells #[.int .i64 rj, .int .u8 kind, .int .i64 home, .int .u8 ek, .int .i64 en, .string es, .slice eA el.length ecap, .int .i64 er, .slice VA vss.length vc, .int .i64 n1, .int .i64 lost, .int .i64 ofr, .int .i64 byr, .int .u8 set, .bool full, .slice CA2 code.length cc2, .slice NA names.length nc] 140)
                  have HBE := hide (ent_cells (rj, ⟨kind, home, T.mk ek en es eA ecap el er, VA, vc, vss, n1, lost, ofr, byr, set, full, CA2, cc2, code, NA, nc, names⟩) (Blk.new wd 140 #[.int .i64 rj, .int .u8 kind, .int .i64 home, .int .u8 ek, .int .i64 en, .string es, .slice eA el.length ecap, .int .i64 er, .slice VA vss.length vc, .int .i64 n1, .int .i64 lost, .int .i64 ofr, .int .i64 byr, .int .u8 set, .bool full, .slice CA2 code.length cc2, .slice NA names.length nc]))
                  have HRW := hide (owns_fr (owns_fr HROWK.out HFD2.out fun _ _ h => h) hfa fun _ _ h => h)
                  have HFE := hide (HFD.out.trans hfa)
                  have HKL := hide (show K.length ≤ 1000000 by rw [HK.out]; exact Nat.le_trans (List.length_filter_le _ _) (Nat.le_trans (List.length_take_le' _ _) HL1M.out))
                  have HSZ := hide HFE.out.size
                  clear hfa
                  go_wp2_with (at_builtin; refine wpList_app_ent _ (by rfl) _ _ (by rfl) wz.heap.size wd.heap.size (.slice OA K.length oc) K (rj, ⟨kind, home, T.mk ek en es eA ecap el er, VA, vc, vss, n1, lost, ofr, byr, set, full, CA2, cc2, code, NA, nc, names⟩) (by rfl) (by rfl) HRW.out HBE.out HKL.out HSZ.out ?_; intro v2 w2 hown2 hgr2; obtain ⟨A3, c3, rfl⟩ := owns_form hown2; have HOW := hide hown2; have HGR := hide hgr2; clear hown2 hgr2)
                  clear x0 x1 x2 x3 x4 x5 x6 x7 x8 x9 x10 x11 x12 x13 x14 x15 x16
                  go_roundw
                  case rel =>
                   refine ⟨j + 1, _, A3, c3, HLT.out, by rw [HW1.out]; rfl, by simp only [List.length_append, List.length_cons, List.length_nil], ?_, HOW.out, HFE.out.trans' (fr_grownG HGR.out) fun i hi e => ?_⟩
                   · rw [HTK.out, List.filter_append, ← HK.out]
                     simp only [List.filter_cons, HKP.out, if_true, List.filter_nil]
                   · exact absurd hi (Nat.not_lt.2 (owns_lt HRW.out i e.symm).1)
                  case measure =>
                   have h1 := HLT.out
                   rw [HW1.out]
                   simp [intOf] <;> omega
                · have hz : (vj == 0) = false := by simp only [beq_eq_false_iff_ne, ne_eq]; exact hv0
                  rw [hz, Bool.false_or] at hkept
                  clear hv0
                  go_upto_region 36 with (fail)
                  refine wp_region_held_drew (S := fun w' => w'.cell? ⟨gT, j * 17, none⟩ = some (.int .i64 rj) ∧ w'.cell? ⟨gA, 3, none⟩ = some (.int .i64 m0.last) ∧ gA < w'.heap.size ∧ w'.cell? ⟨gB, 2, none⟩ = some (.slice (some ⟨gT, 0, none⟩) L1.length tb2) ∧ gB < w'.heap.size ∧ (Instr.lookup 134 (.map (some mb)) (.int .i64 rj) false).run Tryz.prog w' = .ok (.int .i64 vj) w' ∧ gT < w'.heap.size) (by kernel_rfl) ?_ (fun hHeld => ?_)
                  · exact ⟨(HCS.out _ (HF.out.trans ((Fr.refl No wr).drew))).1, HSA.out _ (HF.out.trans ((Fr.refl No wr).drew))⟩
                  refine tk (i := 0) (v := ?_) (by simp only [lq1, lq3]; rfl) (by kernel_rfl) (by intro _ _ _ h; exact h) (by rfl) (by assumption) ?_ ?_; rotate_left
                  · (intro w hSw; (try dsimp only at hSw); go_simp; try (with_reducible rfl))
                  try simp only [Act.put, lq4, lq5, lq6]
                  refine tk (i := 1) (v := ?_) (by simp only [lq1, lq2, lq3]; rfl) (by kernel_rfl) (by intro _ _ _ h; exact h) (by rfl) (by assumption) ?_ ?_; rotate_left
                  · (intro w hSw; (try dsimp only at hSw); go_simp; try (with_reducible rfl))
                  try simp only [Act.put, lq4, lq5, lq6]
                  refine tk (i := 2) (v := ?_) (by simp only [lq1, lq2, lq3]; rfl) (by kernel_rfl) (by intro _ _ _ h; exact h) (by rfl) (by assumption) ?_ ?_; rotate_left
                  · (intro w hSw; (try dsimp only at hSw); go_simp; try (with_reducible rfl))
                  try simp only [Act.put, lq4, lq5, lq6]
                  refine tk (i := 3) (v := ?_) (by simp only [lq1, lq2, lq3]; rfl) (by kernel_rfl) (by intro _ _ _ h; exact h) (by rfl) (by assumption) ?_ ?_; rotate_left
                  · (intro w hSw; (try dsimp only at hSw); go_simp; try (with_reducible rfl))
                  try simp only [Act.put, lq4, lq5, lq6]
                  refine tk (i := 4) (v := ?_) (by simp only [lq1, lq2, lq3]; rfl) (by kernel_rfl) (by intro _ _ _ h; exact h) (by rfl) (by assumption) ?_ ?_; rotate_left
                  · (intro w hSw; (try dsimp only at hSw); go_simp; try (with_reducible rfl))
                  try simp only [Act.put, lq4, lq5, lq6]
                  refine tk (i := 5) (v := ?_) (by simp only [lq1, lq2, lq3]; rfl) (by kernel_rfl) (by intro _ _ _ h; exact h) (by rfl) (by assumption) ?_ ?_; rotate_left
                  · (intro w hSw; (try dsimp only at hSw); go_simp; try (with_reducible rfl))
                  try simp only [Act.put, lq4, lq5, lq6]
                  refine tk (i := 6) (v := ?_) (by simp only [lq1, lq2, lq3]; rfl) (by kernel_rfl) (by intro _ _ _ h; exact h) (by rfl) (by assumption) ?_ ?_; rotate_left
                  · (intro w hSw; (try dsimp only at hSw); go_simp; try (with_reducible rfl))
                  try simp only [Act.put, lq4, lq5, lq6]
                  refine tk (i := 7) (v := ?_) (by simp only [lq1, lq2, lq3]; rfl) (by kernel_rfl) (by intro _ _ _ h; exact h) (by rfl) (by assumption) ?_ ?_; rotate_left
                  · (intro w hSw; (try dsimp only at hSw); go_simp; try (with_reducible rfl))
                  try simp only [Act.put, lq4, lq5, lq6]
                  refine tk (i := 8) (v := ?_) (by simp only [lq1, lq2, lq3]; rfl) (by kernel_rfl) (by intro _ _ _ h; exact h) (by rfl) (by assumption) ?_ ?_; rotate_left
                  · (intro w hSw; (try dsimp only at hSw); go_simp; try (with_reducible rfl))
                  try simp only [Act.put, lq4, lq5, lq6]
                  refine tk (i := 9) (v := ?_) (by simp only [lq1, lq2, lq3]; rfl) (by kernel_rfl) (by intro _ _ _ h; exact h) (by rfl) (by assumption) ?_ ?_; rotate_left
                  · (intro w hSw; (try dsimp only at hSw); go_simp; try (with_reducible rfl))
                  try simp only [Act.put, lq4, lq5, lq6]
                  refine tk (i := 10) (v := ?_) (by simp only [lq1, lq2, lq3]; rfl) (by kernel_rfl) (by intro _ _ _ h; exact h) (by rfl) (by assumption) ?_ ?_; rotate_left
                  · (intro w hSw; (try dsimp only at hSw); go_simp; try (with_reducible rfl))
                  try simp only [Act.put, lq4, lq5, lq6]
                  refine tk (i := 11) (v := ?_) (by simp only [lq1, lq2, lq3]; rfl) (by kernel_rfl) (by intro _ _ _ h; exact h) (by rfl) (by assumption) ?_ ?_; rotate_left
                  · (intro w hSw; (try dsimp only at hSw); go_simp; try (with_reducible rfl))
                  try simp only [Act.put, lq4, lq5, lq6]
                  refine tk (i := 12) (v := ?_) (by simp only [lq1, lq2, lq3]; rfl) (by kernel_rfl) (by intro _ _ _ h; exact h) (by rfl) (by assumption) ?_ ?_; rotate_left
                  · (intro w hSw; (try dsimp only at hSw); go_simp; try (with_reducible rfl))
                  try simp only [Act.put, lq4, lq5, lq6]
                  refine tk (i := 13) (v := ?_) (by simp only [lq1, lq2, lq3]; rfl) (by kernel_rfl) (by intro _ _ _ h; exact h) (by rfl) (by assumption) ?_ ?_; rotate_left
                  · (intro w hSw; (try dsimp only at hSw); go_simp; try (with_reducible rfl))
                  try simp only [Act.put, lq4, lq5, lq6]
                  refine tk (i := 14) (v := ?_) (by simp only [lq1, lq2, lq3]; rfl) (by kernel_rfl) (by intro _ _ _ h; exact h) (by rfl) (by assumption) ?_ ?_; rotate_left
                  · (intro w hSw; (try dsimp only at hSw); go_simp; try (with_reducible rfl))
                  try simp only [Act.put, lq4, lq5, lq6]
                  refine tk (i := 15) (v := ?_) (by simp only [lq1, lq2, lq3]; rfl) (by kernel_rfl) (by intro _ _ _ h; exact h) (by rfl) (by assumption) ?_ ?_; rotate_left
                  · (intro w hSw; (try dsimp only at hSw); go_simp; try (with_reducible rfl))
                  try simp only [Act.put, lq4, lq5, lq6]
                  refine tk (i := 16) (v := ?_) (by simp only [lq1, lq2, lq3]; rfl) (by kernel_rfl) (by intro _ _ _ h; exact h) (by rfl) (by assumption) ?_ ?_; rotate_left
                  · (intro w hSw; (try dsimp only at hSw); go_simp; try (with_reducible rfl))
                  try simp only [Act.put, lq4, lq5, lq6]
                  refine tk (i := 17) (v := ?_) (by simp only [lq1, lq2, lq3]; rfl) (by kernel_rfl) (by intro _ _ _ h; exact h) (by rfl) (by assumption) ?_ ?_; rotate_left
                  · (intro w hSw; (try dsimp only at hSw); go_simp; try (with_reducible rfl))
                  try simp only [Act.put, lq4, lq5, lq6]
                  refine tk (i := 18) (v := ?_) (by simp only [lq1, lq2, lq3]; rfl) (by kernel_rfl) (by intro _ _ _ h; exact h) (by rfl) (by assumption) ?_ ?_; rotate_left
                  · (intro w hSw; (try dsimp only at hSw); go_simp; try (with_reducible rfl))
                  try simp only [Act.put, lq4, lq5, lq6]
                  refine tk (i := 19) (v := ?_) (by simp only [lq1, lq2, lq3]; rfl) (by kernel_rfl) (by intro _ _ _ h; exact h) (by rfl) (by assumption) ?_ ?_; rotate_left
                  · (intro w hSw; (try dsimp only at hSw); go_simp; try (with_reducible rfl))
                  try simp only [Act.put, lq4, lq5, lq6]
                  refine wpAnyH_done (by kernel_rfl) ?_ _
                  clear hHeld
                  have HFD := hide (HF.out.trans ((Fr.refl No wr).drew))
                  have HFD2 := hide ((Fr.refl No wr).drew)
                  generalize World.drew wr = wd at *
                  obtain ⟨x0, x1, x2, x3, x4, x5, x6, x7, x8, x9, x10, x11, x12, x13, x14, x15, x16⟩ := HCS.out wd HFD.out
                  obtain ⟨-, -, y2, yq, -, xq⟩ := HSA.out wd HFD.out
                  have hfa := (Fr.refl No wd).alloc (.cells #[.int .i64 rj, .int .u8 kind, .int .i64 home, .int .u8 ek, .int .i64 en, .string es, .slice eA el.length ecap, .int .i64 er, .slice VA vss.length vc, .int .i64 n1, .int .i64 lost, .int .i64 ofr, .int .i64 byr, .int .u8 set, .bool full, .slice CA2 code.length cc2, .slice NA names.length nc] 140)
                  have HBE := hide (ent_cells (rj, ⟨kind, home, T.mk ek en es eA ecap el er, VA, vc, vss, n1, lost, ofr, byr, set, full, CA2, cc2, code, NA, nc, names⟩) (Blk.new wd 140 #[.int .i64 rj, .int .u8 kind, .int .i64 home, .int .u8 ek, .int .i64 en, .string es, .slice eA el.length ecap, .int .i64 er, .slice VA vss.length vc, .int .i64 n1, .int .i64 lost, .int .i64 ofr, .int .i64 byr, .int .u8 set, .bool full, .slice CA2 code.length cc2, .slice NA names.length nc]))
                  have HRW := hide (owns_fr (owns_fr HROWK.out HFD2.out fun _ _ h => h) hfa fun _ _ h => h)
                  have HFE := hide (HFD.out.trans hfa)
                  have HKL := hide (show K.length ≤ 1000000 by rw [HK.out]; exact Nat.le_trans (List.length_filter_le _ _) (Nat.le_trans (List.length_take_le' _ _) HL1M.out))
                  have HSZ := hide HFE.out.size
                  clear hfa
                  go_wp2_with (at_builtin; refine wpList_app_ent _ (by rfl) _ _ (by rfl) wz.heap.size wd.heap.size (.slice OA K.length oc) K (rj, ⟨kind, home, T.mk ek en es eA ecap el er, VA, vc, vss, n1, lost, ofr, byr, set, full, CA2, cc2, code, NA, nc, names⟩) (by rfl) (by rfl) HRW.out HBE.out HKL.out HSZ.out ?_; intro v2 w2 hown2 hgr2; obtain ⟨A3, c3, rfl⟩ := owns_form hown2; have HOW := hide hown2; have HGR := hide hgr2; clear hown2 hgr2)
                  clear x0 x1 x2 x3 x4 x5 x6 x7 x8 x9 x10 x11 x12 x13 x14 x15 x16
                  go_roundw
                  case rel =>
                   refine ⟨j + 1, _, A3, c3, HLT.out, by rw [HW1.out]; rfl, by simp only [List.length_append, List.length_cons, List.length_nil], ?_, HOW.out, HFE.out.trans' (fr_grownG HGR.out) fun i hi e => ?_⟩
                   · rw [HTK.out, List.filter_append, ← HK.out]
                     simp only [List.filter_cons, HKP.out, if_true, List.filter_nil]
                   · exact absurd hi (Nat.not_lt.2 (owns_lt HRW.out i e.symm).1)
                  case measure =>
                   have h1 := HLT.out
                   rw [HW1.out]
                   simp [intOf] <;> omega
              · have hkf : (vj == 0 || decide (rj ≤ m0.last)) = false := Bool.eq_false_iff.2 hkept
                have HKP := hide (HKB.out.trans hkf)
                obtain ⟨hz, hle⟩ := Bool.or_eq_false_iff.1 hkf
                obtain ⟨hk14, hoft⟩ := HNK.out HKP.out
                have hkb : (kind != 14) = false := by rw [show kind = 14 from hk14]; rfl
                have hob : (ofr != t) = false := by rw [show ofr = t from hoft]; simp
                clear hkept hkf hk14 hoft
                go_upto_region 36 with (fail)
                refine wp_region_held_drew (S := fun w' => w'.cell? ⟨gT, j * 17, none⟩ = some (.int .i64 rj) ∧ w'.cell? ⟨gA, 3, none⟩ = some (.int .i64 m0.last) ∧ gA < w'.heap.size ∧ w'.cell? ⟨gB, 2, none⟩ = some (.slice (some ⟨gT, 0, none⟩) L1.length tb2) ∧ gB < w'.heap.size ∧ (Instr.lookup 134 (.map (some mb)) (.int .i64 rj) false).run Tryz.prog w' = .ok (.int .i64 vj) w' ∧ gT < w'.heap.size) (by kernel_rfl) ?_ (fun hHeld => ?_)
                · exact ⟨(HCS.out _ (HF.out.trans ((Fr.refl No wr).drew))).1, HSA.out _ (HF.out.trans ((Fr.refl No wr).drew))⟩
                refine tk (i := 0) (v := ?_) (by simp only [lq1, lq3]; rfl) (by kernel_rfl) (by intro _ _ _ h; exact h) (by rfl) (by assumption) ?_ ?_; rotate_left
                · (intro w hSw; (try dsimp only at hSw); go_simp; try (with_reducible rfl))
                try simp only [Act.put, lq4, lq5, lq6]
                refine tk (i := 1) (v := ?_) (by simp only [lq1, lq2, lq3]; rfl) (by kernel_rfl) (by intro _ _ _ h; exact h) (by rfl) (by assumption) ?_ ?_; rotate_left
                · (intro w hSw; (try dsimp only at hSw); go_simp; try (with_reducible rfl))
                try simp only [Act.put, lq4, lq5, lq6]
                refine tk (i := 2) (v := ?_) (by simp only [lq1, lq2, lq3]; rfl) (by kernel_rfl) (by intro _ _ _ h; exact h) (by rfl) (by assumption) ?_ ?_; rotate_left
                · (intro w hSw; (try dsimp only at hSw); go_simp; try (with_reducible rfl))
                try simp only [Act.put, lq4, lq5, lq6]
                refine tk (i := 3) (v := ?_) (by simp only [lq1, lq2, lq3]; rfl) (by kernel_rfl) (by intro _ _ _ h; exact h) (by rfl) (by assumption) ?_ ?_; rotate_left
                · (intro w hSw; (try dsimp only at hSw); go_simp; try (with_reducible rfl))
                try simp only [Act.put, lq4, lq5, lq6]
                refine tk (i := 4) (v := ?_) (by simp only [lq1, lq2, lq3]; rfl) (by kernel_rfl) (by intro _ _ _ h; exact h) (by rfl) (by assumption) ?_ ?_; rotate_left
                · (intro w hSw; (try dsimp only at hSw); go_simp; try (with_reducible rfl))
                try simp only [Act.put, lq4, lq5, lq6]
                refine tk (i := 5) (v := ?_) (by simp only [lq1, lq2, lq3]; rfl) (by kernel_rfl) (by intro _ _ _ h; exact h) (by rfl) (by assumption) ?_ ?_; rotate_left
                · (intro w hSw; (try dsimp only at hSw); go_simp; try (with_reducible rfl))
                try simp only [Act.put, lq4, lq5, lq6]
                refine tk (i := 6) (v := ?_) (by simp only [lq1, lq2, lq3]; rfl) (by kernel_rfl) (by intro _ _ _ h; exact h) (by rfl) (by assumption) ?_ ?_; rotate_left
                · (intro w hSw; (try dsimp only at hSw); go_simp; try (with_reducible rfl))
                try simp only [Act.put, lq4, lq5, lq6]
                refine tk (i := 7) (v := ?_) (by simp only [lq1, lq2, lq3]; rfl) (by kernel_rfl) (by intro _ _ _ h; exact h) (by rfl) (by assumption) ?_ ?_; rotate_left
                · (intro w hSw; (try dsimp only at hSw); go_simp; try (with_reducible rfl))
                try simp only [Act.put, lq4, lq5, lq6]
                refine tk (i := 8) (v := ?_) (by simp only [lq1, lq2, lq3]; rfl) (by kernel_rfl) (by intro _ _ _ h; exact h) (by rfl) (by assumption) ?_ ?_; rotate_left
                · (intro w hSw; (try dsimp only at hSw); go_simp; try (with_reducible rfl))
                try simp only [Act.put, lq4, lq5, lq6]
                refine tk (i := 9) (v := ?_) (by simp only [lq1, lq2, lq3]; rfl) (by kernel_rfl) (by intro _ _ _ h; exact h) (by rfl) (by assumption) ?_ ?_; rotate_left
                · (intro w hSw; (try dsimp only at hSw); go_simp; try (with_reducible rfl))
                try simp only [Act.put, lq4, lq5, lq6]
                refine tk (i := 10) (v := ?_) (by simp only [lq1, lq2, lq3]; rfl) (by kernel_rfl) (by intro _ _ _ h; exact h) (by rfl) (by assumption) ?_ ?_; rotate_left
                · (intro w hSw; (try dsimp only at hSw); go_simp; try (with_reducible rfl))
                try simp only [Act.put, lq4, lq5, lq6]
                refine tk (i := 11) (v := ?_) (by simp only [lq1, lq2, lq3]; rfl) (by kernel_rfl) (by intro _ _ _ h; exact h) (by rfl) (by assumption) ?_ ?_; rotate_left
                · (intro w hSw; (try dsimp only at hSw); go_simp; try (with_reducible rfl))
                try simp only [Act.put, lq4, lq5, lq6]
                refine tk (i := 12) (v := ?_) (by simp only [lq1, lq2, lq3]; rfl) (by kernel_rfl) (by intro _ _ _ h; exact h) (by rfl) (by assumption) ?_ ?_; rotate_left
                · (intro w hSw; (try dsimp only at hSw); go_simp; try (with_reducible rfl))
                try simp only [Act.put, lq4, lq5, lq6]
                refine tk (i := 13) (v := ?_) (by simp only [lq1, lq2, lq3]; rfl) (by kernel_rfl) (by intro _ _ _ h; exact h) (by rfl) (by assumption) ?_ ?_; rotate_left
                · (intro w hSw; (try dsimp only at hSw); go_simp; try (with_reducible rfl))
                try simp only [Act.put, lq4, lq5, lq6]
                refine tk (i := 14) (v := ?_) (by simp only [lq1, lq2, lq3]; rfl) (by kernel_rfl) (by intro _ _ _ h; exact h) (by rfl) (by assumption) ?_ ?_; rotate_left
                · (intro w hSw; (try dsimp only at hSw); go_simp; try (with_reducible rfl))
                try simp only [Act.put, lq4, lq5, lq6]
                refine tk (i := 15) (v := ?_) (by simp only [lq1, lq2, lq3]; rfl) (by kernel_rfl) (by intro _ _ _ h; exact h) (by rfl) (by assumption) ?_ ?_; rotate_left
                · (intro w hSw; (try dsimp only at hSw); go_simp; try (with_reducible rfl))
                try simp only [Act.put, lq4, lq5, lq6]
                refine tk (i := 16) (v := ?_) (by simp only [lq1, lq2, lq3]; rfl) (by kernel_rfl) (by intro _ _ _ h; exact h) (by rfl) (by assumption) ?_ ?_; rotate_left
                · (intro w hSw; (try dsimp only at hSw); go_simp; try (with_reducible rfl))
                try simp only [Act.put, lq4, lq5, lq6]
                refine tk (i := 17) (v := ?_) (by simp only [lq1, lq2, lq3]; rfl) (by kernel_rfl) (by intro _ _ _ h; exact h) (by rfl) (by assumption) ?_ ?_; rotate_left
                · (intro w hSw; (try dsimp only at hSw); go_simp; try (with_reducible rfl))
                try simp only [Act.put, lq4, lq5, lq6]
                refine tk (i := 18) (v := ?_) (by simp only [lq1, lq2, lq3]; rfl) (by kernel_rfl) (by intro _ _ _ h; exact h) (by rfl) (by assumption) ?_ ?_; rotate_left
                · (intro w hSw; (try dsimp only at hSw); go_simp; try (with_reducible rfl))
                try simp only [Act.put, lq4, lq5, lq6]
                refine tk (i := 19) (v := ?_) (by simp only [lq1, lq2, lq3]; rfl) (by kernel_rfl) (by intro _ _ _ h; exact h) (by rfl) (by assumption) ?_ ?_; rotate_left
                · (intro w hSw; (try dsimp only at hSw); go_simp; try (with_reducible rfl))
                try simp only [Act.put, lq4, lq5, lq6]
                refine wpAnyH_done (by kernel_rfl) ?_ _
                clear hHeld
                have HFD := hide (HF.out.trans ((Fr.refl No wr).drew))
                have HFD2 := hide ((Fr.refl No wr).drew)
                generalize World.drew wr = wd at *
                obtain ⟨x0, x1, x2, x3, x4, x5, x6, x7, x8, x9, x10, x11, x12, x13, x14, x15, x16⟩ := HCS.out wd HFD.out
                obtain ⟨-, -, y2, yq, -, xq⟩ := HSA.out wd HFD.out
                clear x0 x2 x3 x4 x5 x6 x7 x8 x9 x10 x12 x13 x14 x15 x16
                go_wp2_with fail
                clear x1 x11
                go_roundw
                case rel =>
                 refine ⟨j + 1, K, OA, oc, HLT.out, by rw [HW1.out]; rfl, rfl, ?_, owns_fr HROWK.out HFD2.out fun _ _ h => h, HFD.out⟩
                 rw [HTK.out, List.filter_append, ← HK.out]
                 simp only [List.filter_cons, HKP.out, Bool.false_eq_true, if_false, List.filter_nil, List.append_nil]
                case measure =>
                 have h1 := HLT.out
                 rw [HW1.out]
                 simp [intOf] <;> omega
            · obtain rfl : L1.length = j := Nat.le_antisymm (Nat.le_of_not_lt hlt) hj
              clear hlt hj hf hrow hB2 hK
              have hf := HF.out
              have hrow := HROWK.out
              have hBg := HBB.out.fr hf fun h => h
              have hAg := HBA3.out.fr hf fun h => h
              have yf := hBg.frozen
              have hne : gA ≠ gB := HAB2.out
              have hT0 := HT03.out.no hf
              have hT1 := HT13.out.no hf
              have fS : Fr (fun i => i = gB) wr (wr.setCell ⟨gB, 2, none⟩ (.slice OA K.length oc)) := (Fr.refl (fun i => i = gB) wr).set (fun _ => rfl) _
              have hB5 : Blk (wr.setCell ⟨gB, 2, none⟩ (.slice OA K.length oc)) gB 71 #[.slice B2 m0.par.length cB2, .slice C2 (cutIdx m0.cut).length cC2, .slice OA K.length oc, .int .i64 m0.last, .slice E2 m0.made.length cE2] := by simpa using hBg.set_ 2 (.slice OA K.length oc)
              have hA5 := hAg.fr fS fun e => hne e
              have hT05 := hT0.fr fS fun b hb e => hT0.ne hb hBg (.inr rfl) e
              have hT15 := hT1.fr fS fun b hb e => hT1.ne hb hBg (.inr rfl) e
              have hrow5 := owns_fr hrow fS fun q hq e => owns_blk_ne hrow hBg (by decide) hq e
              have hW5 : Fr No W0 (wr.setCell ⟨gB, 2, none⟩ (.slice OA K.length oc)) := (HW13.out.trans hf).trans' fS fun i hi e => by
               have e' : i = gB := e
               exact absurd hi (Nat.not_lt.2 (e' ▸ HGB0.out))
              have HB5 := hide hB5
              have HA5 := hide hA5
              have HT05 := hide hT05
              have HT15 := hide hT15
              have HROW5 := hide hrow5
              have HW5 := hide hW5
              have HWB5 := hide HWZ.out
              clear hf hrow hBg hAg hne hT0 hT1 fS hB5 hA5 hT05 hT15 hrow5 hW5
              have y0 : wr.cell? ⟨gB, 0, none⟩ = some (.slice B2 m0.par.length cB2) := (HBB.out.fr HF.out fun h => h).cell 0
              have y1 : wr.cell? ⟨gB, 1, none⟩ = some (.slice C2 (cutIdx m0.cut).length cC2) := (HBB.out.fr HF.out fun h => h).cell 1
              have y3 : wr.cell? ⟨gB, 3, none⟩ = some (.int .i64 m0.last) := (HBB.out.fr HF.out fun h => h).cell 3
              have y4 : wr.cell? ⟨gB, 4, none⟩ = some (.slice E2 m0.made.length cE2) := (HBB.out.fr HF.out fun h => h).cell 4
              have z0 : wr.cell? ⟨gA, 0, none⟩ = some (.slice B m0.par.length cB) := (HBA3.out.fr HF.out fun h => h).cell 0
              have z1 : wr.cell? ⟨gA, 1, none⟩ = some (.slice C (cutIdx m0.cut).length cC) := (HBA3.out.fr HF.out fun h => h).cell 1
              have z2 : wr.cell? ⟨gA, 2, none⟩ = some (.slice TB L0.length tb) := (HBA3.out.fr HF.out fun h => h).cell 2
              have z3 : wr.cell? ⟨gA, 3, none⟩ = some (.int .i64 m0.last) := (HBA3.out.fr HF.out fun h => h).cell 3
              have z4 : wr.cell? ⟨gA, 4, none⟩ = some (.slice E m0.made.length cE) := (HBA3.out.fr HF.out fun h => h).cell 4
              have zq : gA < wr.heap.size := (HBA3.out.fr HF.out fun h => h).lt
              have hne1 : (gA = gB) = False := eq_false HAB2.out
              have hne2 : (gB = gA) = False := eq_false fun e => HAB2.out e.symm
              go_wp2_with fail
              clear hne1 hne2 y0 y1 y3 y4 y2 yq yf z0 z1 z2 z3 z4 zq
              generalize World.setCell wr _ _ = w15 at *
              have hfs0 := HFX4.out.fw
              have hfs1 := HN3.out.fx.fw
              have hlen0 : L0.length ≤ 1000000 := by rw [told_len HTO.out]; exact hfs0.ok.len
              have hlen1 : L1.length ≤ 1000000 := by rw [told_len HTO1.out]; exact hfs1.ok.len
              have hsid := hfs0.ok.sides
              have hp6 : m0.par.length ≤ 1000000 := by have := hsid.2.1; have := hsid.2.2.1; omega
              have hc6 : (cutIdx m0.cut).length ≤ 1000000 := by have := cutIdx_le m0.cut; have := hsid.2.1; have := hsid.2.2.2; omega
              have hm6 : m0.made.length ≤ 1000000 := by have := hsid.2.1; omega
              have hKeq : K = L1.filter (keptB l m0.last) := by have := HK.out; rwa [List.take_length] at this
              have hK6 : K.length ≤ 1000000 := by rw [hKeq]; exact Nat.le_trans (List.length_filter_le _ _) hlen1
              have hr0 := told_rng HTO.out hfs0.fs.num hfs0.fs.last.2
              have hr1 := told_rng HTO1.out hfs1.fs.num hfs1.fs.last.2
              have hnow := HT15.out.wrow' hp6 hc6 hm6 hK6 hr1 (fun x hx => by rw [hKeq] at hx; exact (List.mem_filter.1 hx).1) HWB5.out HROW5.out
              have hwas := HT05.out.wrow hp6 hc6 hm6 hlen0 hr0
              have hpl := kept_pl HN3.out.many HN3.out.ext (fun x hx => (hfs0.fs.num x hx).2) HTO.out HTO1.out
              rw [← hKeq] at hpl
              refine (HSAME.out (last := m0.last) hnow (Nat.le_refl _) hwas (Nat.le_refl _) hpl).mono ?_
              rintro e w16 ⟨rfl, f16⟩
              have HF16 := hide (HF0.out.trans (HW5.out.trans f16))
              clear hfs0 hfs1 hlen0 hlen1 hsid hp6 hc6 hm6 hKeq hK6 hr0 hr1 hnow hwas hpl f16
              go_wp2_with fail
              refine (HAW.out w16).mono ?_
              rintro e w17 ⟨rfl, f17⟩
              have HF17 := hide (HF16.out.trans f17)
              clear f17
              go_wp2
              go_ret
              exact ⟨rfl, HF17.out⟩
end Go.Proofs.YtlejelbefmkakaaGreat

/- Texts joined: Gq7. -/
import Derived.Test.YtlejelbefmkakaaGreatJn10
import Derived.Deep.Cut
import Derived.Deep.CutRange
namespace Go.Proofs.YtlejelbefmkakaaGreat
open Go.RowKit
structure SdI (m : Gm) (W : World) (cl rI : Nat) (es : Array MapEntry) (v : List Nat) (wr : World) : Prop where
 ri : RI m.M cl rI es v wr
 fr : Fr No W wr
 r0 : W.heap.size ≤ rI
 ok : ∀ (i : Nat) (x : Int × Nat × Tg), m.th[i]? = some x → Seen es v i → m.badB x.2.2 = false ∧ ∃ n, m.Hgt x.1 n
structure SfI (m : Gm) (lo : Nat) (W : World) (cl rI : Nat) (es : Array MapEntry) (v : List Nat) (F : List (Int × Int × Int)) (wr : World) : Prop where
 ri : RI m.M cl rI es v wr
 fr : Fr (fun i => i = m.F) W wr
 r0 : W.heap.size ≤ rI
 ok : (m.wf F).Ok lo wr
 fac : FacI m (Seen es v) F
structure SgI (m : Gm) (W : World) (cl rI : Nat) (es : Array MapEntry) (v : List Nat) (wr : World) : Prop where
 ri : RI m.M cl rI es v wr
 fr : Fr No W wr
 r0 : W.heap.size ≤ rI
 ok : ∀ (i : Nat) (x : Int × Nat × Tg), m.th[i]? = some x → Seen es v i → m.fitS x.1 x.2.2 (m.abl x.2.2.ofr) = true
def SoundP (m : Gm) (lo : Nat) (W : World) (e : Ending) (w' : World) : Prop :=
 (e = .returned (.bool false) ∧ ¬ m.Snd ∧ Fr (fun i => i = m.F) W w') ∨
 (e = .returned (.bool true) ∧ m.Snd ∧ ∃ F, (m.wf F).Ok lo w' ∧ FacI m (fun i => ∃ x, m.th[i]? = some x) F ∧ Fr (fun i => i = m.F) W w')
theorem FacI.all {m : Gm} {sn sn' : Nat → Prop} {F : List (Int × Int × Int)} (h : FacI m sn F) (hs : ∀ (i : Nat) (x : Int × Nat × Tg), m.th[i]? = some x → (sn i ↔ sn' i)) : FacI m sn' F :=
 ⟨fun o s r => (h.mem o s r).trans ⟨fun ⟨i, x, hx, hsn, q⟩ => ⟨i, x, hx, (hs i x hx).1 hsn, q⟩, fun ⟨i, x, hx, hsn, q⟩ => ⟨i, x, hx, (hs i x hx).2 hsn, q⟩⟩, h.nod⟩
section
variable {m : Gm} {lo : Nat} {W : World}
set_option maxRecDepth 100000 in
set_option maxHeartbeats 16000000 in
theorem sound_g (h : m.Ok lo W) (hfac : m.fac = []) (hsz : ∀ x ∈ m.th, x.2.2.vs.length ≤ 512 ∧ x.2.2.names.length ≤ 64) :
 Calls Tryz.prog 182 #[.pointer (some ⟨m.wb, 0, none⟩)] W (SoundP m lo W) := by
 obtain ⟨es, cl, hm, hes, hst⟩ := h.things
 have c0 := gmap_cell h
 have q0 := h.blk.lt
 have hrg := run_range_map (P := Tryz.prog) W 34 22 185 m.M es cl Tryz.underlying34 hm
 have hM := lt_of_heap hm
 have HINV : Hid (SdI m W cl W.heap.size es [] (W.alloc (.mapIter (some m.M) cl #[] cl))) := hide ⟨⟨World.alloc_heap_new _ _, (Below.heap_alloc _ _ _ hM).trans hm⟩, (Fr.refl No W).alloc _, Nat.le_refl _, fun i x _ hs => absurd hs seen_nil⟩
 have HES := hide hes
 have HST := hide hst
 have HOK := hide h
 have HSZ := hide hsz
 have HM := hide hm
 have HW0 : Hid (m.wf [] = m) := hide (by unfold Gm.wf; rw [← hfac])
 have hesz : es.size = m.th.length := by rw [← hes.1]; simp
 have HEZ := hide hesz
 clear hes hst h hsz hfac hm hesz
 generalize hrI : W.heap.size = rI at *
 have HRI := hide hrI
 clear hrI
 go_enter Tryz.func182, Tryz.ntmps182
 go_wp2_with fail
 go_loopw [18] (fun _ wr => ∃ v, SdI m W cl rI es v wr) (fun _ wr => (leftOf es (wr.iterSeen rI)).size)
 case atStart => exact ⟨[], HINV.out⟩
 case round =>
  obtain ⟨v, inv⟩ := hrel
  rcases ri_step inv.ri HES.out HST.out 0 with ⟨hall, hnx⟩ | ⟨i, b, x, W3, hx, hns, hseen, hnx, hent, F3, ri3, hsh⟩
  · have hall' : ∀ x ∈ m.th, m.badB x.2.2 = false ∧ ∃ n, m.Hgt x.1 n := fun x hx => by
     obtain ⟨i, hi⟩ := List.mem_iff_getElem?.1 hx
     exact inv.ok i x hi (hall i x hi)
    have HALL := hide hall'
    have HF1 := hide inv.fr
    have hok1 := HOK.out.no inv.fr
    have hm1 := inv.ri.mp
    clear hall' hall inv hrg HINV c0 q0 hM
    obtain ⟨w1, rfl⟩ : ∃ w1 : World, w1 = wr := ⟨_, rfl⟩
    have c1 := gmap_cell hok1
    have q1 := hok1.blk.lt
    have hM1 := lt_of_heap hm1
    have hrg1 := run_range_map (P := Tryz.prog) w1 34 22 185 m.M es cl Tryz.underlying34 hm1
    have HINV1 : Hid (SfI m lo w1 cl w1.heap.size es [] [] (w1.alloc (.mapIter (some m.M) cl #[] cl))) := hide ⟨⟨World.alloc_heap_new _ _, (Below.heap_alloc _ _ _ hM1).trans hm1⟩, (Fr.refl _ w1).alloc _, Nat.le_refl _, by rw [HW0.out]; exact hok1.no ((Fr.refl No w1).alloc _), FacI.start fun i => seen_nil⟩
    have HOK1 := hide hok1
    clear hok1 hm1 hM1
    generalize hrI1 : w1.heap.size = r1 at *
    have HRI1 := hide hrI1
    clear hrI1
    go_wp2_with fail
    go_loopw [132] (fun _ wr' => ∃ v F, SfI m lo w1 cl r1 es v F wr') (fun _ wr' => (leftOf es (wr'.iterSeen r1)).size)
    case atStart => exact ⟨[], [], HINV1.out⟩
    case round =>
     obtain ⟨v, F, inv⟩ := hrel
     rcases ri_step inv.ri HES.out HST.out 0 with ⟨hall, hnx⟩ | ⟨i, b, x, W3, hx, hns, hseen, hnx, hent, F3, ri3, hsh⟩
     · have hfac' : FacI m (fun i => ∃ x, m.th[i]? = some x) F := inv.fac.all fun i x hx => ⟨fun _ => ⟨x, hx⟩, fun _ => hall i x hx⟩
       have HFAC := hide hfac'
       have HF2 := hide (HF1.out.no.trans inv.fr)
       have hok2 := inv.ok
       have hm2 := inv.ri.mp
       clear hfac' hall inv hrg1 HINV1 c1 q1
       obtain ⟨w2, rfl⟩ : ∃ w2 : World, w2 = wr := ⟨_, rfl⟩
       have c2 : w2.cell? ⟨m.wb, 2, none⟩ = some (.map (some m.M)) := gmap_cell (m := m.wf F) hok2
       have q2 : m.wb < w2.heap.size := hok2.blk.lt
       have hM2 := lt_of_heap hm2
       have hrg2 := run_range_map (P := Tryz.prog) w2 34 22 185 m.M es cl Tryz.underlying34 hm2
       have HINV2 : Hid (SgI m w2 cl w2.heap.size es [] (w2.alloc (.mapIter (some m.M) cl #[] cl))) := hide ⟨⟨World.alloc_heap_new _ _, (Below.heap_alloc _ _ _ hM2).trans hm2⟩, (Fr.refl _ w2).alloc _, Nat.le_refl _, fun i x _ hs => absurd hs seen_nil⟩
       have HOK2 := hide hok2
       clear hok2 hm2 hM2
       generalize hrI2 : w2.heap.size = r2 at *
       have HRI2 := hide hrI2
       clear hrI2
       have HONE : Hid (∀ x ∈ m.th, ∀ y ∈ m.th, x.2.2.kind = 14 → y.2.2.kind = 14 → x.2.2.ofr = y.2.2.ofr → x.2.2.set = y.2.2.set → x.1 = y.1) := hide (fun x hx y hy kx ky ho hs => by
        obtain ⟨i, hi⟩ := List.mem_iff_getElem?.1 hx
        obtain ⟨j, hj⟩ := List.mem_iff_getElem?.1 hy
        have m1 := (HFAC.out.mem x.2.2.ofr x.2.2.set x.1).2 ⟨i, x, hi, ⟨x, hi⟩, rfl, kx, rfl, rfl⟩
        have m2 := (HFAC.out.mem y.2.2.ofr y.2.2.set y.1).2 ⟨j, y, hj, ⟨y, hj⟩, rfl, ky, rfl, rfl⟩
        rw [ho, hs] at m1
        obtain ⟨a, ha, hxa⟩ := List.mem_iff_getElem.1 m1
        obtain ⟨c, hc, hyc⟩ := List.mem_iff_getElem.1 m2
        have hk : (F.map fun f => (f.1, f.2.1)).Nodup := HOK2.out.fkeys
        have : a = c := by
         refine (List.getElem_inj (h₀ := by simpa using ha) (h₁ := by simpa using hc) hk).1 ?_
         simp [hxa, hyc]
        subst this
        rw [hxa] at hyc
        simpa using hyc)
       go_wp2_with fail
       go_loopw [168] (fun _ wr' => ∃ v, SgI m w2 cl r2 es v wr') (fun _ wr' => (leftOf es (wr'.iterSeen r2)).size)
       case atStart => exact ⟨[], HINV2.out⟩
       case round =>
        obtain ⟨v, inv⟩ := hrel
        rcases ri_step inv.ri HES.out HST.out 0 with ⟨hall, hnx⟩ | ⟨i, b, x, W3, hx, hns, hseen, hnx, hent, F3, ri3, hsh⟩
        · have hfin : SoundP m lo W (.returned (.bool true)) wr := .inr ⟨rfl, ⟨fun x hx => (HALL.out x hx).1, fun x hx => (HALL.out x hx).2, HONE.out, fun x hx => by
           obtain ⟨i, hi⟩ := List.mem_iff_getElem?.1 hx
           exact inv.ok i x hi (hall i x hi)⟩, F, HOK2.out.no inv.fr, HFAC.out, HF2.out.trans inv.fr.no⟩
          have HFIN := hide hfin
          clear hfin inv hall hrg2 HINV2
          go_wp2
          go_ret
          exact HFIN.out
        · have hxm : x ∈ m.th := List.mem_of_getElem? hx
          have F3' : Fr No w2 W3 := inv.fr.trans' F3 fun q hq h => by have h' : q = r2 := h; have := inv.r0; have := HRI2.out; omega
          have hok3 := HOK2.out.no F3'
          have bx := hok3.box x hxm
          have hab : x.2.2.kind = 14 → (m.wf F).Abl x.2.2.ofr (m.abl x.2.2.ofr) := fun hk => by
           obtain ⟨n, hn⟩ := (HALL.out x hxm).2
           have hget : m.get x.1 = some x.2 := Gm.get_of HOK.out.keys hxm
           cases hn with
           | base hg hk' => rw [hget] at hg; cases hg; exact absurd hk hk'.1
           | wrap hg hk' hl =>
            rw [hget] at hg
            cases hg
            obtain ⟨a, ha⟩ := hl.abl fun r y hy => by
             have := (HOK.out.st _ (Gm.get_mem hy)).inn.fit.set
             exact this.1
            rw [Gm.abl_eq ha]
            exact ha.wf
          have hft := fits_g hok3 x.1 x.2.2 _ hab
          rw [Gm.fit_wf HFAC.out HOK.out.keys HONE.out hxm] at hft
          have HIOK := hide inv.ok
          have HR0 := hide inv.r0
          have HX := hide hx
          have HXM := hide hxm
          have HSN := hide hseen
          have HRI3 := hide ri3
          have HSH := hide hsh
          have HF3 := hide F3'
          clear inv hx hns hseen F3 F3' ri3 hsh hok3 hab hxm hrg2 HINV2 c2 q2
          obtain ⟨rx, gx, kind, home, ⟨k, n, s, A, cap, l, r0⟩, VA, vc, vs, n1, lost, ofr, byr, set, full, CA, cc, code, NA, nc, names⟩ := x
          have hval : (Tg.val ⟨kind, home, T.mk k n s A cap l r0, VA, vc, vs, n1, lost, ofr, byr, set, full, CA, cc, code, NA, nc, names⟩) = .agg #[.int .u8 kind, .int .i64 home, .int .u8 k, .int .i64 n, .string s, .slice A l.length cap, .int .i64 r0, .slice VA vs.length vc, .int .i64 n1, .int .i64 lost, .int .i64 ofr, .int .i64 byr, .int .u8 set, .bool full, .slice CA code.length cc, .slice NA names.length nc] := rfl
          have bx' : Blk W3 gx 138 #[.int .u8 kind, .int .i64 home, .int .u8 k, .int .i64 n, .string s, .slice A l.length cap, .int .i64 r0, .slice VA vs.length vc, .int .i64 n1, .int .i64 lost, .int .i64 ofr, .int .i64 byr, .int .u8 set, .bool full, .slice CA code.length cc, .slice NA names.length nc] := bx
          simp only at hnx hent hft
          rw [hval] at hft
          obtain ⟨bd, hbd⟩ : ∃ bd, m.fitS rx ⟨kind, home, T.mk k n s A cap l r0, VA, vc, vs, n1, lost, ofr, byr, set, full, CA, cc, code, NA, nc, names⟩ (m.abl ofr) = bd := ⟨_, rfl⟩
          rw [hbd] at hft
          have HBD := hide hbd
          have HFT := hide hft
          obtain ⟨d0, d1, d2, d3, d4, d5, d6, d7, d8, d9, d10, d11, d12, d13, d14, d15⟩ := bx'.cells16
          have dq := bx'.lt
          clear bx bx' hval hbd hft
          go_wp2_with fail
          refine HFT.out.mono ?_
          rintro e w4 ⟨rfl, f4⟩
          have hri4 := HRI3.out.fr f4 (fun h => h) (fun h => h)
          have HRI4 := hide hri4
          have HF4 := hide (HF3.out.trans f4)
          have hsn4 : w4.iterSeen r2 = W3.iterSeen r2 := by rw [iterSeen_of hri4.it, iterSeen_of HRI3.out.it]
          have HSN4 := hide hsn4
          clear hri4 f4 hsn4 d0 d1 d2 d3 d4 d5 d6 d7 d8 d9 d10 d11 d12 d13 d14 d15 dq HFT
          cases bd with
          | true =>
           go_wp2
           go_roundw
           case rel =>
            refine ⟨v ++ [b], HRI4.out, HF4.out, HR0.out, fun j z hz hs => ?_⟩
            rcases (HSN.out j).1 hs with rfl | hs
            · have := HX.out
              rw [this] at hz
              injection hz with hz
              subst hz
              exact HBD.out
            · exact HIOK.out j z hz hs
           case measure =>
            rw [HSN4.out]
            exact HSH.out
          | false =>
           go_wp2
           go_ret
           refine .inl ⟨rfl, fun hs => ?_, HF2.out.trans HF4.out.no⟩
           have := hs.fit _ HXM.out
           simp only at this
           rw [HBD.out] at this
           cases this
     · have hxm : x ∈ m.th := List.mem_of_getElem? hx
       have hr0 := inv.r0
       have F3' : Fr (fun i => i = m.F) w1 W3 := inv.fr.trans' F3 fun q hq h => by have h' : q = r1 := h; have := HRI1.out; omega
       have hok3 : (m.wf F).Ok lo W3 := inv.ok.fr F3 fun i hi h => by
        have h' : i = r1 := h
        have := (inv.ok.lt i hi).2
        subst h'
        have hq := inv.ri.it
        rcases hi with rfl | rfl | rfl | hi | hi | hi | ⟨y, hy, rfl | hi⟩
        · rw [inv.ok.blk] at hq; cases hq
        · change wr.heap[m.M]? = _ at hq; rw [inv.ri.mp] at hq; cases hq
        · obtain ⟨ef, cf, hf, -⟩ := inv.ok.facets; rw [hf] at hq; cases hq
        · obtain ⟨cs, hb⟩ := owns_typed inv.ok.par hi; rw [hb] at hq; cases hq
        · obtain ⟨cs, hb⟩ := owns_typed inv.ok.cut hi; rw [hb] at hq; cases hq
        · obtain ⟨cs, hb⟩ := owns_typed inv.ok.made hi; rw [hb] at hq; cases hq
        · have hb := inv.ok.box y hy; rw [hb] at hq; cases hq
        · obtain ⟨e, cs, -, hb⟩ := (inv.ok.st y hy).ty hi; rw [hb] at hq; cases hq
       have hget : m.get x.1 = some x.2 := Gm.get_of HOK.out.keys hxm
       obtain ⟨d0, -, d10, -, d12, -⟩ := gbox_at (hok3.box x hxm)
       have dq := (hok3.box x hxm).lt
       have HFC := hide inv.fac
       have HR0 := hide inv.r0
       have HX := hide hx
       have HXM := hide hxm
       have HNS := hide hns
       have HSN := hide hseen
       have HSH := hide hsh
       have HRI3 := hide ri3
       have HF3 := hide F3'
       have HG := hide hget
       have y3 : W3.cell? ⟨m.wb, 3, none⟩ = some (.map (some m.F)) := gfac_cell (m := m.wf F) hok3
       have yq : m.wb < W3.heap.size := hok3.blk.lt
       have HOK3 := hide hok3
       try simp only at hnx hent
       obtain ⟨kd, hkd⟩ : ∃ kd, x.2.2.kind = kd := ⟨_, rfl⟩
       obtain ⟨oo, hoo⟩ : ∃ oo, x.2.2.ofr = oo := ⟨_, rfl⟩
       obtain ⟨ss, hss⟩ : ∃ ss, x.2.2.set = ss := ⟨_, rfl⟩
       rw [hkd] at d0
       rw [hoo] at d10
       rw [hss] at d12
       have HKD := hide hkd
       have HOO := hide hoo
       have HSS := hide hss
       clear inv hx hns hseen F3 F3' ri3 hsh hr0 hok3 hget hkd hoo hss hxm hrg1 HINV1 c1 q1
       by_cases h14 : kd = 14
       · subst h14
         have hok3 := HOK3.out
         have hlk : ∀ q : ClN W3, (Instr.lookup 35 (.map (some m.F)) (.agg #[.int .i64 oo, .int .u8 ss]) true).run Tryz.prog q.w = .ok ((m.wf F).findV oo ss) q.w := fun q => look_fac (hok3.no q.fr) oo ss
         have e0 : ∀ q : ClN W3, q.w.cell? ⟨x.2.1, 10, none⟩ = some (.int .i64 oo) := fun q => (q.fr.cell dq fun h => h).trans d10
         have e2 : ∀ q : ClN W3, q.w.cell? ⟨x.2.1, 12, none⟩ = some (.int .u8 ss) := fun q => (q.fr.cell dq fun h => h).trans d12
         have eq_ : ∀ q : ClN W3, x.2.1 < q.w.heap.size := fun q => Nat.lt_of_lt_of_le dq q.fr.size
         have e3 : ∀ q : ClN W3, q.w.cell? ⟨m.wb, 3, none⟩ = some (.map (some m.F)) := fun q => (q.fr.cell yq fun h => h).trans y3
         have eq3 : ∀ q : ClN W3, m.wb < q.w.heap.size := fun q => Nat.lt_of_lt_of_le yq q.fr.size
         have hinst : Nonempty (ClN W3) := ⟨⟨W3, Fr.refl No W3⟩⟩
         unfold Gm.findV at hlk
         cases hfg : (m.wf F).fget oo ss with
         | some q0 =>
          have hdup : ¬ m.Snd := fun hs => by
           obtain ⟨j, hj, -⟩ := Gm.fget_some hfg
           obtain ⟨i', y, hy, hsn, e1, e2, e3, e4⟩ := (HFC.out.mem _ _ _).1 (List.mem_of_getElem? hj)
           have h1 := hs.one x HXM.out y (List.mem_of_getElem? hy) HKD.out e2 (by rw [HOO.out, e3]) (by rw [HSS.out, e4])
           refine HNS.out ?_
           have hii : i' = i := by
            have hx := HX.out
            obtain ⟨hj, hj'⟩ := List.getElem?_eq_some_iff.1 hy
            obtain ⟨hi, hi'⟩ := List.getElem?_eq_some_iff.1 hx
            refine (List.getElem_inj (h₀ := by simpa using hj) (h₁ := by simpa using hi) HOK.out.keys).1 ?_
            simp only [List.getElem_map]
            rw [hj', hi', h1]
           exact hii ▸ hsn
          have HDUP := hide hdup
          rw [hfg] at hlk
          simp only at hlk
          clear hdup hfg hok3
          go_upto_region 17 with (fail)
          refine wp_region_quiet_cl (fun W' => ∃ q : ClN W3, W' = q.w) (by kernel_rfl) (by kernel_rfl) ⟨⟨_, (Fr.refl No W3).drew⟩, rfl⟩ ?_
          repeat (go_big_quiet_step (fail))
          refine wpQuiet_nil ?_
          rintro w5 ⟨⟨_, f5⟩, rfl⟩
          have HF5 := hide f5
          clear hlk e0 e2 eq_ e3 eq3 hinst f5
          go_wp2_with fail
          go_ret
          exact .inl ⟨rfl, HDUP.out, HF1.out.no.trans (HF3.out.trans HF5.out.no)⟩
         | none =>
          have HFN := hide hfg
          rw [hfg] at hlk
          simp only at hlk
          clear hfg hok3
          go_upto_region 17 with (fail)
          refine wp_region_quiet_cl (fun W' => ∃ q : ClN W3, W' = q.w) (by kernel_rfl) (by kernel_rfl) ⟨⟨_, (Fr.refl No W3).drew⟩, rfl⟩ ?_
          repeat (go_big_quiet_step (fail))
          refine wpQuiet_nil ?_
          rintro w5 ⟨⟨_, f5⟩, rfl⟩
          have hok5 := HOK3.out.no f5
          have hix := index_g (t := oo) (s := ss) hok5 (x := x.2) (r := x.1) (HG.out) HKD.out HOO.out HSS.out HFN.out (by have := HFC.out.len HOK.out.keys HX.out HNS.out; have := HOK.out.len; show F.length < 1000000; omega)
          have HIX := hide hix
          have hri5 := HRI3.out.fr f5 (fun h => h) (fun h => h)
          have HRI5 := hide hri5
          have HF5 := hide (HF3.out.trans f5.no)
          clear hlk e0 e2 eq_ e3 eq3 hinst f5 hix hri5 hok5 d0 d10 d12 dq y3 yq
          go_wp2_with fail
          refine HIX.out.mono ?_
          rintro e w6 ⟨⟨v6, rfl⟩, hok6, f6⟩
          have hneF : r1 ≠ m.F := by
           rintro rfl
           obtain ⟨ef, cf, hf, -⟩ := HOK3.out.facets
           have := HRI3.out.it
           change W3.heap[m.F]? = _ at hf
           rw [hf] at this
           cases this
          have hri6 := HRI5.out.fr f6 hneF HOK.out.mf
          have HRI6 := hide hri6
          have HOK6 := hide hok6
          have HF6 := hide (HF5.out.trans f6)
          have hsn6 : w6.iterSeen r1 = W3.iterSeen r1 := by rw [iterSeen_of hri6.it, iterSeen_of HRI3.out.it]
          have HSN6 := hide hsn6
          clear hok6 f6 hneF hri6 hsn6
          go_wp2
          go_roundw
          case rel =>
           refine ⟨v ++ [b], F ++ [(oo, ss, x.1)], HRI6.out, HF6.out, HR0.out, HOK6.out, ?_⟩
           have := HFC.out.add HOK.out.keys HX.out HKD.out HNS.out HSN.out
           rw [HOO.out, HSS.out] at this
           exact this
          case measure =>
           rw [HSN6.out]
           exact HSH.out
       · have h14' : (kd == 14) = false := by simpa using h14
         have H14 : Hid (x.2.2.kind ≠ 14) := hide (by rw [HKD.out]; exact h14)
         clear h14
         go_wp2_with fail
         go_roundw
         case rel => exact ⟨v ++ [b], F, HRI3.out, HF3.out, HR0.out, HOK3.out, HFC.out.skip HX.out H14.out HSN.out⟩
         case measure => exact HSH.out
  · have hxm : x ∈ m.th := List.mem_of_getElem? hx
    have hr0 := inv.r0
    have F3' : Fr No W W3 := inv.fr.trans' F3 fun q hq h => by have h' : q = rI := h; have := HRI.out; omega
    have bx := (HOK.out.box _ hxm).fr F3' fun h => h
    have hstx := (HOK.out.no F3').st _ hxm
    have hsz := HSZ.out _ hxm
    have HIOK := hide inv.ok
    have HR0 := hide inv.r0
    have HX := hide hx
    have HSN := hide hseen
    have HRI3 := hide ri3
    have HSH := hide hsh
    have HXM := hide hxm
    clear inv hx hns hseen F3 ri3 hsh hr0 hrg HINV
    obtain ⟨rx, gx, kind, home, ⟨k, n, s, A, cap, l, r0⟩, VA, vc, vs, n1, lost, ofr, byr, set, full, CA, cc, code, NA, nc, names⟩ := x
    have HN := hide (gnames_w (HOK.out.no F3') ⟨kind, home, T.mk k n s A cap l r0, VA, vc, vs, n1, lost, ofr, byr, set, full, CA, cc, code, NA, nc, names⟩ lo W3.heap.size hstx.inn (Nat.le_refl _) hsz.1 hsz.2)
    have hval : (Tg.val ⟨kind, home, T.mk k n s A cap l r0, VA, vc, vs, n1, lost, ofr, byr, set, full, CA, cc, code, NA, nc, names⟩) = .agg #[.int .u8 kind, .int .i64 home, .int .u8 k, .int .i64 n, .string s, .slice A l.length cap, .int .i64 r0, .slice VA vs.length vc, .int .i64 n1, .int .i64 lost, .int .i64 ofr, .int .i64 byr, .int .u8 set, .bool full, .slice CA code.length cc, .slice NA names.length nc] := rfl
    rw [hval] at HN
    have bx' : Blk W3 gx 138 #[.int .u8 kind, .int .i64 home, .int .u8 k, .int .i64 n, .string s, .slice A l.length cap, .int .i64 r0, .slice VA vs.length vc, .int .i64 n1, .int .i64 lost, .int .i64 ofr, .int .i64 byr, .int .u8 set, .bool full, .slice CA code.length cc, .slice NA names.length nc] := bx
    simp only at hnx hent
    obtain ⟨bd, hbd⟩ : ∃ bd, m.badB ⟨kind, home, T.mk k n s A cap l r0, VA, vc, vs, n1, lost, ofr, byr, set, full, CA, cc, code, NA, nc, names⟩ = bd := ⟨_, rfl⟩
    have HBAD := hide hbd
    unfold Gm.badB at hbd
    simp only at hbd
    have HBD := hide hbd
    have HBX := hide bx'
    have HFW := hide F3'
    obtain ⟨d0, d1, d2, d3, d4, d5, d6, d7, d8, d9, d10, d11, d12, d13, d14, d15⟩ := bx'.cells16
    have dq := bx'.lt
    have x2 : W3.cell? ⟨m.wb, 2, none⟩ = some (.map (some m.M)) := gmap_cell (HOK.out.no F3')
    have xq2 : m.wb < W3.heap.size := (HOK.out.no F3').blk.lt
    clear hxm bx hstx hsz hval bx' F3' hbd hM
    go_upto_region 4 with (fail)
    go_cut [83] from 18 to 126 (fun t wx => t = .bool bd ∧ Fr No W3 wx)
    case first => as_aux_lemma =>
     clear HBAD HIOK HRI3 HSH HX HSN x2 xq2 c0 q0
     go_wp2_with fail
     refine HN.out.mono ?_
     rintro e w1 ⟨rfl, f1⟩
     have bx1 := HBX.out.fr f1 fun h => h
     clear d0 d1 d2 d3 d4 d5 d6 d7 d8 d9 d10 d11 d12 d13 d14 d15 dq
     obtain ⟨d0, -, -, -, -, -, -, -, -, -, d10, d11, -, -, -, -⟩ := bx1.cells16
     have dq := bx1.lt
     have HF1 := hide f1
     have HIO : Hid (∀ _w : World, Calls Tryz.prog 58 #[.pointer (some ⟨m.wb, 0, none⟩), .int .i64 ofr] w1 fun e w' => e = .returned (.bool (m.get ofr).isSome) ∧ w' = w1) := hide fun _ => gIs_w (HOK.out.no (HFW.out.trans f1)) ofr
     have HIB : Hid (∀ _w : World, Calls Tryz.prog 58 #[.pointer (some ⟨m.wb, 0, none⟩), .int .i64 byr] w1 fun e w' => e = .returned (.bool (m.get byr).isSome) ∧ w' = w1) := hide fun _ => gIs_w (HOK.out.no (HFW.out.trans f1)) byr
     have HAO := hide fun W' => asksOf_g kind W'
     have HAB := hide fun W' => asksBy_g kind W'
     generalize m.are (Tg.held ⟨kind, home, T.mk k n s A cap l r0, VA, vc, vs, n1, lost, ofr, byr, set, full, CA, cc, code, NA, nc, names⟩) = q1 at *
     generalize askOfB kind = q2 at *
     generalize (m.get ofr).isSome = q3 at *
     generalize askByB kind = q4 at *
     generalize (m.get byr).isSome = q5 at *
     obtain ⟨q13, h13⟩ : ∃ q, (kind == 13) = q := ⟨_, rfl⟩
     obtain ⟨q0, h0⟩ : ∃ q, (ofr != 0) = q := ⟨_, rfl⟩
     rw [h13, h0] at HBD
     clear bx1 f1
     cases q1
     · go_wp2_with fail
       go_meet
       case rel => exact ⟨by rw [← HBD.out]; simp, HF1.out⟩
     · go_wp2_with fail
       refine (HAO.out _).mono ?_
       rintro e w' ⟨rfl, rfl⟩
       cases q2
       · go_wp2_with fail
         refine (HAB.out _).mono ?_
         rintro e w' ⟨rfl, rfl⟩
         cases q4
         · cases q13
           · go_wp2_with fail
             go_meet
             case rel => exact ⟨by rw [← HBD.out]; simp, HF1.out⟩
           · cases q0
             · obtain rfl : ofr = 0 := by simpa using h0
               go_wp2_with fail
               go_meet
               case rel => exact ⟨by rw [← HBD.out]; simp, HF1.out⟩
             · have h0' : ofr ≠ 0 := by simpa using h0
               go_wp2_with fail
               refine (HIO.out W).mono ?_
               rintro e w' ⟨rfl, rfl⟩
               cases q3
               · go_wp2_with fail
                 go_meet
                 case rel => exact ⟨by rw [← HBD.out]; simp, HF1.out⟩
               · go_wp2_with fail
                 go_meet
                 case rel => exact ⟨by rw [← HBD.out]; simp, HF1.out⟩
         · go_wp2_with fail
           refine (HIB.out W).mono ?_
           rintro e w' ⟨rfl, rfl⟩
           cases q5
           · go_wp2_with fail
             go_meet
             case rel => exact ⟨by rw [← HBD.out]; simp, HF1.out⟩
           · cases q13
             · go_wp2_with fail
               go_meet
               case rel => exact ⟨by rw [← HBD.out]; simp, HF1.out⟩
             · cases q0
               · obtain rfl : ofr = 0 := by simpa using h0
                 go_wp2_with fail
                 go_meet
                 case rel => exact ⟨by rw [← HBD.out]; simp, HF1.out⟩
               · have h0' : ofr ≠ 0 := by simpa using h0
                 go_wp2_with fail
                 refine (HIO.out W).mono ?_
                 rintro e w' ⟨rfl, rfl⟩
                 cases q3
                 · go_wp2_with fail
                   go_meet
                   case rel => exact ⟨by rw [← HBD.out]; simp, HF1.out⟩
                 · go_wp2_with fail
                   go_meet
                   case rel => exact ⟨by rw [← HBD.out]; simp, HF1.out⟩
       · go_wp2_with fail
         refine (HIO.out W).mono ?_
         rintro e w' ⟨rfl, rfl⟩
         cases q3
         · go_wp2_with fail
           go_meet
           case rel => exact ⟨by rw [← HBD.out]; simp, HF1.out⟩
         · go_wp2_with fail
           refine (HAB.out _).mono ?_
           rintro e w' ⟨rfl, rfl⟩
           cases q4
           · cases q13
             · go_wp2_with fail
               go_meet
               case rel => exact ⟨by rw [← HBD.out]; simp, HF1.out⟩
             · cases q0
               · obtain rfl : ofr = 0 := by simpa using h0
                 go_wp2_with fail
                 go_meet
                 case rel => exact ⟨by rw [← HBD.out]; simp, HF1.out⟩
               · have h0' : ofr ≠ 0 := by simpa using h0
                 go_wp2_with fail
                 refine (HIO.out W).mono ?_
                 rintro e w' ⟨rfl, rfl⟩
                 go_wp2_with fail
                 go_meet
                 case rel => exact ⟨by rw [← HBD.out]; simp, HF1.out⟩
           · go_wp2_with fail
             refine (HIB.out W).mono ?_
             rintro e w' ⟨rfl, rfl⟩
             cases q5
             · go_wp2_with fail
               go_meet
               case rel => exact ⟨by rw [← HBD.out]; simp, HF1.out⟩
             · cases q13
               · go_wp2_with fail
                 go_meet
                 case rel => exact ⟨by rw [← HBD.out]; simp, HF1.out⟩
               · cases q0
                 · obtain rfl : ofr = 0 := by simpa using h0
                   go_wp2_with fail
                   go_meet
                   case rel => exact ⟨by rw [← HBD.out]; simp, HF1.out⟩
                 · have h0' : ofr ≠ 0 := by simpa using h0
                   go_wp2_with fail
                   refine (HIO.out W).mono ?_
                   rintro e w' ⟨rfl, rfl⟩
                   go_wp2_with fail
                   go_meet
                   case rel => exact ⟨by rw [← HBD.out]; simp, HF1.out⟩
    obtain ⟨rfl, fw⟩ := hcut
    have HFC := hide (HFW.out.trans fw)
    have hri4 := HRI3.out.fr fw (fun h => h) (fun h => h)
    have HRI4 := hide hri4
    have hsn4 : wc.iterSeen rI = W3.iterSeen rI := by rw [iterSeen_of hri4.it, iterSeen_of HRI3.out.it]
    have HSN4 := hide hsn4
    clear hsn4 hri4 d0 d1 d2 d3 d4 d5 d6 d7 d8 d9 d10 d11 d12 d13 d14 d15 dq fw HN
    have hokc := HOK.out.no HFC.out
    have y2 : wc.cell? ⟨m.wb, 2, none⟩ = some (.map (some m.M)) := gmap_cell hokc
    have yq2 : m.wb < wc.heap.size := hokc.blk.lt
    have hget : m.get rx = some (gx, ⟨kind, home, T.mk k n s A cap l r0, VA, vc, vs, n1, lost, ofr, byr, set, full, CA, cc, code, NA, nc, names⟩) := Gm.get_of HOK.out.keys HXM.out
    have HG := hide hget
    have hlen := fun ty => run_len_map (P := Tryz.prog) (w := wc) 34 ty m.M es cl (by kernel_rfl) (HRI4.out.mp)
    have HLEN := hide hlen
    clear hokc hget x2 xq2 c0 q0 hlen
    cases bd with
    | true =>
     go_wp2_with fail
     go_ret
     refine .inl ⟨rfl, fun hs => ?_, HFC.out.no⟩
     have := hs.bad _ HXM.out
     rw [HBAD.out] at this
     cases this
    | false =>
     go_wp2_with fail
     obtain ⟨w4, rfl⟩ : ∃ w4 : World, w4 = wc := ⟨_, rfl⟩
     go_loopw [5, 6] (fun nv qv wr' => ∃ (n : Nat) (q : Int), nv = .int .i64 n ∧ qv = .int .i64 q ∧ wr' = w4 ∧ n ≤ m.th.length ∧ (∃ y, m.get q = some y) ∧ ∀ h, m.Hgt rx h ↔ ∃ h', m.Hgt q h' ∧ h = h' + n) (fun nv _ _ => m.th.length + 1 - (intOf nv).toNat)
     case atStart => exact ⟨0, rx, rfl, rfl, rfl, Nat.zero_le _, ⟨_, HG.out⟩, fun h => ⟨fun hh => ⟨h, hh, rfl⟩, fun ⟨h', hh, e⟩ => by rw [e]; exact hh⟩⟩
     case round =>
      obtain ⟨n, q, rfl, rfl, rfl, hn, ⟨y, hy⟩, hh⟩ := hrel
      have hok := HOK.out.no HFC.out
      have hl := gook_thing hok q
      rw [hy] at hl
      simp only [Option.map_some] at hl
      obtain ⟨e0, -, e10, -, -, -⟩ := gbox_at (hok.box _ (Gm.get_mem hy))
      have eq_ := (hok.box _ (Gm.get_mem hy)).lt
      have hlen := HLEN.out
      have hez := HEZ.out
      have hw := hide (wraps_g y.2.kind wr)
      have HY := hide hy
      have HH := hide hh
      have HNN := hide hn
      cases hwb : wrapB y.2.kind with
      | false =>
       have hnk : y.2.kind ≠ 14 ∧ y.2.kind ≠ 15 ∧ y.2.kind ≠ 16 := by
        refine ⟨fun e => ?_, fun e => ?_, fun e => ?_⟩ <;> · rw [e] at hwb; exact absurd hwb (by decide)
       have hst1 : ∃ h, m.Hgt rx h := ⟨0 + n, (hh _).2 ⟨0, .base hy hnk, rfl⟩⟩
       have HS1 := hide hst1
       rw [hwb] at hw
       generalize y.2.kind = kq at *
       generalize y.2.ofr = oq at *
       clear hok hh hn hy hnk hst1 hwb
       go_wp2_with fail
       refine hw.out.mono ?_
       rintro e w' ⟨rfl, rfl⟩
       go_wp2
       go_roundw
       case rel =>
        refine ⟨v ++ [b], HRI4.out, HFC.out, HR0.out, fun j z hz hs => ?_⟩
        rcases (HSN.out j).1 hs with rfl | hs
        · have := HX.out
          rw [this] at hz
          injection hz with hz
          subst hz
          exact ⟨HBAD.out, HS1.out⟩
        · exact HIOK.out j z hz hs
       case measure =>
        rw [HSN4.out]
        exact HSH.out
      | true =>
       have hwk := wrapB_iff.1 hwb
       have hstep : ∀ h, m.Hgt q h ↔ ∃ h', m.Hgt y.2.ofr h' ∧ h = h' + 1 := fun h => by
        constructor
        · intro hq
          cases hq with
          | base hg hk => rw [hy] at hg; cases hg; rcases hwk with e | e | e <;> simp [e] at hk
          | wrap hg hk hl => rw [hy] at hg; cases hg; exact ⟨_, hl, rfl⟩
        · rintro ⟨h', hq, rfl⟩
          exact .wrap hy hwk hq
       have hh2 : ∀ h, m.Hgt rx h ↔ ∃ h', m.Hgt y.2.ofr h' ∧ h = h' + (n + 1) := fun h => by
        rw [hh]
        constructor
        · rintro ⟨h1, a1, rfl⟩
          obtain ⟨h2, a2, rfl⟩ := (hstep h1).1 a1
          exact ⟨h2, a2, by omega⟩
        · rintro ⟨h2, a2, rfl⟩
          exact ⟨h2 + 1, (hstep _).2 ⟨h2, a2, rfl⟩, by omega⟩
       have HH2 := hide hh2
       have hI := gIs_w hok y.2.ofr
       rw [hwb] at hw
       obtain ⟨q3, hq3⟩ : ∃ q3, (m.get y.2.ofr).isSome = q3 := ⟨_, rfl⟩
       rw [hq3] at hI
       have HQ3 := hide hq3
       have HIS := hide hI
       generalize hoq : y.2.ofr = oq at *
       have HOQ := hide hoq
       clear hok hh hn hy hwb hwk hstep hh2 hI hq3 hoq
       generalize y.2.kind = kq at *
       have hwr : IntKind.i64.wrap ((n : Int) + 1) = (n : Int) + 1 := by
        have h1 := HOK.out.len
        have h2 := HNN.out
        exact IntWalk.i64_in _ (by omega)
       rw [hez] at hlen
       clear hez
       by_cases hgt : m.th.length < n + 1
       · have hd : decide ((n : Int) + 1 > (m.th.length : Int)) = true := by simp; omega
         have HGT := hide hgt
         clear hgt
         go_wp2_with fail
         refine hw.out.mono ?_
         rintro e w' ⟨rfl, rfl⟩
         go_wp2
         go_ret
         refine .inl ⟨rfl, fun hs => ?_, HFC.out.no⟩
         obtain ⟨h, hh⟩ := hs.hgt _ HXM.out
         obtain ⟨h', -, e⟩ := (HH2.out h).1 hh
         have := hh.lt
         have := HGT.out
         omega
       · have hd : decide ((n : Int) + 1 > (m.th.length : Int)) = false := by simp; omega
         have HGT := hide hgt
         clear hgt
         go_wp2_with fail
         refine hw.out.mono ?_
         rintro e w' ⟨rfl, rfl⟩
         go_wp2_with fail
         refine HIS.out.mono ?_
         rintro e w' ⟨rfl, rfl⟩
         cases q3 with
         | false =>
          go_wp2
          go_ret
          refine .inl ⟨rfl, fun hs => ?_, HFC.out.no⟩
          obtain ⟨h, hh⟩ := hs.hgt _ HXM.out
          obtain ⟨h', hh', e⟩ := (HH2.out h).1 hh
          have hq := HQ3.out
          have : ∃ z, m.get oq = some z := by
           cases hh' with
           | base h _ => exact ⟨_, h⟩
           | wrap h _ _ => exact ⟨_, h⟩
          obtain ⟨z, hz⟩ := this
          rw [hz] at hq
          cases hq
         | true =>
          go_wp2
          go_roundw
          case rel =>
           refine ⟨n + 1, oq, by go_num, rfl, trivial, by have := HGT.out; omega, ?_, HH2.out⟩
           have := HQ3.out
           rw [Option.isSome_iff_exists] at this
           exact this
          case measure =>
           have := HGT.out
           simp [intOf]
           omega
end
end Go.Proofs.YtlejelbefmkakaaGreat

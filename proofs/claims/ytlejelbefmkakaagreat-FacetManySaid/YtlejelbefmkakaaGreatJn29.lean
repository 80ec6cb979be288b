/- Texts joined: Gq10. -/
import Derived.Test.YtlejelbefmkakaaGreatJn1
import Derived.Test.YtlejelbefmkakaaGreatJn26
import Derived.Deep.Cut
import Derived.Deep.CutRange
namespace Go.Proofs.YtlejelbefmkakaaGreat
open Go.RowKit
theorem Gm.Ok.less {m : Gm} {lo lo' : Nat} {W : World} (h : m.Ok lo W) (hl : lo' ≤ lo) : m.Ok lo' W :=
 ⟨h.blk, h.things, h.facets, owns_mono h.par hl, owns_mono h.cut hl, owns_mono h.made hl, h.box, fun x hx => (h.st x hx).more hl, ⟨Nat.le_trans hl h.lo0.1, Nat.le_trans hl h.lo0.2.1, Nat.le_trans hl h.lo0.2.2.1, fun x hx => Nat.le_trans hl (h.lo0.2.2.2 x hx)⟩, h.mf, h.keys, h.dist, h.len, h.fkeys, h.flen, h.sides⟩
theorem Ints.noI {w w' : World} {lo hi : Nat} {A : Option Addr} {cap : Nat} {p : List Int} (h : Ints w lo hi A cap p) (hf : Fr No w w') (hh : hi ≤ w.heap.size) : Ints w' lo hi A cap p := h.fr hf hh fun _ _ _ h => h
def cutM (m0 : Gm) (l : List Bool) : Gm := { m0 with cut := l }
set_option maxRecDepth 100000 in
set_option maxHeartbeats 16000000 in
theorem From_g (PA : Option Addr) (pc : Nat) (ps : List Int) (CA : Option Addr) (cc : Nat) (cuts : List Int) (TA : Option Addr) (tc : Nat) (ths : List (Int × Tg)) (last : Int) (MA : Option Addr) (mc : Nat) (made : List Int) (W : World) (lo hi : Nat)
 (hp : Ints W lo hi PA pc ps) (hc : Ints W lo hi CA cc cuts) (ht : EnRow W lo hi TA tc ths) (hm : Ints W lo hi MA mc made) (hla : -9223372036854775808 ≤ last ∧ last ≤ 9223372036854775807) (hh : hi ≤ W.heap.size) (hlen : ths.length ≤ 1000000) :
 Calls Tryz.prog 108 #[.agg #[.slice PA ps.length pc, .slice CA cuts.length cc, .slice TA ths.length tc, .int .i64 last, .slice MA made.length mc]] W (FromP ps cuts ths last made W) := by
 have hb0 := Blk.new W 71 #[.slice PA ps.length pc, .slice CA cuts.length cc, .slice TA ths.length tc, .int .i64 last, .slice MA made.length mc]
 have hf0 := (Fr.refl No W).alloc (.cells #[.slice PA ps.length pc, .slice CA cuts.length cc, .slice TA ths.length tc, .int .i64 last, .slice MA made.length mc] 71)
 have hN := New_any PA pc ps (W.alloc (.cells #[.slice PA ps.length pc, .slice CA cuts.length cc, .slice TA ths.length tc, .int .i64 last, .slice MA made.length mc] 71)) lo hi (hp.noI hf0 hh) (Nat.le_trans hh hf0.size)
 have HB0 := hide hb0
 have HF0 := hide hf0
 have HN := hide hN
 have HC := hide hc
 have HT := hide ht
 have HM := hide hm
 have HHI := hide hh
 have HLA := hide hla
 have HTL := hide hlen
 have HLM := hide hm.len
 have HLC := hide hc.len
 obtain ⟨e0, e1, e2, e3, e4⟩ : (W.alloc (.cells #[.slice PA ps.length pc, .slice CA cuts.length cc, .slice TA ths.length tc, .int .i64 last, .slice MA made.length mc] 71)).cell? ⟨W.heap.size, 0, none⟩ = some (.slice PA ps.length pc) ∧ (W.alloc (.cells #[.slice PA ps.length pc, .slice CA cuts.length cc, .slice TA ths.length tc, .int .i64 last, .slice MA made.length mc] 71)).cell? ⟨W.heap.size, 1, none⟩ = some (.slice CA cuts.length cc) ∧ (W.alloc (.cells #[.slice PA ps.length pc, .slice CA cuts.length cc, .slice TA ths.length tc, .int .i64 last, .slice MA made.length mc] 71)).cell? ⟨W.heap.size, 2, none⟩ = some (.slice TA ths.length tc) ∧ (W.alloc (.cells #[.slice PA ps.length pc, .slice CA cuts.length cc, .slice TA ths.length tc, .int .i64 last, .slice MA made.length mc] 71)).cell? ⟨W.heap.size, 3, none⟩ = some (.int .i64 last) ∧ (W.alloc (.cells #[.slice PA ps.length pc, .slice CA cuts.length cc, .slice TA ths.length tc, .int .i64 last, .slice MA made.length mc] 71)).cell? ⟨W.heap.size, 4, none⟩ = some (.slice MA made.length mc) := ⟨hb0.cell 0, hb0.cell 1, hb0.cell 2, hb0.cell 3, hb0.cell 4⟩
 have eq_ := hb0.lt
 clear hb0 hf0 hN hp hc ht hm hh hla hlen
 go_enter Tryz.func108, Tryz.ntmps108
 go_wp2_with fail
 generalize World.alloc W _ = W0 at *
 generalize hbx : W.heap.size = bx at *
 have HBX := hide hbx
 clear hbx
 refine HN.out.mono ?_
 rintro e w1 (⟨hno, rfl, f1⟩ | ⟨hnew, m0, rfl, hok, ⟨hth, hfac, hpar, hcut, hmade, hlast0⟩, f1⟩)
 · have HNO := hide hno
   have HF1 := hide (HF0.out.trans f1)
   clear hno f1 e0 e1 e2 e3 e4 eq_ HN
   go_upto_region 2 with (fail)
   refine wp_region_quiet_cl (fun W' => ∃ q : ClN w1, W' = q.w) (by kernel_rfl) (by kernel_rfl) ⟨⟨_, (Fr.refl No w1).drew⟩, rfl⟩ ?_
   have hinst : Nonempty (ClN w1) := ⟨⟨w1, Fr.refl No w1⟩⟩
   repeat (go_big_quiet_step (fail))
   refine wpQuiet_nil ?_
   rintro w2 ⟨⟨_, f2⟩, rfl⟩
   clear hinst
   go_wp2_with fail
   go_ret2
   exact .inl ⟨fun h => HNO.out h.new, rfl, HF1.out.trans f2⟩
 · obtain ⟨k, hk⟩ : ∃ k, ps.length + 1 = k := ⟨_, rfl⟩
   rw [hk] at hcut hmade
   have hml : m0.made.length = k := by rw [hmade]; simp
   have hk16 : k ≤ 16 := by have := hok.sides; omega
   have g4 : ∀ q : ClN w1, q.w.cell? ⟨bx, 4, none⟩ = some (.slice MA made.length mc) := fun q => ((f1.trans q.fr).cell eq_ fun h => h).trans e4
   have gq : ∀ q : ClN w1, bx < q.w.heap.size := fun q => Nat.lt_of_lt_of_le eq_ (f1.trans q.fr).size
   have HS : Hid (∀ q : ClN w1, Calls Tryz.prog 84 #[.pointer (some ⟨m0.wb, 0, none⟩)] q.w fun e w'' => e = .returned (.int .i64 (k : Int)) ∧ ∃ q' : ClN w1, w'' = q'.w) := hide fun q => by
    refine (gSides_w (hok.no q.fr)).mono ?_
    rintro e w'' ⟨rfl, rfl⟩
    exact ⟨by rw [hml], q, rfl⟩
   have hinst : Nonempty (ClN w1) := ⟨⟨w1, Fr.refl No w1⟩⟩
   have HK := hide hk
   have HK16 := hide hk16
   have HML := hide hml
   have HOK := hide hok
   have HNEW := hide hnew
   have HF1 := hide f1
   have HE : Hid (W0.cell? ⟨bx, 1, none⟩ = some (.slice CA cuts.length cc) ∧ W0.cell? ⟨bx, 2, none⟩ = some (.slice TA ths.length tc) ∧ W0.cell? ⟨bx, 3, none⟩ = some (.int .i64 last) ∧ W0.cell? ⟨bx, 4, none⟩ = some (.slice MA made.length mc) ∧ bx < W0.heap.size) := hide ⟨e1, e2, e3, e4, eq_⟩
   have HTH := hide hth
   have HFC := hide hfac
   have HPA := hide hpar
   have HCU := hide hcut
   have HMD := hide hmade
   have HL0 := hide hlast0
   clear hk hk16 hml hok hnew f1 e0 e1 e2 e3 e4 eq_ HN hth hfac hpar hcut hmade hlast0
   by_cases hmk : made.length = k
   · have hd : ((made.length : Int) != (k : Int)) = false := by simp [hmk]
     have HMK := hide hmk
     clear hmk
     go_upto_region 2 with (fail)
     refine wp_region_quiet_cl (fun W' => ∃ q : ClN w1, W' = q.w) (by kernel_rfl) (by kernel_rfl) ⟨⟨_, (Fr.refl No w1).drew⟩, rfl⟩ ?_
     repeat (go_big_quiet_step ((go_at_call 84; exact HS.out _)))
     refine wpQuiet_nil ?_
     rintro w2 ⟨⟨_, f2⟩, rfl⟩
     have HF2 := hide (HF1.out.trans f2)
     have HOK2 := hide (HOK.out.no f2)
     have h1 := (HF2.out.cell HE.out.2.2.2.2 fun h => h).trans HE.out.1
     have hq := Nat.lt_of_lt_of_le HE.out.2.2.2.2 HF2.out.size
     clear hinst g4 gq f2 hd HS HOK HF1
     go_wp2_with fail
     go_loopw [35] (fun v wr => ∃ j : Nat, j ≤ cuts.length ∧ v = .int .i64 j ∧ (cutM m0 (cutOf k (cuts.take j))).Ok W0.heap.size wr ∧ Fr No W0 wr ∧ ∀ i, i < j → GoodC k cuts i) (fun v _ => cuts.length - (intOf v).toNat)
     case atStart =>
      refine ⟨0, Nat.zero_le _, rfl, ?_, HF2.out, fun i hi => by omega⟩
      have : cutM m0 (cutOf k (cuts.take 0)) = m0 := by
       unfold cutM cutOf
       simp only [List.take_zero, List.foldl_nil]
       rw [← HCU.out]
      rw [this]
      exact HOK2.out
     case round =>
      obtain ⟨j, hj, rfl, hokj, fj, hgood⟩ := hrel
      have h1 := (fj.cell HE.out.2.2.2.2 fun h => h).trans HE.out.1
      have hq := Nat.lt_of_lt_of_le HE.out.2.2.2.2 fj.size
      have hlc := HLC.out
      have HFJ := hide fj
      have HGD := hide hgood
      have HOKJ := hide hokj
      by_cases hlt : j < cuts.length
      · obtain ⟨b, o, rfl, hb0, hb1, hce⟩ := HC.out.at_ (fun h => by rw [h] at hlt; simp at hlt)
        have hF := HF0.out.trans fj
        have hbW : b < W.heap.size := by have := HHI.out; have := HBX.out; omega
        have hbl : b < wr.heap.size := Nat.lt_of_lt_of_le hbW hF.size
        have hx : wr.cell? ⟨b, o + j, none⟩ = some (.int .i64 cuts[j]) := (hF.cell hbW fun h => h).trans (hce j _ (List.getElem?_eq_getElem hlt))
        have hgc : cuts[j]? = some cuts[j] := List.getElem?_eq_getElem hlt
        have HGC := hide hgc
        have HCE : Hid (Calls Tryz.prog 181 #[.pointer (some ⟨m0.wb, 0, none⟩), .int .i64 cuts[j]] wr (CutP (cutM m0 (cutOf k (cuts.take j))) W0.heap.size cuts[j] wr)) := hide (gCutEdge_w hokj _)
        have HCEL : Hid (∀ i x, cuts[i]? = some x → wr.cell? ⟨b, o + i, none⟩ = some (.int .i64 x)) := hide fun i x hx => (hF.cell hbW fun h => h).trans (hce i x hx)
        have HLT := hide hlt
        generalize cuts[j] = c at *
        clear hgc hce hF hokj fj hgood hbW
        by_cases hj0 : j = 0
        · as_aux_lemma =>
          have hd0 : decide (0 < j) = false := by simp [hj0]
          have HJ0 := hide hj0
          clear hj0
          go_wp2_with fail
          refine HCE.out.mono ?_
          rintro e w' (⟨hb, rfl, rfl⟩ | ⟨hg, rfl, hok', f'⟩)
          · have HNB := hide hb
            clear hb
            go_wp2_with fail
            go_ret2
            refine .inl ⟨fun h => HNB.out ?_, rfl, HF0.out.trans HFJ.out⟩
            have := (h.cut j _ HGC.out).1
            rw [HMK.out] at this
            change 0 < c ∧ c < ((cutM m0 (cutOf k (cuts.take j))).made.length : Int)
            rw [show (cutM m0 (cutOf k (cuts.take j))).made.length = k from HML.out]
            exact this
          · have HG := hide hg
            have HOK' := hide hok'
            have HF' := hide (HFJ.out.trans' f' fun i hi h => by have h' : W0.heap.size ≤ i := h; omega)
            clear hg hok' f'
            go_wp2
            go_roundw
            case rel =>
             refine ⟨j + 1, hlt, by go_num, ?_, HF'.out, fun i hi => ?_⟩
             · rw [cutOf_step HGC.out]
               exact HOK'.out
             · by_cases hij : i = j
               · subst hij
                 intro c2 hc2
                 rw [HGC.out] at hc2
                 injection hc2 with hc2
                 subst hc2
                 have hg := HG.out
                 change 0 < c ∧ c < ((cutM m0 (cutOf k (cuts.take i))).made.length : Int) at hg
                 rw [show (cutM m0 (cutOf k (cuts.take i))).made.length = k from HML.out] at hg
                 refine ⟨hg, fun c' hi0 hc' => ?_⟩
                 have := HJ0.out
                 omega
               · exact HGD.out i (by omega)
            case measure => simp [intOf] <;> omega
        · as_aux_lemma =>
          obtain ⟨j1, rfl⟩ : ∃ j1, j = j1 + 1 := ⟨j - 1, by omega⟩
          have hd0 : decide (0 < j1 + 1) = true := by simp
          have hw1 : IntKind.i64.wrap (((j1 + 1 : Nat) : Int) - 1) = (j1 : Int) := by
           rw [show ((j1 + 1 : Nat) : Int) - 1 = (j1 : Int) by omega]
           have := HLC.out
           exact IntWalk.i64_in _ (by omega)
          have hc1 : j1 < cuts.length := by omega
          have hx1 := HCEL.out j1 _ (List.getElem?_eq_getElem hc1)
          have HG1 := hide (List.getElem?_eq_getElem hc1)
          generalize cuts[j1] = c1 at *
          generalize hjj : j1 + 1 = j at *
          have HJJ := hide hjj
          clear hj0 hjj
          by_cases hcc : c ≤ c1
          · have hd1 : decide (c ≤ c1) = true := by simpa using hcc
            have HCC := hide hcc
            clear hcc
            go_wp2_with fail
            go_ret2
            refine .inl ⟨fun h => ?_, rfl, HF0.out.trans HFJ.out⟩
            have := (h.cut j _ HGC.out).2 c1 (by have := HJJ.out; omega) (by rw [← HJJ.out]; exact HG1.out)
            have := HCC.out
            omega
          · have hd1 : decide (c ≤ c1) = false := by simpa using hcc
            have HCC := hide hcc
            clear hcc
            go_wp2_with fail
            refine HCE.out.mono ?_
            rintro e w' (⟨hb, rfl, rfl⟩ | ⟨hg, rfl, hok', f'⟩)
            · have HNB := hide hb
              clear hb
              go_wp2_with fail
              go_ret2
              refine .inl ⟨fun h => HNB.out ?_, rfl, HF0.out.trans HFJ.out⟩
              have := (h.cut j _ HGC.out).1
              rw [HMK.out] at this
              change 0 < c ∧ c < ((cutM m0 (cutOf k (cuts.take j))).made.length : Int)
              rw [show (cutM m0 (cutOf k (cuts.take j))).made.length = k from HML.out]
              exact this
            · have HG := hide hg
              have HOK' := hide hok'
              have HF' := hide (HFJ.out.trans' f' fun i hi h => by have h' : W0.heap.size ≤ i := h; omega)
              clear hg hok' f'
              go_wp2
              go_roundw
              case rel =>
               refine ⟨j + 1, hlt, by go_num, ?_, HF'.out, fun i hi => ?_⟩
               · rw [cutOf_step HGC.out]
                 exact HOK'.out
               · by_cases hij : i = j
                 · subst hij
                   intro c2 hc2
                   rw [HGC.out] at hc2
                   injection hc2 with hc2
                   subst hc2
                   have hg := HG.out
                   change 0 < c ∧ c < ((cutM m0 (cutOf k (cuts.take i))).made.length : Int) at hg
                   rw [show (cutM m0 (cutOf k (cuts.take i))).made.length = k from HML.out] at hg
                   refine ⟨hg, fun c' hi0 hc' => ?_⟩
                   have hjj := HJJ.out
                   subst hjj
                   simp only [Nat.add_sub_cancel] at hc'
                   rw [HG1.out] at hc'
                   injection hc' with hc'
                   have := HCC.out
                   omega
                 · exact HGD.out i (by omega)
              case measure => simp [intOf] <;> omega
      · obtain rfl : cuts.length = j := by omega
        have hgoodC := hgood
        rw [List.take_length] at hokj
        have HGC : Hid (∀ i, GoodC k cuts i) := hide fun i => by
         by_cases hi : i < cuts.length
         · exact hgoodC i hi
         · intro c hc
           rw [List.getElem?_eq_none (by omega)] at hc
           cases hc
        obtain ⟨m1, hm1⟩ : ∃ m1, cutM m0 (cutOf k cuts) = m1 := ⟨_, rfl⟩
        have hs1 : m1.wb = m0.wb ∧ m1.th = [] ∧ m1.fac = [] ∧ m1.par = ps ∧ m1.cut = cutOf k cuts ∧ m1.made = List.replicate k 0 ∧ m1.last = 0 := by
         subst hm1
         exact ⟨rfl, HTH.out, HFC.out, HPA.out, rfl, HMD.out, HL0.out⟩
        rw [hm1] at hokj
        have hml1 : m1.made.length = k := by rw [hs1.2.2.2.2.2.1]; simp
        have hSd := gSides_w hokj
        rw [hs1.1, hml1] at hSd
        have HSd := hide hSd
        have HOK3 := hide hokj
        have HF3 := hide fj
        have HS1 := hide hs1
        have HML1 := hide hml1
        clear hgoodC hgood hm1 hs1 hml1 hSd hokj fj hlt hj hlc HOKJ HGD HFJ HOK2 HF2 HML HTH HFC HPA HCU HMD HL0 HC
        obtain ⟨w3, rfl⟩ : ∃ w3 : World, w3 = wr := ⟨_, rfl⟩
        have hmk := mk_ints k HK16.out
        have h2 := (HF3.out.cell HE.out.2.2.2.2 fun h => h).trans HE.out.2.1
        have HINV : Hid (ThI m1 ths last k W0 w3.heap.size 0 m1 (w3.alloc (.cells (madeCells #[.int .i64 0] k) 3))) := hide (by
         have fa := (Fr.refl No w3).alloc (.cells (madeCells #[.int .i64 0] k) 3)
         refine ⟨HOK3.out.no fa, HF3.out.trans fa, ⟨rfl, rfl, rfl, rfl, rfl, HS1.out.2.2.1, HS1.out.2.2.2.2.2.2⟩, ?_, ?_, fun h => by have := (HOK3.out.lt _ h).2; omega, HF3.out.size, fun i hi => by omega, fun x hx => by rw [HS1.out.2.1] at hx; cases hx⟩
         · unfold Gm.pl
           rw [HS1.out.2.1]
           rfl
         · have hb := Blk.new w3 3 (madeCells #[.int .i64 0] k)
           have he : madeCells #[.int .i64 0] k = (homesRow k (ths.take 0)).toArray := by
            apply Array.ext'
            rw [toList_madeCells_one, List.take_zero, homesRow_nil]
           rw [he] at hb ⊢
           exact hb)
        go_wp2_with fail
        refine HSd.out.mono ?_
        rintro e w' ⟨rfl, rfl⟩
        clear HSd
        go_wp2_with fail
        generalize hgg : w'.heap.size = g at *
        have HGG := hide hgg
        clear hgg
        go_loopw [65, 9] (fun v u wr => ∃ (j : Nat) (m : Gm), j ≤ ths.length ∧ v = .int .i64 j ∧ u = .int .i64 (prevOf ths j) ∧ ThI m1 ths last k W0 g j m wr) (fun v _ _ => ths.length - (intOf v).toNat)
        case atStart => exact ⟨0, m1, Nat.zero_le _, rfl, rfl, HINV.out⟩
        case round =>
         obtain ⟨j, m, hj, rfl, rfl, inv⟩ := hrel
         have hl2 := HTL.out
         by_cases hlt : j < ths.length
         · as_aux_lemma =>
           obtain ⟨b, o, rfl, hb0, hb1, hce⟩ := HT.out.at_ (fun h => by rw [h] at hlt; simp at hlt)
           have hF := HF0.out.trans inv.fr
           have hbW : b < W.heap.size := by have := HHI.out; have := HBX.out; omega
           have hbl : b < wr.heap.size := Nat.lt_of_lt_of_le hbW hF.size
           have hhiW : hi ≤ W.heap.size := by have := HHI.out; have := HBX.out; omega
           have hxin := (HT.out.inn _ (List.getElem_mem hlt)).2.no hF hhiW
           have hgt : ths[j]? = some ths[j] := List.getElem?_eq_getElem hlt
           have hcl : ∀ i u, (Value.int .i64 ths[j].1 :: ths[j].2.cells)[i]? = some u → wr.cell? ⟨b, o + j * 17 + i, none⟩ = some u := fun i u hu => (hF.cell hbW fun h => h).trans (hce j _ hgt i u hu)
           have HGT := hide hgt
           have HLT := hide hlt
           have HFW := hide hF
           have h2 := (inv.fr.cell HE.out.2.2.2.2 fun h => h).trans HE.out.2.1
           have h3 := (inv.fr.cell HE.out.2.2.2.2 fun h => h).trans HE.out.2.2.1
           have hq := Nat.lt_of_lt_of_le HE.out.2.2.2.2 inv.fr.size
           have hwb : m.wb = m0.wb := inv.same.1.trans HS1.out.1
           have hmm : m.made.length = k := by rw [inv.same.2.2.2.2.1]; exact HML1.out
           generalize ths[j] = x at *
           obtain ⟨r, kind, home, ⟨k1, n1, s1, A1, cap1, l1, r1⟩, VA, vc, vs, n2, lost, ofr, byr, set, full, CA2, cc2, code, NA, nc, names⟩ := x
           have x0 : wr.cell? ⟨b, o + j * 17, none⟩ = some (.int .i64 r) := hcl 0 _ rfl
           have x1 : wr.cell? ⟨b, o + j * 17 + 1, none⟩ = some (.int .u8 kind) := hcl 1 _ rfl
           have x2 : wr.cell? ⟨b, o + j * 17 + 2, none⟩ = some (.int .i64 home) := hcl 2 _ rfl
           have x3 : wr.cell? ⟨b, o + j * 17 + 3, none⟩ = some (.int .u8 k1) := hcl 3 _ rfl
           have x4 : wr.cell? ⟨b, o + j * 17 + 4, none⟩ = some (.int .i64 n1) := hcl 4 _ rfl
           have x5 : wr.cell? ⟨b, o + j * 17 + 5, none⟩ = some (.string s1) := hcl 5 _ rfl
           have x6 : wr.cell? ⟨b, o + j * 17 + 6, none⟩ = some (.slice A1 l1.length cap1) := hcl 6 _ rfl
           have x7 : wr.cell? ⟨b, o + j * 17 + 7, none⟩ = some (.int .i64 r1) := hcl 7 _ rfl
           have x8 : wr.cell? ⟨b, o + j * 17 + 8, none⟩ = some (.slice VA vs.length vc) := hcl 8 _ rfl
           have x9 : wr.cell? ⟨b, o + j * 17 + 9, none⟩ = some (.int .i64 n2) := hcl 9 _ rfl
           have x10 : wr.cell? ⟨b, o + j * 17 + 10, none⟩ = some (.int .i64 lost) := hcl 10 _ rfl
           have x11 : wr.cell? ⟨b, o + j * 17 + 11, none⟩ = some (.int .i64 ofr) := hcl 11 _ rfl
           have x12 : wr.cell? ⟨b, o + j * 17 + 12, none⟩ = some (.int .i64 byr) := hcl 12 _ rfl
           have x13 : wr.cell? ⟨b, o + j * 17 + 13, none⟩ = some (.int .u8 set) := hcl 13 _ rfl
           have x14 : wr.cell? ⟨b, o + j * 17 + 14, none⟩ = some (.bool full) := hcl 14 _ rfl
           have x15 : wr.cell? ⟨b, o + j * 17 + 15, none⟩ = some (.slice CA2 code.length cc2) := hcl 15 _ rfl
           have x16 : wr.cell? ⟨b, o + j * 17 + 16, none⟩ = some (.slice NA names.length nc) := hcl 16 _ rfl
           have hB1 := Blk.new wr 140 #[.int .i64 r, .int .u8 kind, .int .i64 home, .int .u8 k1, .int .i64 n1, .string s1, .slice A1 l1.length cap1, .int .i64 r1, .slice VA vs.length vc, .int .i64 n2, .int .i64 lost, .int .i64 ofr, .int .i64 byr, .int .u8 set, .bool full, .slice CA2 code.length cc2, .slice NA names.length nc]
           have hfa := (Fr.refl No wr).alloc (.cells #[.int .i64 r, .int .u8 kind, .int .i64 home, .int .u8 k1, .int .i64 n1, .string s1, .slice A1 l1.length cap1, .int .i64 r1, .slice VA vs.length vc, .int .i64 n2, .int .i64 lost, .int .i64 ofr, .int .i64 byr, .int .u8 set, .bool full, .slice CA2 code.length cc2, .slice NA names.length nc] 140)
           have hFO : ∀ W', Fr No wr W' → Calls Tryz.prog 154 #[.pointer (some ⟨m0.wb, 0, none⟩), .agg #[.int .u8 kind, .int .i64 home, .int .u8 k1, .int .i64 n1, .string s1, .slice A1 l1.length cap1, .int .i64 r1, .slice VA vs.length vc, .int .i64 n2, .int .i64 lost, .int .i64 ofr, .int .i64 byr, .int .u8 set, .bool full, .slice CA2 code.length cc2, .slice NA names.length nc]] W' (FormP k ⟨kind, home, T.mk k1 n1 s1 A1 cap1 l1 r1, VA, vc, vs, n2, lost, ofr, byr, set, full, CA2, cc2, code, NA, nc, names⟩ W') := fun W' f => by
            have := gform_w (inv.ok.no f) ⟨kind, home, T.mk k1 n1 s1 A1 cap1 l1 r1, VA, vc, vs, n2, lost, ofr, byr, set, full, CA2, cc2, code, NA, nc, names⟩ lo hi (hxin.no f (Nat.le_trans hhiW hF.size)) (Nat.le_trans (Nat.le_trans hhiW hF.size) f.size)
            rw [hwb, hmm] at this
            exact this
           have HB1 := hide hB1
           have HFA := hide hfa
           have HFO := hide hFO
           have HINVJ := hide inv
           have HXIN := hide hxin
           have HHW := hide (Nat.le_trans hhiW hF.size)
           have HWB := hide hwb
           generalize hpv : prevOf ths j = pv at *
           have HPV := hide hpv
           clear hcl hce hgt hlt hF hbW hxin hhiW hwb hmm hB1 hfa hFO inv hpv hmk
           as_aux_lemma =>
            by_cases hr1 : r ≤ pv
            · have hd1 : decide (r ≤ pv) = true := by simpa using hr1
              have HR1 := hide hr1
              clear hr1
              go_wp2_with fail
              go_ret2
              refine .inl ⟨fun h => ?_, rfl, HFW.out.trans HFA.out⟩
              have := h.thing j _ HGT.out
              rw [HMK.out] at this
              have h3 := this.2.2
              rw [HPV.out] at h3
              have := HR1.out
              omega
            have hd1 : decide (r ≤ pv) = false := by simpa using hr1
            have HR1 := hide hr1
            clear hr1
            by_cases hr2 : last < r
            · have hd2 : decide (r > last) = true := by simpa using hr2
              have HR2 := hide hr2
              clear hr2
              go_wp2_with fail
              go_ret2
              refine .inl ⟨fun h => ?_, rfl, HFW.out.trans HFA.out⟩
              have := h.thing j _ HGT.out
              rw [HMK.out] at this
              have h3 := this.2.1
              have := HR2.out
              omega
            have hd2 : decide (r > last) = false := by simpa using hr2
            have HR2 := hide hr2
            clear hr2
            go_upto_region 15 with (fail)
            generalize hW1 : World.alloc wr _ = W1 at *
            generalize htb : wr.heap.size = tb at *
            have HTB := hide htb
            clear hW1 htb x0 x1 x2 x3 x4 x5 x6 x7 x8 x9 x10 x11 x12 x13 x14 x15 x16
            have hq1 := HFA.out.size
            have hq0 : bx < wr.heap.size := by have := HTB.out; omega
            have h2' := (HFA.out.cell hq0 fun h => h).trans h2
            have h3' := (HFA.out.cell hq0 fun h => h).trans h3
            have hq' := Nat.lt_of_lt_of_le hq0 HFA.out.size
            have t0 : W1.cell? ⟨tb, 0, none⟩ = some (.int .i64 r) := HB1.out.cell 0
            have t1 : W1.cell? ⟨tb, 1, none⟩ = some (.int .u8 kind) := HB1.out.cell 1
            have t2 : W1.cell? ⟨tb, 2, none⟩ = some (.int .i64 home) := HB1.out.cell 2
            have t3 : W1.cell? ⟨tb, 3, none⟩ = some (.int .u8 k1) := HB1.out.cell 3
            have t4 : W1.cell? ⟨tb, 4, none⟩ = some (.int .i64 n1) := HB1.out.cell 4
            have t5 : W1.cell? ⟨tb, 5, none⟩ = some (.string s1) := HB1.out.cell 5
            have t6 : W1.cell? ⟨tb, 6, none⟩ = some (.slice A1 l1.length cap1) := HB1.out.cell 6
            have t7 : W1.cell? ⟨tb, 7, none⟩ = some (.int .i64 r1) := HB1.out.cell 7
            have t8 : W1.cell? ⟨tb, 8, none⟩ = some (.slice VA vs.length vc) := HB1.out.cell 8
            have t9 : W1.cell? ⟨tb, 9, none⟩ = some (.int .i64 n2) := HB1.out.cell 9
            have t10 : W1.cell? ⟨tb, 10, none⟩ = some (.int .i64 lost) := HB1.out.cell 10
            have t11 : W1.cell? ⟨tb, 11, none⟩ = some (.int .i64 ofr) := HB1.out.cell 11
            have t12 : W1.cell? ⟨tb, 12, none⟩ = some (.int .i64 byr) := HB1.out.cell 12
            have t13 : W1.cell? ⟨tb, 13, none⟩ = some (.int .u8 set) := HB1.out.cell 13
            have t14 : W1.cell? ⟨tb, 14, none⟩ = some (.bool full) := HB1.out.cell 14
            have t15 : W1.cell? ⟨tb, 15, none⟩ = some (.slice CA2 code.length cc2) := HB1.out.cell 15
            have t16 : W1.cell? ⟨tb, 16, none⟩ = some (.slice NA names.length nc) := HB1.out.cell 16
            have tq := HB1.out.lt
            clear h2 h3 hq hq1 hq0 hbl
            as_aux_lemma =>
             go_wp2_with fail
             refine (HFO.out W1 HFA.out).mono ?_
             rintro e W2 ⟨q, rfl, hqf, f2⟩
             have HF2 := hide (HFA.out.trans f2)
             have hB2 := HB1.out.fr f2 fun h => h
             have HB2 := hide hB2
             have HQF := hide hqf
             clear t0 t1 t2 t3 t4 t5 t6 t7 t8 t9 t10 t11 t12 t13 t14 t15 t16 tq f2 hB2 hqf HFO h2' h3' hq'
             have t0 : W2.cell? ⟨tb, 0, none⟩ = some (.int .i64 r) := HB2.out.cell 0
             have t1 : W2.cell? ⟨tb, 1, none⟩ = some (.int .u8 kind) := HB2.out.cell 1
             have t2 : W2.cell? ⟨tb, 2, none⟩ = some (.int .i64 home) := HB2.out.cell 2
             have t3 : W2.cell? ⟨tb, 3, none⟩ = some (.int .u8 k1) := HB2.out.cell 3
             have t4 : W2.cell? ⟨tb, 4, none⟩ = some (.int .i64 n1) := HB2.out.cell 4
             have t5 : W2.cell? ⟨tb, 5, none⟩ = some (.string s1) := HB2.out.cell 5
             have t6 : W2.cell? ⟨tb, 6, none⟩ = some (.slice A1 l1.length cap1) := HB2.out.cell 6
             have t7 : W2.cell? ⟨tb, 7, none⟩ = some (.int .i64 r1) := HB2.out.cell 7
             have t8 : W2.cell? ⟨tb, 8, none⟩ = some (.slice VA vs.length vc) := HB2.out.cell 8
             have t9 : W2.cell? ⟨tb, 9, none⟩ = some (.int .i64 n2) := HB2.out.cell 9
             have t10 : W2.cell? ⟨tb, 10, none⟩ = some (.int .i64 lost) := HB2.out.cell 10
             have t11 : W2.cell? ⟨tb, 11, none⟩ = some (.int .i64 ofr) := HB2.out.cell 11
             have t12 : W2.cell? ⟨tb, 12, none⟩ = some (.int .i64 byr) := HB2.out.cell 12
             have t13 : W2.cell? ⟨tb, 13, none⟩ = some (.int .u8 set) := HB2.out.cell 13
             have t14 : W2.cell? ⟨tb, 14, none⟩ = some (.bool full) := HB2.out.cell 14
             have t15 : W2.cell? ⟨tb, 15, none⟩ = some (.slice CA2 code.length cc2) := HB2.out.cell 15
             have t16 : W2.cell? ⟨tb, 16, none⟩ = some (.slice NA names.length nc) := HB2.out.cell 16
             have tq := HB2.out.lt
             as_aux_lemma =>
              cases q with
              | false =>
               go_wp2_with fail
               go_ret2
               refine .inl ⟨fun h => ?_, rfl, HFW.out.trans HF2.out⟩
               have := h.thing j _ HGT.out
               rw [HMK.out] at this
               have h4 := HQF.out.2 this.1
               cases h4
              | true => as_aux_lemma =>
               have hform := HQF.out.1 rfl
               have hOW : ∀ W', Fr No wr W' → Calls Tryz.prog 150 #[.agg #[.int .u8 kind, .int .i64 home, .int .u8 k1, .int .i64 n1, .string s1, .slice A1 l1.length cap1, .int .i64 r1, .slice VA vs.length vc, .int .i64 n2, .int .i64 lost, .int .i64 ofr, .int .i64 byr, .int .u8 set, .bool full, .slice CA2 code.length cc2, .slice NA names.length nc]] W' (OwnWP ⟨kind, home, T.mk k1 n1 s1 A1 cap1 l1 r1, VA, vc, vs, n2, lost, ofr, byr, set, full, CA2, cc2, code, NA, nc, names⟩ W') := fun W' f => ownWhat_any ⟨kind, home, T.mk k1 n1 s1 A1 cap1 l1 r1, VA, vc, vs, n2, lost, ofr, byr, set, full, CA2, cc2, code, NA, nc, names⟩ W' lo hi (HXIN.out.no f (by have := HHW.out; have := HTB.out; omega)) (Nat.le_trans (by have := HHW.out; have := HTB.out; omega) f.size) hform.may hform.vsmay.1 hform.mays
               have HOW := hide hOW
               have HFM := hide hform
               clear hOW hform HQF
               go_wp2_with fail
               refine (HOW.out W2 HF2.out).mono ?_
               rintro e W3 ⟨⟨ykind, yhome, ⟨yk1, yn1, ys1, yA1, ycap1, yl1, yr1⟩, yVA, yvc, yvs, yn2, ylost, yofr, ybyr, yset, yfull, yCA2, ycc2, ycode, yNA, ync, ynames⟩, rfl, hnum, hv1, hv2, hv3, hv4, hst, f3⟩
               have hyp : Tg.pl ⟨ykind, yhome, T.mk yk1 yn1 ys1 yA1 ycap1 yl1 yr1, yVA, yvc, yvs, yn2, ylost, yofr, ybyr, yset, yfull, yCA2, ycc2, ycode, yNA, ync, ynames⟩ = Tg.pl ⟨kind, home, T.mk k1 n1 s1 A1 cap1 l1 r1, VA, vc, vs, n2, lost, ofr, byr, set, full, CA2, cc2, code, NA, nc, names⟩ := by
                simp only at hnum hv1 hv2 hv3 hv4
                obtain ⟨a1, a2, a3, a4, a5, a6, a7, a8⟩ := hnum
                unfold Tg.pl
                simp only [TgV.mk.injEq]
                exact ⟨a1, a2, hv1, hv2, a3, a4, a5, a6, a7, a8, hv3, hv4⟩
               have hyk : ykind = kind := hnum.1
               have hyh : yhome = home := hnum.2.1
               have hval : Tg.val ⟨ykind, yhome, T.mk yk1 yn1 ys1 yA1 ycap1 yl1 yr1, yVA, yvc, yvs, yn2, ylost, yofr, ybyr, yset, yfull, yCA2, ycc2, ycode, yNA, ync, ynames⟩ = .agg #[.int .u8 ykind, .int .i64 yhome, .int .u8 yk1, .int .i64 yn1, .string ys1, .slice yA1 yl1.length ycap1, .int .i64 yr1, .slice yVA yvs.length yvc, .int .i64 yn2, .int .i64 ylost, .int .i64 yofr, .int .i64 ybyr, .int .u8 yset, .bool yfull, .slice yCA2 ycode.length ycc2, .slice yNA ynames.length ync] := rfl
               rw [hval]
               have hB3 := HB2.out.fr f3 fun h => h
               have HB3 := hide hB3
               have HYP := hide hyp
               have HYK := hide hyk
               have HYH := hide hyh
               have hF3 := HF2.out.trans f3
               have hst4 : Tg.St (W3.alloc (.cells #[.int .u8 ykind, .int .i64 yhome, .int .u8 yk1, .int .i64 yn1, .string ys1, .slice yA1 yl1.length ycap1, .int .i64 yr1, .slice yVA yvs.length yvc, .int .i64 yn2, .int .i64 ylost, .int .i64 yofr, .int .i64 ybyr, .int .u8 yset, .bool yfull, .slice yCA2 ycode.length ycc2, .slice yNA ynames.length ync] 138)) wr.heap.size ⟨ykind, yhome, T.mk yk1 yn1 ys1 yA1 ycap1 yl1 yr1, yVA, yvc, yvs, yn2, ylost, yofr, ybyr, yset, yfull, yCA2, ycc2, ycode, yNA, ync, ynames⟩ := (hst.fr ((Fr.refl No W3).alloc _) fun _ _ h => h).more (Nat.le_trans (Nat.le_refl _) HF2.out.size)
               have hF4 := hF3.alloc (.cells #[.int .u8 ykind, .int .i64 yhome, .int .u8 yk1, .int .i64 yn1, .string ys1, .slice yA1 yl1.length ycap1, .int .i64 yr1, .slice yVA yvs.length yvc, .int .i64 yn2, .int .i64 ylost, .int .i64 yofr, .int .i64 ybyr, .int .u8 yset, .bool yfull, .slice yCA2 ycode.length ycc2, .slice yNA ynames.length ync] 138)
               have hY4 := Blk.new W3 138 #[.int .u8 ykind, .int .i64 yhome, .int .u8 yk1, .int .i64 yn1, .string ys1, .slice yA1 yl1.length ycap1, .int .i64 yr1, .slice yVA yvs.length yvc, .int .i64 yn2, .int .i64 ylost, .int .i64 yofr, .int .i64 ybyr, .int .u8 yset, .bool yfull, .slice yCA2 ycode.length ycc2, .slice yNA ynames.length ync]
               have HST4 := hide hst4
               have HF4 := hide hF4
               have HY4 := hide hY4
               have hsz3 : wr.heap.size ≤ W3.heap.size := hF3.size
               have HSZ3 := hide hsz3
               have hB4 := hB3.alloc (.cells #[.int .u8 ykind, .int .i64 yhome, .int .u8 yk1, .int .i64 yn1, .string ys1, .slice yA1 yl1.length ycap1, .int .i64 yr1, .slice yVA yvs.length yvc, .int .i64 yn2, .int .i64 ylost, .int .i64 yofr, .int .i64 ybyr, .int .u8 yset, .bool yfull, .slice yCA2 ycode.length ycc2, .slice yNA ynames.length ync] 138)
               have HB4 := hide hB4
               as_aux_lemma =>
                clear hval hnum hv1 hv2 hv3 hv4 hst f3 hB3 hyp hyk hyh hF3 hst4 hF4 hY4 hsz3 hB4 HOW t0 t1 t2 t3 t4 t5 t6 t7 t8 t9 t10 t11 t12 t13 t14 t15 t16 tq
                have t0 : W3.cell? ⟨tb, 0, none⟩ = some (.int .i64 r) := HB3.out.cell 0
                have t1 : W3.cell? ⟨tb, 1, none⟩ = some (.int .u8 kind) := HB3.out.cell 1
                have t2 : W3.cell? ⟨tb, 2, none⟩ = some (.int .i64 home) := HB3.out.cell 2
                have t3 : W3.cell? ⟨tb, 3, none⟩ = some (.int .u8 k1) := HB3.out.cell 3
                have t4 : W3.cell? ⟨tb, 4, none⟩ = some (.int .i64 n1) := HB3.out.cell 4
                have t5 : W3.cell? ⟨tb, 5, none⟩ = some (.string s1) := HB3.out.cell 5
                have t6 : W3.cell? ⟨tb, 6, none⟩ = some (.slice A1 l1.length cap1) := HB3.out.cell 6
                have t7 : W3.cell? ⟨tb, 7, none⟩ = some (.int .i64 r1) := HB3.out.cell 7
                have t8 : W3.cell? ⟨tb, 8, none⟩ = some (.slice VA vs.length vc) := HB3.out.cell 8
                have t9 : W3.cell? ⟨tb, 9, none⟩ = some (.int .i64 n2) := HB3.out.cell 9
                have t10 : W3.cell? ⟨tb, 10, none⟩ = some (.int .i64 lost) := HB3.out.cell 10
                have t11 : W3.cell? ⟨tb, 11, none⟩ = some (.int .i64 ofr) := HB3.out.cell 11
                have t12 : W3.cell? ⟨tb, 12, none⟩ = some (.int .i64 byr) := HB3.out.cell 12
                have t13 : W3.cell? ⟨tb, 13, none⟩ = some (.int .u8 set) := HB3.out.cell 13
                have t14 : W3.cell? ⟨tb, 14, none⟩ = some (.bool full) := HB3.out.cell 14
                have t15 : W3.cell? ⟨tb, 15, none⟩ = some (.slice CA2 code.length cc2) := HB3.out.cell 15
                have t16 : W3.cell? ⟨tb, 16, none⟩ = some (.slice NA names.length nc) := HB3.out.cell 16
                have tq := HB3.out.lt
                go_upto_region 19 with (fail)
                generalize hW4 : World.alloc W3 _ = W4 at *
                generalize hyb : W3.heap.size = yb at *
                clear hW4 hyb t0 t1 t2 t3 t4 t5 t6 t7 t8 t9 t10 t11 t12 t13 t14 t15 t16 tq
                as_aux_lemma =>
                 obtain ⟨es, cl, hm4, hes, -⟩ := (HINVJ.out.ok.no HF4.out).things
                 have c2 : W4.cell? ⟨m0.wb, 2, none⟩ = some (.map (some m.M)) := by
                  have := gmap_cell (HINVJ.out.ok.no HF4.out)
                  rwa [HWB.out] at this
                 have cq : m0.wb < W4.heap.size := by
                  have := (HINVJ.out.ok.no HF4.out).blk.lt
                  rwa [HWB.out] at this
                 have t0 : W4.cell? ⟨tb, 0, none⟩ = some (.int .i64 r) := HB4.out.cell 0
                 have t1 : W4.cell? ⟨tb, 1, none⟩ = some (.int .u8 kind) := HB4.out.cell 1
                 have t2 : W4.cell? ⟨tb, 2, none⟩ = some (.int .i64 home) := HB4.out.cell 2
                 have t3 : W4.cell? ⟨tb, 3, none⟩ = some (.int .u8 k1) := HB4.out.cell 3
                 have t4 : W4.cell? ⟨tb, 4, none⟩ = some (.int .i64 n1) := HB4.out.cell 4
                 have t5 : W4.cell? ⟨tb, 5, none⟩ = some (.string s1) := HB4.out.cell 5
                 have t6 : W4.cell? ⟨tb, 6, none⟩ = some (.slice A1 l1.length cap1) := HB4.out.cell 6
                 have t7 : W4.cell? ⟨tb, 7, none⟩ = some (.int .i64 r1) := HB4.out.cell 7
                 have t8 : W4.cell? ⟨tb, 8, none⟩ = some (.slice VA vs.length vc) := HB4.out.cell 8
                 have t9 : W4.cell? ⟨tb, 9, none⟩ = some (.int .i64 n2) := HB4.out.cell 9
                 have t10 : W4.cell? ⟨tb, 10, none⟩ = some (.int .i64 lost) := HB4.out.cell 10
                 have t11 : W4.cell? ⟨tb, 11, none⟩ = some (.int .i64 ofr) := HB4.out.cell 11
                 have t12 : W4.cell? ⟨tb, 12, none⟩ = some (.int .i64 byr) := HB4.out.cell 12
                 have t13 : W4.cell? ⟨tb, 13, none⟩ = some (.int .u8 set) := HB4.out.cell 13
                 have t14 : W4.cell? ⟨tb, 14, none⟩ = some (.bool full) := HB4.out.cell 14
                 have t15 : W4.cell? ⟨tb, 15, none⟩ = some (.slice CA2 code.length cc2) := HB4.out.cell 15
                 have t16 : W4.cell? ⟨tb, 16, none⟩ = some (.slice NA names.length nc) := HB4.out.cell 16
                 have tq := HB4.out.lt
                 have hu : (Instr.mapUpdate 34 (.map (some m.M)) (.int .i64 r) (.pointer (some ⟨yb, 0, none⟩))).run Tryz.prog W4.drew = .ok () (W4.drew.putObj m.M (.map (es.push { key := .int .i64 r, val := .pointer (some ⟨yb, 0, none⟩), born := cl }) (cl + 1))) :=
                  update_num Tryz.underlying22 Tryz.underlying34 _ _ (show W4.drew.heap[m.M]? = some (.map es cl) from hm4) (fun e he => by
                   obtain ⟨i, hi, rfl⟩ := List.mem_iff_getElem.1 he
                   have hi' : i < m.th.length := by rw [← hes.1]; exact hi
                   refine ⟨_, (hes.2 i _ _ (List.getElem?_eq_getElem hi) (List.getElem?_eq_getElem hi')).1, ?_⟩
                   have := HINVJ.out.key _ (List.getElem_mem hi')
                   have h4 := HR1.out
                   rw [HPV.out] at this
                   omega)
                 have HM4 := hide hm4
                 clear hm4 hes
                 go_region
                 all_goals
                  go_simp
                  go_upto_region 20 with (fail)
                  generalize hW5 : World.putObj W4.drew _ _ = W5 at *
                  have hput := HINVJ.out.put HTL.out HGT.out ⟨HFM.out, by have := HR2.out; omega, by have := HR1.out; have := HPV.out; omega⟩ HF4.out HSZ3.out (y := ⟨ykind, yhome, T.mk yk1 yn1 ys1 yA1 ycap1 yl1 yr1, yVA, yvc, yvs, yn2, ylost, yofr, ybyr, yset, yfull, yCA2, ycc2, ycode, yNA, ync, ynames⟩) HY4.out HST4.out HYP.out HM4.out hW5.symm
                  as_aux_lemma =>
                   obtain ⟨-, fr5, hrow5, hy5, hA, hB⟩ := hput
                   have HFR5 := hide fr5
                   have HROW5 := hide hrow5
                   have HAA := hide hA
                   have HBB := hide hB
                   have p0 : W5.cell? ⟨yb, 0, none⟩ = some (.int .u8 ykind) := hy5.cell 0
                   have p1 : W5.cell? ⟨yb, 1, none⟩ = some (.int .i64 yhome) := hy5.cell 1
                   have pq := hy5.lt
                   rw [HYK.out] at p0
                   rw [HYH.out] at p1
                   clear hu hW5 fr5 hrow5 hA hB hy5 t0 t1 t2 t3 t4 t5 t6 t7 t8 t9 t10 t11 t12 t13 t14 t15 t16 tq c2 cq
                   by_cases hk14 : kind = 14
                   · as_aux_lemma =>
                     have e14 : (kind != 14) = false := by simp [hk14]
                     have HK14 := hide hk14
                     clear hk14
                     go_wp2_with fail
                     go_roundw
                     case rel => exact ⟨j + 1, _, HLT.out, by go_num, by simp [prevOf, HGT.out], HAA.out HK14.out⟩
                     case measure =>
                      have := HLT.out
                      simp [intOf] <;> omega
                   · as_aux_lemma =>
                     have e14 : (kind != 14) = true := by simpa using hk14
                     obtain ⟨s, hsk, hhs⟩ := HFM.out.home hk14
                     simp only at hhs
                     subst hhs
                     have hinv6 := HBB.out s hk14 rfl hsk
                     have HINV6 := hide hinv6
                     have hg5 : W5.cell? ⟨g, s, none⟩ = some (.int .i64 (homes (ths.take j) s)) := by
                      have := HROW5.out.cell s
                      simpa [homesRow, hsk] using this
                     have hz5 := HROW5.out.frozen s
                     have hgq := HROW5.out.lt
                     have hhb := homes_bound (ths.take j) s
                     have hhb2 : (ths.take j).length ≤ 1000000 := by rw [List.length_take]; omega
                     have hwr : IntKind.i64.wrap (homes (ths.take j) s + 1) = homes (ths.take j) s + 1 := IntWalk.i64_in _ (by omega)
                     have hsk' : (s : Int) < (k : Int) := by omega
                     generalize homes (ths.take j) s = hc at *
                     clear hk14 hinv6 hhb hhb2
                     go_wp2_with fail
                     go_roundw
                     case rel => exact ⟨j + 1, _, HLT.out, by go_num, by simp [prevOf, HGT.out], HINV6.out⟩
                     case measure =>
                      have := HLT.out
                      simp [intOf] <;> omega
         · obtain rfl : ths.length = j := by omega
           have hpl := inv.pl
           rw [List.take_length] at hpl
           have hgood : ∀ i, GoodT k ths last i := fun i => by
            by_cases hi : i < ths.length
            · exact inv.good i hi
            · intro x hx
              rw [List.getElem?_eq_none (by omega)] at hx
              cases hx
           have hrow := inv.row
           rw [List.take_length] at hrow
           have HPL := hide hpl
           have HGOOD := hide hgood
           have HROW := hide hrow
           have HOK5 := hide inv.ok
           have HF5 := hide inv.fr
           have hmm : m.wb = m0.wb ∧ m.par = ps ∧ m.cut = cutOf k cuts ∧ m.made = List.replicate k 0 ∧ m.fac = [] ∧ m.last = 0 := ⟨inv.same.1.trans HS1.out.1, inv.same.2.2.1.trans HS1.out.2.2.2.1, inv.same.2.2.2.1.trans HS1.out.2.2.2.2.1, inv.same.2.2.2.2.1.trans HS1.out.2.2.2.2.2.1, inv.same.2.2.2.2.2.1, inv.same.2.2.2.2.2.2⟩
           have HMM := hide hmm
           generalize prevOf ths ths.length = pv at *
           clear hpl hgood hrow hmm inv hmk h2 hlt hj HINV HOK3 HS1
           obtain ⟨w5, rfl⟩ : ∃ w5 : World, w5 = wr := ⟨_, rfl⟩
           have h4 := (HF5.out.cell HE.out.2.2.2.2 fun h => h).trans HE.out.2.2.2.1
           have h3 := (HF5.out.cell HE.out.2.2.2.2 fun h => h).trans HE.out.2.2.1
           have hq5 := Nat.lt_of_lt_of_le HE.out.2.2.2.2 HF5.out.size
           have hrq := HROW.out.lt
           have hlm := HLM.out
           go_wp2_with fail
           go_loopw [112, 13] (fun v u wr' => ∃ j : Nat, j ≤ made.length ∧ v = .int .i64 j ∧ u = .int .i64 (made.take j).sum ∧ wr' = w5 ∧ ∀ i, i < j → GoodM ths made i) (fun v _ _ => made.length - (intOf v).toNat)
           case atStart => exact ⟨0, Nat.zero_le _, rfl, rfl, rfl, fun i hi => by omega⟩
           case round =>
            obtain ⟨j, hj, rfl, rfl, rfl, hgm⟩ := hrel
            have hsb := sum_good (k := k) hgm (by have := HMK.out; omega)
            have HGM := hide hgm
            by_cases hlt : j < made.length
            · obtain ⟨b, o, rfl, hb0, hb1, hce⟩ := HM.out.at_ (fun h => by rw [h] at hlt; simp at hlt)
              have hF := HF0.out.trans HF5.out
              have hbW : b < W.heap.size := by have := HHI.out; have := HBX.out; omega
              have hbl : b < wr.heap.size := Nat.lt_of_lt_of_le hbW hF.size
              have hgt : made[j]? = some made[j] := List.getElem?_eq_getElem hlt
              have hx : wr.cell? ⟨b, o + j, none⟩ = some (.int .i64 made[j]) := (hF.cell hbW fun h => h).trans (hce j _ hgt)
              have hjk : j < k := by have := HMK.out; omega
              have hr : wr.cell? ⟨g, j, none⟩ = some (.int .i64 (homes ths j)) := by
               have := HROW.out.cell j
               simpa [homesRow, hjk] using this
              have hjk' : (j : Int) < (k : Int) := by omega
              have hhb := homes_bound ths j
              have HGT := hide hgt
              have HLT := hide hlt
              have HFW := hide hF
              have HHB := hide hhb
              generalize hhm : homes ths j = hc at *
              have HHM := hide hhm
              have htk : (made.take (j + 1)).sum = (made.take j).sum + made[j] := by rw [List.take_add_one, hgt, List.sum_append]; simp; rfl
              generalize made[j] = n at *
              have HTK := hide htk
              generalize (made.take j).sum = sm at *
              clear hce hF hbW hgt hhb hhm htk
              by_cases hn1 : n < hc
              · have hd1 : decide (n < hc) = true := by simpa using hn1
                have HN1 := hide hn1
                clear hn1
                go_wp2_with fail
                go_ret2
                refine .inl ⟨fun h => ?_, rfl, HFW.out⟩
                have h1 := (h.mades j _ HGT.out).1
                rw [HHM.out] at h1
                have := HN1.out
                omega
              have hd1 : decide (n < hc) = false := by simpa using hn1
              have HN1 := hide hn1
              by_cases hn2 : 512 < n
              · have hd2 : decide (n > 512) = true := by simpa using hn2
                have HN2 := hide hn2
                clear hn1 hn2
                go_wp2_with fail
                go_ret2
                refine .inl ⟨fun h => ?_, rfl, HFW.out⟩
                have h1 := (h.mades j _ HGT.out).2
                have := HN2.out
                omega
              have hd2 : decide (n > 512) = false := by simpa using hn2
              have HN2 := hide hn2
              have hk16 := HK16.out
              have hwr : IntKind.i64.wrap (sm + n) = sm + n := by
               have := HHB.out
               exact IntWalk.i64_in _ (by omega)
              clear hn1 hn2
              go_wp2_with fail
              go_roundw
              case rel =>
               refine ⟨j + 1, HLT.out, by go_num, by rw [HTK.out], trivial, fun i hi => ?_⟩
               by_cases hij : i = j
               · subst hij
                 intro n2 hn2
                 rw [HGT.out] at hn2
                 injection hn2 with hn2
                 subst hn2
                 rw [HHM.out]
                 have := HN1.out
                 have := HN2.out
                 omega
               · exact HGM.out i (by omega)
              case measure =>
               have := HLT.out
               simp [intOf] <;> omega
            · obtain rfl : made.length = j := by omega
              rw [List.take_length] at hsb ⊢
              have hgoodM : ∀ i, GoodM ths made i := fun i => by
               by_cases hi : i < made.length
               · exact hgm i hi
               · intro n hn
                 rw [List.getElem?_eq_none (by omega)] at hn
                 cases hn
              have HGA := hide hgoodM
              clear hgoodM hgm hlt hj HGM h4 hrq hlm
              obtain ⟨sm, hsm⟩ : ∃ sm, made.sum = sm := ⟨_, rfl⟩
              obtain ⟨sp, hsp⟩ : ∃ sp, (Gm.ofT ths).spare = sp := ⟨_, rfl⟩
              have hfk : FromOk ps cuts ths last made ↔ (0 ≤ last ∧ last ≤ 64 * sm) ∧ m.Snd ∧ last + sp ≤ 64 * sm := by
               constructor
               · intro h
                 exact ⟨by rw [← hsm]; exact h.lasts, h.snd.sim HPL.out.symm, by rw [← hsm, ← hsp]; exact h.spare⟩
               · rintro ⟨h1, h2, h3⟩
                 exact ⟨HNEW.out, by rw [HMK.out, HK.out], fun i => by rw [HMK.out]; exact HGC.out i, fun i => by rw [HMK.out]; exact HGOOD.out i, HGA.out, by rw [hsm]; exact h1, h2.sim HPL.out, by rw [hsm, hsp]; exact h3⟩
              have hspb := (Gm.ofT ths).spare_bound
              rw [hsp] at hspb
              have hotl : (Gm.ofT ths).th.length = ths.length := by simp [Gm.ofT]
              rw [hotl] at hspb
              have htl := HTL.out
              rw [hsm] at hsb ⊢
              have hk16 := HK16.out
              have hw64 : IntKind.i64.wrap (64 * sm) = 64 * sm := IntWalk.i64_in _ (by omega)
              have hFW := HF0.out.trans HF5.out
              have HFW := hide hFW
              have HFK := hide hfk
              have HSB := hide hsb
              have HSPB := hide hspb
              have hok5 := HOK5.out
              have hsd := fun W' (f : Fr No wr W') => sound_g (hok5.no f) HMM.out.2.2.2.2.1 fun x hx => by
               have hpm : plE x ∈ m.pl := List.mem_map.2 ⟨x, hx, rfl⟩
               rw [HPL.out, ofT_pl] at hpm
               obtain ⟨y, hy, e⟩ := List.mem_map.1 hpm
               obtain ⟨i, hi⟩ := List.mem_iff_getElem?.1 hy
               have hf := (HGOOD.out i y hi).1
               have e2 : y.2.pl = x.2.2.pl := congrArg Prod.snd e
               have l1 := congrArg (fun z : TgV => z.vs.length) e2
               have l2 := congrArg (fun z : TgV => z.names.length) e2
               simp only [Tg.pl, List.length_map] at l1 l2
               exact ⟨by rw [← l1]; exact hf.vsmay.2.1, by rw [← l2]; exact hf.vsmay.2.2⟩
              have hsd' : ∀ W', Fr No wr W' → Calls Tryz.prog 182 #[.pointer (some ⟨m0.wb, 0, none⟩)] W' (SoundP m W0.heap.size W') := fun W' f => by
               have := hsd W' f
               rw [HMM.out.1] at this
               exact this
              have HSD := hide hsd'
              have hspw : m.Snd → ∀ F W', (m.wf F).Ok W0.heap.size W' → Calls Tryz.prog 183 #[.pointer (some ⟨m0.wb, 0, none⟩)] W' fun e w' => e = .returned (.int .i64 sp) ∧ Fr No W' w' := fun hs F W' hok => by
               have := spare_g hok fun x hx => by
                obtain ⟨n, hn⟩ := hs.hgt x hx
                obtain ⟨a, ha⟩ := hn.abl fun r y hy => ((hok5.st _ (Gm.get_mem hy)).inn.fit.set).1
                exact ⟨a, ha.wf⟩
               have e1 : (m.wf F).spare = sp := by rw [← hsp]; exact Gm.sim_spare HPL.out
               rw [e1] at this
               have e2 : (m.wf F).wb = m0.wb := HMM.out.1
               rw [e2] at this
               exact this
              have HSPW := hide hspw
              clear hfk hsb hspb hotl htl hk16 hFW hok5 hsd hsd' hspw hsm hsp
              go_upto_region 31 with (fail)
              go_cut [155] from 131 to 155 (fun t wx => (t = .bool true ∧ ¬ FromOk ps cuts ths last made ∧ Fr No W wx) ∨ (t = .bool false ∧ FromOk ps cuts ths last made ∧ ∃ F, (m.wf F).Ok W0.heap.size wx ∧ FacI m (fun i => ∃ x, m.th[i]? = some x) F ∧ Fr No W0 wx))
              case first => as_aux_lemma =>
               have g3 : ∀ q : ClN wr, q.w.cell? ⟨bx, 3, none⟩ = some (.int .i64 last) := fun q => (q.fr.cell hq5 fun h => h).trans h3
               have gq : ∀ q : ClN wr, bx < q.w.heap.size := fun q => Nat.lt_of_lt_of_le hq5 q.fr.size
               have hinst : Nonempty (ClN wr) := ⟨⟨wr, Fr.refl No wr⟩⟩
               by_cases hl0 : last < 0
               · have hd1 : decide (last < 0) = true := by simpa using hl0
                 have HL0 := hide hl0
                 clear hl0 h3
                 refine wp_region_quiet_cl (fun W' => ∃ q : ClN wr, W' = q.w) (by kernel_rfl) (by kernel_rfl) ⟨⟨_, (Fr.refl No wr).drew⟩, rfl⟩ ?_
                 repeat (go_big_quiet_step (fail))
                 refine wpQuiet_nil ?_
                 rintro w2 ⟨⟨_, f2⟩, rfl⟩
                 clear hinst g3 gq
                 go_wp2_with fail
                 go_meet
                 case rel => exact .inl ⟨rfl, fun h => by have := (HFK.out.1 h).1; have := HL0.out; omega, HFW.out.trans f2⟩
               have hd1 : decide (last < 0) = false := by simpa using hl0
               have HL0 := hide hl0
               clear hl0
               by_cases hl1 : 64 * sm < last
               · have hd2 : decide (last > 64 * sm) = true := by simpa using hl1
                 have HL1 := hide hl1
                 clear hl1 h3
                 refine wp_region_quiet_cl (fun W' => ∃ q : ClN wr, W' = q.w) (by kernel_rfl) (by kernel_rfl) ⟨⟨_, (Fr.refl No wr).drew⟩, rfl⟩ ?_
                 repeat (go_big_quiet_step (fail))
                 refine wpQuiet_nil ?_
                 rintro w2 ⟨⟨_, f2⟩, rfl⟩
                 clear hinst g3 gq
                 go_wp2_with fail
                 go_meet
                 case rel => exact .inl ⟨rfl, fun h => by have := (HFK.out.1 h).1; have := HL1.out; omega, HFW.out.trans f2⟩
               have hd2 : decide (last > 64 * sm) = false := by simpa using hl1
               have HL1 := hide hl1
               clear hl1 g3 gq hinst
               by_cases hsn : m.Snd
               · have hsd : ∀ W', Fr No wr W' → Calls Tryz.prog 182 #[.pointer (some ⟨m0.wb, 0, none⟩)] W' fun e w' => e = .returned (.bool true) ∧ ∃ F, (m.wf F).Ok W0.heap.size w' ∧ FacI m (fun i => ∃ x, m.th[i]? = some x) F ∧ Fr (fun i => i = m.F) W' w' := fun W' f => by
                  refine (HSD.out W' f).mono ?_
                  rintro e w' (⟨-, hn, -⟩ | ⟨rfl, -, F, a, b, c⟩)
                  · exact absurd hsn hn
                  · exact ⟨rfl, F, a, b, c⟩
                 have HSDT := hide hsd
                 have HSPT := hide (HSPW.out hsn)
                 have HSN := hide hsn
                 have hbF : bx ≠ m.F := by have := (HOK5.out.lt m.F (.inr (.inr (.inl rfl)))).1; have := HE.out.2.2.2.2; omega
                 have HBF := hide hbF
                 have hws : IntKind.i64.wrap (last + sp) = last + sp := by
                  have := HSB.out; have := HSPB.out; have := HL0.out; have := HL1.out; have := HK16.out; have := HTL.out
                  exact IntWalk.i64_in _ (by omega)
                 have HH3 := hide h3
                 have HHQ := hide hq5
                 clear hsd hsn hbF HSD HSPW
                 obtain ⟨bd, hd3⟩ : ∃ bd, decide (last + sp > 64 * sm) = bd := ⟨_, rfl⟩
                 have HBD := hide hd3
                 refine wp_region_held_drew (S := fun w' => w'.cell? ⟨bx, 3, none⟩ = some (.int .i64 last) ∧ bx < w'.heap.size) (by kernel_rfl) ?_ (fun hHeld => ?_)
                 · exact ⟨h3, hq5⟩
                 refine tk (i := 0) (v := ?_) (by simp only [lq1, lq3]; rfl) (by kernel_rfl) (by intro _ _ _ h; exact h) (by rfl) (by assumption) ?_ ?_; rotate_left
                 · (intro w hSw; (try dsimp only at hSw); go_simp; try (with_reducible rfl))
                 try simp only [Act.put, lq4, lq5, lq6]
                 refine tk (i := 1) (v := ?_) (by simp only [lq1, lq2, lq3]; rfl) (by kernel_rfl) (by intro _ _ _ h; exact h) (by rfl) (by assumption) ?_ ?_; rotate_left
                 · (intro w hSw; (try dsimp only at hSw); go_simp; try (with_reducible rfl))
                 try simp only [Act.put, lq4, lq5, lq6]
                 refine tk (i := 2) (v := ?_) (by simp only [lq1, lq2, lq3]; rfl) (by kernel_rfl) (by intro _ _ _ h; exact h) (by rfl) (by assumption) ?_ ?_; rotate_left
                 · (intro w hSw; (try dsimp only at hSw); go_simp; try (with_reducible rfl))
                 try simp only [Act.put, lq4, lq5, lq6]
                 refine tk (i := 3) (v := ?_) (by simp only [lq1, lq2, lq3]; rfl) (by kernel_rfl) (by intro _ _ _ h; exact h) (by rfl) (by assumption) ?_ ?_; rotate_left
                 · (intro w hSw; (try dsimp only at hSw); go_simp; try (with_reducible rfl))
                 try simp only [Act.put, lq4, lq5, lq6]
                 refine tk (i := 4) (v := ?_) (by simp only [lq1, lq2, lq3]; rfl) (by kernel_rfl) (by intro _ _ _ h; exact h) (by rfl) (by assumption) ?_ ?_; rotate_left
                 · (intro w hSw; (try dsimp only at hSw); go_simp; try (with_reducible rfl))
                 try simp only [Act.put, lq4, lq5, lq6]
                 refine tk (i := 5) (v := ?_) (by simp only [lq1, lq2, lq3]; rfl) (by kernel_rfl) (by intro _ _ _ h; exact h) (by rfl) (by assumption) ?_ ?_; rotate_left
                 · (intro w hSw; (try dsimp only at hSw); go_simp; try (with_reducible rfl))
                 try simp only [Act.put, lq4, lq5, lq6]
                 refine tk (i := 6) (v := ?_) (by simp only [lq1, lq2, lq3]; rfl) (by kernel_rfl) (by intro _ _ _ h; exact h) (by rfl) (by assumption) ?_ ?_; rotate_left
                 · (intro w hSw; (try dsimp only at hSw); go_simp; try (with_reducible rfl))
                 try simp only [Act.put, lq4, lq5, lq6]
                 refine tk (i := 7) (v := ?_) (by simp only [lq1, lq2, lq3]; rfl) (by kernel_rfl) (by intro _ _ _ h; exact h) (by rfl) (by assumption) ?_ ?_; rotate_left
                 · (intro w hSw; (try dsimp only at hSw); go_simp; try (with_reducible rfl))
                 try simp only [Act.put, lq4, lq5, lq6]
                 refine tk (i := 8) (v := ?_) (by simp only [lq1, lq2, lq3]; rfl) (by kernel_rfl) (by intro _ _ _ h; exact h) (by rfl) (by assumption) ?_ ?_; rotate_left
                 · (intro w hSw; (try dsimp only at hSw); go_simp; try (with_reducible rfl))
                 try simp only [Act.put, lq4, lq5, lq6]
                 refine tk (i := 9) (v := ?_) (by simp only [lq1, lq2, lq3]; rfl) (by kernel_rfl) (by intro _ _ _ h; exact h) (by rfl) (by assumption) ?_ ?_; rotate_left
                 · (intro w hSw; (try dsimp only at hSw); go_simp; try (with_reducible rfl))
                 try simp only [Act.put, lq4, lq5, lq6]
                 refine tk (i := 10) (v := ?_) (by simp only [lq1, lq2, lq3]; rfl) (by kernel_rfl) (by intro _ _ _ h; exact h) (by rfl) (by assumption) ?_ ?_; rotate_left
                 · (intro w hSw; (try dsimp only at hSw); go_simp; try (with_reducible rfl))
                 try simp only [Act.put, lq4, lq5, lq6]
                 refine tk (i := 11) (v := ?_) (by simp only [lq1, lq2, lq3]; rfl) (by kernel_rfl) (by intro _ _ _ h; exact h) (by rfl) (by assumption) ?_ ?_; rotate_left
                 · (intro w hSw; (try dsimp only at hSw); go_simp; try (with_reducible rfl))
                 try simp only [Act.put, lq4, lq5, lq6]
                 refine wpAnyH_ready (rs := [12]) (by kernel_rfl) (by simp) ?_
                 refine AllReadyH.cons rfl (fun K hK => ?_) AllReadyH.nil
                 · go_simp
                   (go_at_call 182; (refine (HSDT.out _ (Fr.refl No wr).drew).mono ?_); rintro e w6 ⟨rfl, FF, hokF, hfacF, f6⟩)
                   have HF6 := hide ((Fr.refl (fun i => i = m.F) wr).drew.trans f6)
                   have HOKF := hide hokF
                   have HFAC := hide hfacF
                   clear hokF hfacF f6
                   try go_simp
                   refine hK.out _ _ ?_ (fun hHeld2 => ?_)
                   · exact ⟨(HF6.out.cell HHQ.out HBF.out).trans HH3.out, Nat.lt_of_lt_of_le HHQ.out HF6.out.size⟩
                   clear hK K hHeld
                   have hHeld := hHeld2
                   clear hHeld2
                   try simp only [Act.put, lq4, lq5, lq6]
                   refine tk (i := 13) (v := ?_) (by simp only [lq1, lq2, lq3]; rfl) (by kernel_rfl) (by intro _ _ _ h; exact h) (by rfl) (by assumption) ?_ ?_; rotate_left
                   · (intro w hSw; (try dsimp only at hSw); go_simp; try (with_reducible rfl))
                   try simp only [Act.put, lq4, lq5, lq6]
                   refine tk (i := 14) (v := ?_) (by simp only [lq1, lq2, lq3]; rfl) (by kernel_rfl) (by intro _ _ _ h; exact h) (by rfl) (by assumption) ?_ ?_; rotate_left
                   · (intro w hSw; (try dsimp only at hSw); go_simp; try (with_reducible rfl))
                   try simp only [Act.put, lq4, lq5, lq6]
                   refine tk (i := 15) (v := ?_) (by simp only [lq1, lq2, lq3]; rfl) (by kernel_rfl) (by intro _ _ _ h; exact h) (by rfl) (by assumption) ?_ ?_; rotate_left
                   · (intro w hSw; (try dsimp only at hSw); go_simp; try (with_reducible rfl))
                   try simp only [Act.put, lq4, lq5, lq6]
                   refine tk (i := 16) (v := ?_) (by simp only [lq1, lq2, lq3]; rfl) (by kernel_rfl) (by intro _ _ _ h; exact h) (by rfl) (by assumption) ?_ ?_; rotate_left
                   · (intro w hSw; (try dsimp only at hSw); go_simp; try (with_reducible rfl))
                   try simp only [Act.put, lq4, lq5, lq6]
                   refine tk (i := 17) (v := ?_) (by simp only [lq1, lq2, lq3]; rfl) (by kernel_rfl) (by intro _ _ _ h; exact h) (by rfl) (by assumption) ?_ ?_; rotate_left
                   · (intro w hSw; (try dsimp only at hSw); go_simp; try (with_reducible rfl))
                   try simp only [Act.put, lq4, lq5, lq6]
                   refine tk (i := 18) (v := ?_) (by simp only [lq1, lq2, lq3]; rfl) (by kernel_rfl) (by intro _ _ _ h; exact h) (by rfl) (by assumption) ?_ ?_; rotate_left
                   · (intro w hSw; (try dsimp only at hSw); go_simp; try (with_reducible rfl))
                   try simp only [Act.put, lq4, lq5, lq6]
                   refine tk (i := 21) (v := ?_) (by simp only [lq1, lq2, lq3]; rfl) (by kernel_rfl) (by intro _ _ _ h; exact h) (by rfl) (by assumption) ?_ ?_; rotate_left
                   · (intro w hSw; (try dsimp only at hSw); go_simp; try (with_reducible rfl))
                   try simp only [Act.put, lq4, lq5, lq6]
                   refine tk (i := 22) (v := ?_) (by simp only [lq1, lq2, lq3]; rfl) (by kernel_rfl) (by intro _ _ _ h; exact h) (by rfl) (by assumption) ?_ ?_; rotate_left
                   · (intro w hSw; (try dsimp only at hSw); go_simp; try (with_reducible rfl))
                   try simp only [Act.put, lq4, lq5, lq6]
                   refine wpAnyH_ready (rs := [19]) (by kernel_rfl) (by simp) ?_
                   refine AllReadyH.cons rfl (fun K hK => ?_) AllReadyH.nil
                   · go_simp
                     (go_at_call 183; (refine (HSPT.out FF _ HOKF.out).mono ?_); rintro e w7 ⟨rfl, f7⟩)
                     have HF7 := hide f7
                     clear f7
                     try go_simp
                     refine hK.out _ _ ?_ (fun hHeld2 => ?_)
                     · exact ⟨(HF7.out.cell (Nat.lt_of_lt_of_le HHQ.out HF6.out.size) fun h => h).trans ((HF6.out.cell HHQ.out HBF.out).trans HH3.out), Nat.lt_of_lt_of_le (Nat.lt_of_lt_of_le HHQ.out HF6.out.size) HF7.out.size⟩
                     clear hK K hHeld
                     have hHeld := hHeld2
                     clear hHeld2
                     try simp only [Act.put, lq4, lq5, lq6]
                     refine tk (i := 20) (v := ?_) (by simp only [lq1, lq2, lq3]; rfl) (by kernel_rfl) (by intro _ _ _ h; exact h) (by rfl) (by assumption) ?_ ?_; rotate_left
                     · (intro w hSw; (try dsimp only at hSw); go_simp; try (with_reducible rfl))
                     try simp only [Act.put, lq4, lq5, lq6]
                     refine tk (i := 23) (v := ?_) (by simp only [lq1, lq2, lq3]; rfl) (by kernel_rfl) (by intro _ _ _ h; exact h) (by rfl) (by assumption) ?_ ?_; rotate_left
                     · (intro w hSw; (try dsimp only at hSw); go_simp; try (with_reducible rfl))
                     try simp only [Act.put, lq4, lq5, lq6]
                     refine tk (i := 24) (v := ?_) (by simp only [lq1, lq2, lq3]; rfl) (by kernel_rfl) (by intro _ _ _ h; exact h) (by rfl) (by assumption) ?_ ?_; rotate_left
                     · (intro w hSw; (try dsimp only at hSw); go_simp; try (with_reducible rfl))
                     try simp only [Act.put, lq4, lq5, lq6]
                     refine wpAnyH_done (by kernel_rfl) ?_ _
                     have hF60 : Fr No W0 w6 := HF5.out.trans' HF6.out fun i hi e => by
                      have e' : i = m.F := e
                      have := (HOK5.out.lt m.F (.inr (.inr (.inl rfl)))).1
                      omega
                     have HF60 := hide hF60
                     clear hHeld hF60
                     cases bd
                     · go_wp2_with fail
                       go_meet
                       case rel =>
                        have hle : ¬ last + sp > 64 * sm := by have := HBD.out; simpa using this
                        exact .inr ⟨rfl, HFK.out.2 ⟨by have := HL0.out; have := HL1.out; omega, HSN.out, by omega⟩, FF, HOKF.out.no HF7.out, HFAC.out, HF60.out.trans HF7.out⟩
                     · go_wp2_with fail
                       go_meet
                       case rel =>
                        have hgt : last + sp > 64 * sm := by have := HBD.out; simpa using this
                        exact .inl ⟨rfl, fun h => by have := (HFK.out.1 h).2.2; omega, HF0.out.trans (HF60.out.trans HF7.out)⟩
               · have hsd : ∀ W', Fr No wr W' → Calls Tryz.prog 182 #[.pointer (some ⟨m0.wb, 0, none⟩)] W' fun e w' => e = .returned (.bool false) ∧ Fr (fun i => i = m.F) W' w' := fun W' f => by
                  refine (HSD.out W' f).mono ?_
                  rintro e w' (⟨rfl, -, c⟩ | ⟨-, hn, -⟩)
                  · exact ⟨rfl, c⟩
                  · exact absurd hn hsn
                 have HSDT := hide hsd
                 have HSN := hide hsn
                 have hbF : bx ≠ m.F := by have := (HOK5.out.lt m.F (.inr (.inr (.inl rfl)))).1; have := HE.out.2.2.2.2; omega
                 have HBF := hide hbF
                 clear hsd hsn HSD HSPW hbF
                 have HH3 := hide h3
                 have HHQ := hide hq5
                 refine wp_region_held_drew (S := fun w' => w'.cell? ⟨bx, 3, none⟩ = some (.int .i64 last) ∧ bx < w'.heap.size) (by kernel_rfl) ?_ (fun hHeld => ?_)
                 · exact ⟨h3, hq5⟩
                 refine tk (i := 0) (v := ?_) (by simp only [lq1, lq3]; rfl) (by kernel_rfl) (by intro _ _ _ h; exact h) (by rfl) (by assumption) ?_ ?_; rotate_left
                 · (intro w hSw; (try dsimp only at hSw); go_simp; try (with_reducible rfl))
                 try simp only [Act.put, lq4, lq5, lq6]
                 refine tk (i := 1) (v := ?_) (by simp only [lq1, lq2, lq3]; rfl) (by kernel_rfl) (by intro _ _ _ h; exact h) (by rfl) (by assumption) ?_ ?_; rotate_left
                 · (intro w hSw; (try dsimp only at hSw); go_simp; try (with_reducible rfl))
                 try simp only [Act.put, lq4, lq5, lq6]
                 refine tk (i := 2) (v := ?_) (by simp only [lq1, lq2, lq3]; rfl) (by kernel_rfl) (by intro _ _ _ h; exact h) (by rfl) (by assumption) ?_ ?_; rotate_left
                 · (intro w hSw; (try dsimp only at hSw); go_simp; try (with_reducible rfl))
                 try simp only [Act.put, lq4, lq5, lq6]
                 refine tk (i := 3) (v := ?_) (by simp only [lq1, lq2, lq3]; rfl) (by kernel_rfl) (by intro _ _ _ h; exact h) (by rfl) (by assumption) ?_ ?_; rotate_left
                 · (intro w hSw; (try dsimp only at hSw); go_simp; try (with_reducible rfl))
                 try simp only [Act.put, lq4, lq5, lq6]
                 refine tk (i := 4) (v := ?_) (by simp only [lq1, lq2, lq3]; rfl) (by kernel_rfl) (by intro _ _ _ h; exact h) (by rfl) (by assumption) ?_ ?_; rotate_left
                 · (intro w hSw; (try dsimp only at hSw); go_simp; try (with_reducible rfl))
                 try simp only [Act.put, lq4, lq5, lq6]
                 refine tk (i := 5) (v := ?_) (by simp only [lq1, lq2, lq3]; rfl) (by kernel_rfl) (by intro _ _ _ h; exact h) (by rfl) (by assumption) ?_ ?_; rotate_left
                 · (intro w hSw; (try dsimp only at hSw); go_simp; try (with_reducible rfl))
                 try simp only [Act.put, lq4, lq5, lq6]
                 refine tk (i := 6) (v := ?_) (by simp only [lq1, lq2, lq3]; rfl) (by kernel_rfl) (by intro _ _ _ h; exact h) (by rfl) (by assumption) ?_ ?_; rotate_left
                 · (intro w hSw; (try dsimp only at hSw); go_simp; try (with_reducible rfl))
                 try simp only [Act.put, lq4, lq5, lq6]
                 refine tk (i := 7) (v := ?_) (by simp only [lq1, lq2, lq3]; rfl) (by kernel_rfl) (by intro _ _ _ h; exact h) (by rfl) (by assumption) ?_ ?_; rotate_left
                 · (intro w hSw; (try dsimp only at hSw); go_simp; try (with_reducible rfl))
                 try simp only [Act.put, lq4, lq5, lq6]
                 refine tk (i := 8) (v := ?_) (by simp only [lq1, lq2, lq3]; rfl) (by kernel_rfl) (by intro _ _ _ h; exact h) (by rfl) (by assumption) ?_ ?_; rotate_left
                 · (intro w hSw; (try dsimp only at hSw); go_simp; try (with_reducible rfl))
                 try simp only [Act.put, lq4, lq5, lq6]
                 refine tk (i := 9) (v := ?_) (by simp only [lq1, lq2, lq3]; rfl) (by kernel_rfl) (by intro _ _ _ h; exact h) (by rfl) (by assumption) ?_ ?_; rotate_left
                 · (intro w hSw; (try dsimp only at hSw); go_simp; try (with_reducible rfl))
                 try simp only [Act.put, lq4, lq5, lq6]
                 refine tk (i := 10) (v := ?_) (by simp only [lq1, lq2, lq3]; rfl) (by kernel_rfl) (by intro _ _ _ h; exact h) (by rfl) (by assumption) ?_ ?_; rotate_left
                 · (intro w hSw; (try dsimp only at hSw); go_simp; try (with_reducible rfl))
                 try simp only [Act.put, lq4, lq5, lq6]
                 refine tk (i := 11) (v := ?_) (by simp only [lq1, lq2, lq3]; rfl) (by kernel_rfl) (by intro _ _ _ h; exact h) (by rfl) (by assumption) ?_ ?_; rotate_left
                 · (intro w hSw; (try dsimp only at hSw); go_simp; try (with_reducible rfl))
                 try simp only [Act.put, lq4, lq5, lq6]
                 refine wpAnyH_ready (rs := [12]) (by kernel_rfl) (by simp) ?_
                 refine AllReadyH.cons rfl (fun K hK => ?_) AllReadyH.nil
                 · go_simp
                   (go_at_call 182; (refine (HSDT.out _ (Fr.refl No wr).drew).mono ?_); rintro e w6 ⟨rfl, f6⟩)
                   have HF6 := hide ((Fr.refl (fun i => i = m.F) wr).drew.trans f6)
                   clear f6
                   try go_simp
                   refine hK.out _ _ ?_ (fun hHeld2 => ?_)
                   · exact ⟨(HF6.out.cell HHQ.out HBF.out).trans HH3.out, Nat.lt_of_lt_of_le HHQ.out HF6.out.size⟩
                   clear hK K hHeld
                   have hHeld := hHeld2
                   clear hHeld2
                   try simp only [Act.put, lq4, lq5, lq6]
                   refine tk (i := 13) (v := ?_) (by simp only [lq1, lq2, lq3]; rfl) (by kernel_rfl) (by intro _ _ _ h; exact h) (by rfl) (by assumption) ?_ ?_; rotate_left
                   · (intro w hSw; (try dsimp only at hSw); go_simp; try (with_reducible rfl))
                   try simp only [Act.put, lq4, lq5, lq6]
                   refine tk (i := 14) (v := ?_) (by simp only [lq1, lq2, lq3]; rfl) (by kernel_rfl) (by intro _ _ _ h; exact h) (by rfl) (by assumption) ?_ ?_; rotate_left
                   · (intro w hSw; (try dsimp only at hSw); go_simp; try (with_reducible rfl))
                   try simp only [Act.put, lq4, lq5, lq6]
                   refine tk (i := 15) (v := ?_) (by simp only [lq1, lq2, lq3]; rfl) (by kernel_rfl) (by intro _ _ _ h; exact h) (by rfl) (by assumption) ?_ ?_; rotate_left
                   · (intro w hSw; (try dsimp only at hSw); go_simp; try (with_reducible rfl))
                   try simp only [Act.put, lq4, lq5, lq6]
                   refine wpAnyH_take (i := 16) (v := undef) (by simp only [lq1, lq2, lq3]; rfl) (by kernel_rfl) (by kernel_rfl) (by kernel_rfl) (by intro _ _ _ h; exact h) (Or.inr ⟨by rfl, rfl⟩) (by assumption) ?_
                   try simp only [Act.put, lq4, lq5, lq6]
                   refine wpAnyH_take (i := 17) (v := undef) (by simp only [lq1, lq2, lq3]; rfl) (by kernel_rfl) (by kernel_rfl) (by kernel_rfl) (by intro _ _ _ h; exact h) (Or.inr ⟨by rfl, rfl⟩) (by assumption) ?_
                   try simp only [Act.put, lq4, lq5, lq6]
                   refine wpAnyH_take (i := 18) (v := undef) (by simp only [lq1, lq2, lq3]; rfl) (by kernel_rfl) (by kernel_rfl) (by kernel_rfl) (by intro _ _ _ h; exact h) (Or.inr ⟨by rfl, rfl⟩) (by assumption) ?_
                   try simp only [Act.put, lq4, lq5, lq6]
                   refine wpAnyH_take (i := 19) (v := undef) (by simp only [lq1, lq2, lq3]; rfl) (by kernel_rfl) (by kernel_rfl) (by kernel_rfl) (by intro _ _ _ h; exact h) (Or.inr ⟨by rfl, rfl⟩) (by assumption) ?_
                   try simp only [Act.put, lq4, lq5, lq6]
                   refine wpAnyH_take (i := 20) (v := undef) (by simp only [lq1, lq2, lq3]; rfl) (by kernel_rfl) (by kernel_rfl) (by kernel_rfl) (by intro _ _ _ h; exact h) (Or.inr ⟨by rfl, rfl⟩) (by assumption) ?_
                   try simp only [Act.put, lq4, lq5, lq6]
                   refine wpAnyH_take (i := 21) (v := undef) (by simp only [lq1, lq2, lq3]; rfl) (by kernel_rfl) (by kernel_rfl) (by kernel_rfl) (by intro _ _ _ h; exact h) (Or.inr ⟨by rfl, rfl⟩) (by assumption) ?_
                   try simp only [Act.put, lq4, lq5, lq6]
                   refine wpAnyH_take (i := 22) (v := undef) (by simp only [lq1, lq2, lq3]; rfl) (by kernel_rfl) (by kernel_rfl) (by kernel_rfl) (by intro _ _ _ h; exact h) (Or.inr ⟨by rfl, rfl⟩) (by assumption) ?_
                   try simp only [Act.put, lq4, lq5, lq6]
                   refine wpAnyH_take (i := 23) (v := undef) (by simp only [lq1, lq2, lq3]; rfl) (by kernel_rfl) (by kernel_rfl) (by kernel_rfl) (by intro _ _ _ h; exact h) (Or.inr ⟨by rfl, rfl⟩) (by assumption) ?_
                   try simp only [Act.put, lq4, lq5, lq6]
                   refine tk (i := 24) (v := ?_) (by simp only [lq1, lq2, lq3]; rfl) (by kernel_rfl) (by intro _ _ _ h; exact h) (by rfl) (by assumption) ?_ ?_; rotate_left
                   · (intro w hSw; (try dsimp only at hSw); go_simp; try (with_reducible rfl))
                   try simp only [Act.put, lq4, lq5, lq6]
                   refine wpAnyH_done (by kernel_rfl) ?_ _
                   have hF60 : Fr No W0 w6 := HF5.out.trans' HF6.out fun i hi e => by
                    have e' : i = m.F := e
                    have := (HOK5.out.lt m.F (.inr (.inr (.inl rfl)))).1
                    omega
                   have HF60 := hide hF60
                   clear hHeld hF60
                   go_wp2_with fail
                   go_meet
                   case rel => exact .inl ⟨rfl, fun h => HSN.out (HFK.out.1 h).2.1, HF0.out.trans HF60.out⟩
              rcases hcut with ⟨rfl, hn, hf⟩ | ⟨rfl, hfok, F, hokF, hfac, hf⟩
              · have HN := hide hn
                have HF := hide hf
                clear hn hf h3 hq5
                go_wp2_with fail
                go_ret2
                exact .inl ⟨HN.out, rfl, HF.out⟩
              · have HFOK := hide hfok
                have HOKF := hide hokF
                have HFAC := hide hfac
                have HFCC := hide hf
                have HWB : Hid ((m.wf F).wb = m0.wb) := hide HMM.out.1
                have h3 := (hf.cell HE.out.2.2.2.2 fun h => h).trans HE.out.2.2.1
                have h4 := (hf.cell HE.out.2.2.2.2 fun h => h).trans HE.out.2.2.2.1
                have hq6 := Nat.lt_of_lt_of_le HE.out.2.2.2.2 hf.size
                have hwl0 : W0.heap.size ≤ m0.wb := by
                 have := hokF.lo0.1
                 rwa [HWB.out] at this
                have hbw : bx ≠ m0.wb := by have := HE.out.2.2.2.2; omega
                have HBW := hide hbw
                have HWL0 := hide hwl0
                have HWL : Hid (m0.wb < wc.heap.size) := hide (by
                 have := hokF.blk.lt
                 rwa [HWB.out] at this)
                have HSW := hide (Nat.le_refl wc.heap.size)
                have HS0 := hide hf.size
                have hkk : Blk wc.drew m0.wb 38 #[.slice m.P m.par.length m.pc, .slice m.C m.cut.length m.cc, .map (some m.M), .map (some m.F), .int .i64 m.last, .slice m.D m.made.length m.dc] := by
                 have := hokF.blk.drew
                 rw [HWB.out] at this
                 exact this
                have HK := hide hkk
                have hFW := HF0.out.trans hf
                have HCL : Hid (∀ W', Fr (fun i => i = m0.wb) wc W' → Calls Tryz.prog 149 #[.slice MA made.length mc] W' (CloneP 3 1 made.length (made.map fun (n : Int) => Value.int .i64 n) W')) := hide fun W' f => by
                 have hhw : hi ≤ W.heap.size := by have := HHI.out; have := HBX.out; omega
                 have hfx : Fr (fun i => i = m0.wb) W W' := hFW.no.trans f
                 have hin : Ints W' lo hi MA mc made := HM.out.fr hfx hhw fun i h0 h1 e => by
                  have e' : i = m0.wb := e
                  have := HWL0.out
                  have := HF0.out.size
                  omega
                 exact cloneInt MA made.length mc _ W' lo hi (ints_lies hin) (Nat.le_trans hhw hfx.size) (by have := HLM.out; omega)
                clear hfok hokF hfac hf hwl0 hbw hkk hFW hq5
                go_upto_region 33 with (fail)
                refine wp_region_held_drew (S := fun w' => w'.cell? ⟨bx, 3, none⟩ = some (.int .i64 last) ∧ w'.cell? ⟨bx, 4, none⟩ = some (.slice MA made.length mc) ∧ bx < w'.heap.size ∧ Fr (fun i => i = m0.wb) wc w') (by kernel_rfl) ?_ (fun hHeld => ?_)
                · exact ⟨h3, h4, hq6, (Fr.refl (fun i => i = m0.wb) wc).drew⟩
                refine tk (i := 0) (v := ?_) (by simp only [lq1, lq3]; rfl) (by kernel_rfl) (by intro _ _ _ h; exact h) (by rfl) (by assumption) ?_ ?_; rotate_left
                · (intro w hSw; (try dsimp only at hSw); go_simp; try (with_reducible rfl))
                try simp only [Act.put, lq4, lq5, lq6]
                refine tk (i := 1) (v := ?_) (by simp only [lq1, lq2, lq3]; rfl) (by kernel_rfl) (by intro _ _ _ h; exact h) (by rfl) (by assumption) ?_ ?_; rotate_left
                · (intro w hSw; (try dsimp only at hSw); go_simp; try (with_reducible rfl))
                try simp only [Act.put, lq4, lq5, lq6]
                refine tk (i := 2) (v := ?_) (by simp only [lq1, lq2, lq3]; rfl) (by kernel_rfl) (by intro _ _ _ h; exact h) (by rfl) (by assumption) ?_ ?_; rotate_left
                · (intro w hSw; (try dsimp only at hSw); go_simp; try (with_reducible rfl))
                try simp only [Act.put, lq4, lq5, lq6]
                refine tk (i := 3) (v := ?_) (by simp only [lq1, lq2, lq3]; rfl) (by kernel_rfl) (by intro _ _ _ h; exact h) (by rfl) (by assumption) ?_ ?_; rotate_left
                · (intro w hSw; (try dsimp only at hSw); go_simp; try (with_reducible rfl))
                try simp only [Act.put, lq4, lq5, lq6]
                refine tk (i := 4) (v := ?_) (by simp only [lq1, lq2, lq3]; rfl) (by kernel_rfl) (by intro _ _ _ h; exact h) (by rfl) (by assumption) ?_ ?_; rotate_left
                · (intro w hSw; (try dsimp only at hSw); go_simp; try (with_reducible rfl))
                try simp only [Act.put, lq4, lq5, lq6]
                refine tk (i := 5) (v := ?_) (by simp only [lq1, lq2, lq3]; rfl) (by kernel_rfl) (by intro _ _ _ h; exact h) (by rfl) (by assumption) ?_ ?_; rotate_left
                · (intro w hSw; (try dsimp only at hSw); go_simp; try (with_reducible rfl))
                try simp only [Act.put, lq4, lq5, lq6]
                refine wpAnyH_ready (rs := [6]) (by kernel_rfl) (by simp) ?_
                refine AllReadyH.cons rfl (fun K hK => ?_) AllReadyH.nil
                · go_simp
                  (go_at_call 149; (refine (HCL.out _ hHeld.2.2.2).mono ?_); rintro e w8 ⟨A8, c8, rfl, ho8, f8⟩)
                  have hfr8 : Fr (fun i => i = m0.wb) wc w8 := hHeld.2.2.2.trans f8.no
                  have HO8 := hide (owns_mono ho8 (Nat.le_trans HS0.out hHeld.2.2.2.size))
                  have HK6 : Hid (Blk w8 m0.wb 38 #[.slice m.P m.par.length m.pc, .slice m.C m.cut.length m.cc, .map (some m.M), .map (some m.F), .int .i64 m.last, .slice m.D m.made.length m.dc]) := hide (HK.out.fr f8 fun h => h)
                  have HB8 := hide (fun g (hg : (Value.slice A8 made.length c8).ownBlock = some g) => (owns_lt ho8 g hg).1)
                  have HZ8 := hide hHeld.2.2.2.size
                  have HF8 := hide hfr8
                  clear ho8 f8 hfr8
                  try go_simp
                  refine hK.out _ _ ?_ (fun hHeld2 => ?_)
                  · exact ⟨(HF8.out.cell hq6 HBW.out).trans h3, (HF8.out.cell hq6 HBW.out).trans h4, Nat.lt_of_lt_of_le hq6 HF8.out.size, HF8.out⟩
                  clear hK K hHeld
                  have hHeld := hHeld2
                  clear hHeld2
                  try simp only [Act.put, lq4, lq5, lq6]
                  refine tk (i := 7) (v := ?_) (by simp only [lq1, lq2, lq3]; rfl) (by kernel_rfl) (by intro _ _ _ h; exact h) (by rfl) (by assumption) ?_ ?_; rotate_left
                  · (intro w hSw; (try dsimp only at hSw); go_simp; try (with_reducible rfl))
                  try simp only [Act.put, lq4, lq5, lq6]
                  refine tk (i := 8) (v := ?_) (by simp only [lq1, lq2, lq3]; rfl) (by kernel_rfl) (by intro _ _ _ h; exact h) (by rfl) (by assumption) ?_ ?_; rotate_left
                  · (intro w hSw; (try dsimp only at hSw); go_simp; try (with_reducible rfl))
                  try simp only [Act.put, lq4, lq5, lq6]
                  refine wpAnyH_ready (rs := [9]) (by kernel_rfl) (by simp) ?_
                  refine AllReadyH.cons rfl (fun K hK => ?_) AllReadyH.nil
                  · go_simp
                    have s0 : w8.cell? ⟨m0.wb, 4, none⟩ = some (.int .i64 m.last) := HK6.out.cell 4
                    have s1 := HK6.out.frozen 4
                    have s2 := HK6.out.lt
                    go_simp
                    have hks := HK6.out.set_ 4 (.int .i64 last)
                    simp only [lq4, lq5, lq6] at hks
                    have HK69 : Hid (Blk (w8.setCell ⟨m0.wb, 4, none⟩ (.int .i64 last)) m0.wb 38 #[.slice m.P m.par.length m.pc, .slice m.C m.cut.length m.cc, .map (some m.M), .map (some m.F), .int .i64 last, .slice m.D m.made.length m.dc]) := hide hks
                    have HG69 : Hid (Fr (fun i => i = m0.wb) wc (w8.setCell ⟨m0.wb, 4, none⟩ (.int .i64 last))) := hide ((hHeld.2.2.2).set (fun _ => rfl) _)
                    clear s0 s1 s2 hks
                    refine hK.out _ _ ?_ (fun hHeld2 => ?_)
                    · exact ⟨(HG69.out.cell hq6 HBW.out).trans h3, (HG69.out.cell hq6 HBW.out).trans h4, Nat.lt_of_lt_of_le hq6 HG69.out.size, HG69.out⟩
                    clear hK K hHeld
                    have hHeld := hHeld2
                    clear hHeld2
                    try simp only [Act.put, lq4, lq5, lq6]
                    refine tk (i := 10) (v := ?_) (by simp only [lq1, lq2, lq3]; rfl) (by kernel_rfl) (by intro _ _ _ h; exact h) (by rfl) (by assumption) ?_ ?_; rotate_left
                    · (intro w hSw; (try dsimp only at hSw); go_simp; try (with_reducible rfl))
                    try simp only [Act.put, lq4, lq5, lq6]
                    refine tk (i := 11) (v := ?_) (by simp only [lq1, lq2, lq3]; rfl) (by kernel_rfl) (by intro _ _ _ h; exact h) (by rfl) (by assumption) ?_ ?_; rotate_left
                    · (intro w hSw; (try dsimp only at hSw); go_simp; try (with_reducible rfl))
                    try simp only [Act.put, lq4, lq5, lq6]
                    refine wpAnyH_ready (rs := [12]) (by kernel_rfl) (by simp) ?_
                    refine AllReadyH.cons rfl (fun K hK => ?_) AllReadyH.nil
                    · go_simp
                      have s0 : (w8.setCell ⟨m0.wb, 4, none⟩ (.int .i64 last)).cell? ⟨m0.wb, 5, none⟩ = some (.slice m.D m.made.length m.dc) := HK69.out.cell 5
                      have s1 := HK69.out.frozen 5
                      have s2 := HK69.out.lt
                      have s3 : w8.cell? ⟨m0.wb, 5, none⟩ = some (.slice m.D m.made.length m.dc) := HK6.out.cell 5
                      have s4 := HK6.out.frozen 5
                      have s5 := HK6.out.lt
                      go_simp
                      have hks := HK69.out.set_ 5 (.slice A8 made.length c8)
                      simp only [lq4, lq5, lq6] at hks
                      have HK6912 : Hid (Blk ((w8.setCell ⟨m0.wb, 4, none⟩ (.int .i64 last)).setCell ⟨m0.wb, 5, none⟩ (.slice A8 made.length c8)) m0.wb 38 #[.slice m.P m.par.length m.pc, .slice m.C m.cut.length m.cc, .map (some m.M), .map (some m.F), .int .i64 last, .slice A8 made.length c8]) := hide hks
                      have HG6912 : Hid (Fr (fun i => i = m0.wb) wc ((w8.setCell ⟨m0.wb, 4, none⟩ (.int .i64 last)).setCell ⟨m0.wb, 5, none⟩ (.slice A8 made.length c8))) := hide ((hHeld.2.2.2).set (fun _ => rfl) _)
                      clear s0 s1 s2 hks s3 s4 s5
                      refine hK.out _ _ ?_ (fun hHeld2 => ?_)
                      · exact ⟨(HG6912.out.cell hq6 HBW.out).trans h3, (HG6912.out.cell hq6 HBW.out).trans h4, Nat.lt_of_lt_of_le hq6 HG6912.out.size, HG6912.out⟩
                      clear hK K hHeld
                      have hHeld := hHeld2
                      clear hHeld2
                      try simp only [Act.put, lq4, lq5, lq6]
                      refine wpAnyH_done (by kernel_rfl) ?_ _
                      have hown : (((w8.setCell ⟨m0.wb, 4, none⟩ (.int .i64 last)).setCell ⟨m0.wb, 5, none⟩ (.slice A8 made.length c8))).ownsRow W0.heap.size 3 1 (.slice A8 made.length c8) made.length (made.map fun (n : Int) => Value.int .i64 n) := by
                       have hx : Fr (fun i => i = m0.wb) w8 (((w8.setCell ⟨m0.wb, 4, none⟩ (.int .i64 last)).setCell ⟨m0.wb, 5, none⟩ (.slice A8 made.length c8))) := by
                        exact ((Fr.refl (fun i => i = m0.wb) w8).set (fun _ => rfl) _).set (fun _ => rfl) _
                       refine owns_fr HO8.out hx fun g hg h => ?_
                       have h' : g = m0.wb := h
                       have := HB8.out g hg
                       have := HZ8.out
                       have := HWL.out
                       have := HSW.out
                       omega
                      have hend := gok_end (la := last) (D := A8) (dc := c8) (made := made) HOKF.out (W2 := ((w8.setCell ⟨m0.wb, 4, none⟩ (.int .i64 last)).setCell ⟨m0.wb, 5, none⟩ (.slice A8 made.length c8))) (by rw [HWB.out]; exact HG6912.out) hown (by show made.length = m.made.length; rw [HMM.out.2.2.2.1, HMK.out]; simp) (by rw [HWB.out]; exact HK6912.out)
                      have HEND := hide hend
                      have HFRE := hide (HG6912.out)
                      clear hHeld hown hend
                      go_wp2_with fail
                      go_ret2
                      refine .inr ⟨HFOK.out, { m.wf F with last := last, D := A8, dc := c8, made := made }, ?_, HEND.out.less (by have := HF0.out.size; have := HBX.out; omega), ⟨HPL.out, ⟨HFAC.out.mem, HFAC.out.nod⟩, HMM.out.2.1, ?_, rfl, rfl⟩, ?_⟩
                      · show _ = Ending.returned (.tuple #[.pointer (some ⟨m.wb, 0, none⟩), .int .i64 0])
                        rw [HMM.out.1]
                        rfl
                      · show m.cut = _
                        rw [HMM.out.2.2.1, HMK.out]
                      · refine HF0.out.trans (HFCC.out.trans' HFRE.out fun i hi e => ?_)
                        have e' : i = m0.wb := e
                        have := HWL0.out
                        omega
   · have hd : ((made.length : Int) != (k : Int)) = true := by simp; omega
     have HMK := hide hmk
     clear hmk
     go_upto_region 2 with (fail)
     refine wp_region_quiet_cl (fun W' => ∃ q : ClN w1, W' = q.w) (by kernel_rfl) (by kernel_rfl) ⟨⟨_, (Fr.refl No w1).drew⟩, rfl⟩ ?_
     repeat (go_big_quiet_step ((go_at_call 84; exact HS.out _)))
     refine wpQuiet_nil ?_
     rintro w2 ⟨⟨_, f2⟩, rfl⟩
     clear hinst g4 gq HS
     go_wp2_with fail
     go_ret2
     exact .inl ⟨fun h => HMK.out (by rw [h.sides, HK.out]), rfl, HF0.out.trans (HF1.out.trans f2)⟩
end Go.Proofs.YtlejelbefmkakaaGreat

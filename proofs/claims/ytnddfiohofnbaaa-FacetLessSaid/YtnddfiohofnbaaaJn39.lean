/- Texts joined: Hf6, Hf7, H0. -/
import Derived.Test.YtnddfiohofnbaaaJn31
import Derived.Test.YtnddfiohofnbaaaJn38
import Derived.Test.YtnddfiohofnbaaaRows
import Derived.ProofKit
import Derived.OpenShut
import Derived.ChangeOld
/- FacetForm: the law. -/
namespace Go.Proofs.Ytnddfiohofnbaaa
open Go.RowKit

set_option maxRecDepth 100000 in
set_option maxHeartbeats 16000000 in
theorem facetForm_any (PA : Option Addr) (pc : Nat) (ps : List Int) (CA : Option Addr) (cc : Nat) (cuts : List Int) (TA : Option Addr) (tc : Nat) (ths : List (Int × Tg)) (last : Int) (MA : Option Addr) (mc : Nat) (made : List Int) (r : Int) (a b : Nat) (A : Option Addr) (cap : Nat) (S : List Nat) (W : World)
    (hp : Ints W 0 W.heap.size PA pc ps) (hc : Ints W 0 W.heap.size CA cc cuts) (ht : EnRow W 0 W.heap.size TA tc ths) (hm : Ints W 0 W.heap.size MA mc made) (hla : -9223372036854775808 ≤ last ∧ last ≤ 9223372036854775807) (ha : a < 256) (hb : b < 256) (hA : RowA W A S) (hS : ∀ x ∈ S, x < 256) :
    Calls Try.prog 8 #[.agg #[.slice PA ps.length pc, .slice CA cuts.length cc, .slice TA ths.length tc, .int .i64 last, .slice MA made.length mc], .int .i64 r, .int .u8 (a : Int), .int .u8 (b : Int), .slice A S.length cap] W fun e w' => e = .returned (.bool true) ∧ Fr No W w' := by
  have hf0 := (Fr.refl No W).alloc (.cells #[.slice PA ps.length pc, .slice CA cuts.length cc, .slice TA ths.length tc, .int .i64 last, .slice MA made.length mc] 57)
  have hb0 := Blk.new W 57 #[.slice PA ps.length pc, .slice CA cuts.length cc, .slice TA ths.length tc, .int .i64 last, .slice MA made.length mc]
  have hR := read_w PA pc ps CA cc cuts TA tc ths last MA mc made (W.alloc (.cells #[.slice PA ps.length pc, .slice CA cuts.length cc, .slice TA ths.length tc, .int .i64 last, .slice MA made.length mc] 57)) 0 W.heap.size (hp.noI hf0 (Nat.le_refl _)) (hc.noI hf0 (Nat.le_refl _)) (ht.no hf0 (Nat.le_refl _)) (hm.noI hf0 (Nat.le_refl _)) hla hf0.size
  have HR := hide hR
  have HF0 := hide hf0
  have HA := hide hA
  have HS := hide hS
  have HAW := hide awake11
  obtain ⟨d0, d1, d2, d3, d4⟩ : (W.alloc (.cells #[.slice PA ps.length pc, .slice CA cuts.length cc, .slice TA ths.length tc, .int .i64 last, .slice MA made.length mc] 57)).cell? ⟨W.heap.size, 0, none⟩ = some (.slice PA ps.length pc) ∧ (W.alloc (.cells #[.slice PA ps.length pc, .slice CA cuts.length cc, .slice TA ths.length tc, .int .i64 last, .slice MA made.length mc] 57)).cell? ⟨W.heap.size, 1, none⟩ = some (.slice CA cuts.length cc) ∧ (W.alloc (.cells #[.slice PA ps.length pc, .slice CA cuts.length cc, .slice TA ths.length tc, .int .i64 last, .slice MA made.length mc] 57)).cell? ⟨W.heap.size, 2, none⟩ = some (.slice TA ths.length tc) ∧ (W.alloc (.cells #[.slice PA ps.length pc, .slice CA cuts.length cc, .slice TA ths.length tc, .int .i64 last, .slice MA made.length mc] 57)).cell? ⟨W.heap.size, 3, none⟩ = some (.int .i64 last) ∧ (W.alloc (.cells #[.slice PA ps.length pc, .slice CA cuts.length cc, .slice TA ths.length tc, .int .i64 last, .slice MA made.length mc] 57)).cell? ⟨W.heap.size, 4, none⟩ = some (.slice MA made.length mc) := ⟨hb0.cell 0, hb0.cell 1, hb0.cell 2, hb0.cell 3, hb0.cell 4⟩
  have dq := hb0.lt
  clear hf0 hb0 hR hp hc ht hm hla hA hS
  go_enter Try.func8, Try.ntmps8
  go_wp2_with fail
  generalize World.alloc W _ = W0 at *
  refine HR.out.mono ?_
  rintro e w1 (⟨rfl, f1⟩ | ⟨m, rfl, hfw, f1⟩)
  · have HF1 := hide (HF0.out.trans f1)
    clear f1 d0 d1 d2 d3 d4 dq HR
    go_wp2_with fail
    refine (HAW.out w1).mono ?_
    rintro e w2 ⟨rfl, f2⟩
    have HF2 := hide (HF1.out.trans f2)
    clear f2
    go_wp2
    go_ret
    exact ⟨rfl, HF2.out⟩
  have hfx : FX W0 m.wb m 0 w1 := ⟨hfw, rfl, f1⟩
  have HFX := hide hfx
  clear d0 d1 d2 d3 d4 dq HR hfw f1 hfx
  have hnil : ((Value.pointer (some ⟨m.wb, 0, none⟩)) = .pointer none) = False := by simp
  obtain ⟨wb, hwb⟩ : ∃ wb, m.wb = wb := ⟨_, rfl⟩
  rw [hwb] at HFX ⊢
  clear hwb hnil
  by_cases hl : 60 < S.length
  · have e60 : decide ((60 : Int) < (S.length : Int)) = true := by simp; omega
    clear hl
    go_wp2_with fail
    refine (HAW.out w1).mono ?_
    rintro e w2 ⟨rfl, f2⟩
    have HF2 := hide (HF0.out.trans (HFX.out.fr.trans f2))
    clear f2
    go_wp2
    go_ret
    exact ⟨rfl, HF2.out⟩
  have e60 : decide ((60 : Int) < (S.length : Int)) = false := by simp; omega
  have HL := hide hl
  clear hl
  by_cases hgood : a < 64 ∧ b < 64 ∧ m.get r ≠ none
  · obtain ⟨ha64, hb64, hgr⟩ := hgood
    obtain ⟨x, hx⟩ := Option.ne_none_iff_exists'.1 hgr
    obtain ⟨C, hC⟩ := HFX.out.fw.fs.abl r x hx
    obtain ⟨R, hR⟩ : ∃ R, m.root r = R := ⟨_, rfl⟩
    have hir : Is1 m r R C := ⟨⟨x, hx⟩, hR, hC⟩
    have hC64 := hC.lt
    have ea : decide ((63 : Int) < (a : Int)) = false := by simp; omega
    have eb : decide ((63 : Int) < (b : Int)) = false := by simp; omega
    have HIR := hide hir
    have HA64 := hide ha64
    have HB64 := hide hb64
    have HC64 := hide hC64
    have eab : bits .and .u8 (a : Int) (b : Int) = ((a &&& b : Nat) : Int) := u8_and_nat a b (by omega) (by omega)
    have eca : bits .and .u8 (C : Int) (a : Int) = ((C &&& a : Nat) : Int) := u8_and_nat C a (by omega) (by omega)
    have ecb : bits .and .u8 (C : Int) (b : Int) = ((C &&& b : Nat) : Int) := u8_and_nat C b (by omega) (by omega)
    clear hgr hx hC hR hir hC64 ha64 hb64
    have HC2 := hide (Narrow_x HFX.out (by omega) HIR.out HA64.out)
    go_wp2_with fail
    refine HC2.out.mono ?_
    rintro e w2 ⟨p, m2, rfl, x2, fx2, ip⟩
    have HX2 := hide x2
    have HFX2 := hide fx2
    have HIP := hide ip
    clear x2 fx2 ip HC2
    have HC3 := hide (Narrow_x HFX2.out (by omega) (HIR.out.ext HX2.out) HB64.out)
    go_wp2_with fail
    refine HC3.out.mono ?_
    rintro e w3 ⟨q, m3, rfl, x3, fx3, iq⟩
    have HX3 := hide (HX2.out.trans x3)
    have HFX3 := hide fx3
    have HIP3 := hide (HIP.out.ext x3)
    have HIQ := hide iq
    clear x3 fx3 iq HC3 HIP HX2 HFX2
    have hI3 := Is_x HFX3.out r
    obtain ⟨y3, hy3⟩ := (HIR.out.ext HX3.out).is
    rw [hy3] at hI3
    have HI3 := hide hI3
    clear hI3 hy3
    go_wp2_with fail
    refine HI3.out.mono ?_
    rintro e w' ⟨rfl, rfl⟩
    clear HI3
    have hpc : Is1 m3 p R (C &&& a) := by rw [Nat.and_comm]; exact HIP3.out
    have hqc : Is1 m3 q R (C &&& b) := by rw [Nat.and_comm]; exact HIQ.out
    have HPC := hide hpc
    have HQC := hide hqc
    clear hpc hqc
    have HA1 := hide (Able_x HFX3.out HPC.out)
    go_wp2_with fail
    refine HA1.out.mono ?_
    rintro e w4 ⟨rfl, fx4⟩
    have HFX4 := hide fx4
    clear fx4 HA1
    have HA2 := hide (Able_x HFX4.out (HIR.out.ext HX3.out))
    go_wp2_with fail
    refine HA2.out.mono ?_
    rintro e w5 ⟨rfl, fx5⟩
    have HFX5 := hide fx5
    clear fx5 HA2
    have HA3 := hide (Able_x HFX5.out HQC.out)
    go_wp2_with fail
    refine HA3.out.mono ?_
    rintro e w6 ⟨rfl, fx6⟩
    have HFX6 := hide fx6
    clear fx6 HA3
    have HA4 := hide (Able_x HFX6.out (HIR.out.ext HX3.out))
    go_wp2_with fail
    refine HA4.out.mono ?_
    rintro e w7 ⟨rfl, fx7⟩
    have HFX7 := hide fx7
    clear fx7 HA4 HFX6 HFX5 HFX4 HFX3
    have HC8 := hide (Narrow_x HFX7.out (by omega) HIP3.out HB64.out)
    go_wp2_with fail
    refine HC8.out.mono ?_
    rintro e w8 ⟨ab, m8, rfl, x8, fx8, is8⟩
    have HX8 := hide x8
    have HFX8 := hide fx8
    have HI8 := hide is8
    clear x8 fx8 is8 HC8
    have HC9 := hide (Narrow_x HFX8.out (by omega) (HIQ.out.ext HX8.out) HA64.out)
    go_wp2_with fail
    refine HC9.out.mono ?_
    rintro e w9 ⟨ba, m9, rfl, x9, fx9, is9⟩
    have HX9 := hide x9
    have HFX9 := hide fx9
    have HI9 := hide is9
    clear x9 fx9 is9 HC9
    have HC10 := hide (Narrow_x HFX9.out (by omega) ((HIR.out.ext HX3.out).ext (HX8.out.trans HX9.out)) (s := a &&& b) (and_lt HA64.out))
    go_wp2_with fail
    refine HC10.out.mono ?_
    rintro e w10 ⟨bo, m10, rfl, x10, fx10, is10⟩
    have HX10 := hide x10
    have HFX10 := hide fx10
    have HI10 := hide is10
    clear x10 fx10 is10 HC10
    have hfa := (Fr.refl No w10).alloc (.cells #[.int .u8 (a : Int), .int .u8 (b : Int)] 52)
    have hbs := Blk.new w10 52 #[.int .u8 (a : Int), .int .u8 (b : Int)]
    have hrow : RowA (w10.alloc (.cells #[.int .u8 (a : Int), .int .u8 (b : Int)] 52)) (some ⟨w10.heap.size, 0, none⟩) [a, b] := fun j hj => by
      have : j = 0 ∨ j = 1 := by simp at hj; omega
      rcases this with rfl | rfl
      · exact ⟨_, _, rfl, hbs.lt, hbs.cell 0⟩
      · exact ⟨_, _, rfl, hbs.lt, hbs.cell 1⟩
    have HC11 := hide (Stack_x (cap := 2) (HFX10.out.no hfa) (by omega) ((HIR.out.ext HX3.out).ext ((HX8.out.trans HX9.out).trans HX10.out)) hrow (fun x hx => by
      simp only [List.mem_cons, List.not_mem_nil, or_false] at hx
      rcases hx with rfl | rfl
      · exact HA64.out
      · exact HB64.out) (by simp))
    clear hfa hbs hrow
    go_wp2_with fail
    refine HC11.out.mono ?_
    rintro e w11 ⟨st, m11, rfl, x11, fx11, is11⟩
    have HX11 := hide x11
    have HFX11 := hide fx11
    have HI11 := hide is11
    clear x11 fx11 is11 HC11
    have HC12 := hide (Meet_x HFX11.out (by omega) (HIP3.out.ext (((HX8.out.trans HX9.out).trans HX10.out).trans HX11.out)) (HIQ.out.ext (((HX8.out.trans HX9.out).trans HX10.out).trans HX11.out)))
    go_wp2_with fail
    refine HC12.out.mono ?_
    rintro e w12 ⟨me, m12, rfl, x12, fx12, is12⟩
    have HX12 := hide x12
    have HFX12 := hide fx12
    have HI12 := hide is12
    clear x12 fx12 is12 HC12
    have HC13 := hide (Meet_x HFX12.out (by omega) (HIQ.out.ext ((((HX8.out.trans HX9.out).trans HX10.out).trans HX11.out).trans HX12.out)) (HIP3.out.ext ((((HX8.out.trans HX9.out).trans HX10.out).trans HX11.out).trans HX12.out)))
    go_wp2_with fail
    refine HC13.out.mono ?_
    rintro e w13 ⟨te, m13, rfl, x13, fx13, is13⟩
    have HX13 := hide x13
    have HFX13 := hide fx13
    have HI13 := hide is13
    clear x13 fx13 is13 HC13
    have HA5 := hide (Able_x HFX13.out ((HIR.out.ext HX3.out).ext (((((HX8.out.trans HX9.out).trans HX10.out).trans HX11.out).trans HX12.out).trans HX13.out)))
    go_wp2_with fail
    refine HA5.out.mono ?_
    rintro e w13b ⟨rfl, fx13⟩
    have HFX13b := hide fx13
    clear fx13 HA5
    have HC14 := hide (Narrow_x HFX13b.out (by omega) ((HIR.out.ext HX3.out).ext (((((HX8.out.trans HX9.out).trans HX10.out).trans HX11.out).trans HX12.out).trans HX13.out)) HC64.out)
    go_wp2_with fail
    refine HC14.out.mono ?_
    rintro e w14 ⟨se, m14, rfl, x14, fx14, is14⟩
    have HX14 := hide x14
    have HFX14 := hide fx14
    have HI14 := hide is14
    clear x14 fx14 is14 HC14
    -- all are one
    have hab := HI8.out.ext (((((HX9.out.trans HX10.out).trans HX11.out).trans HX12.out).trans HX13.out).trans HX14.out)
    have hba := HI9.out.ext ((((HX10.out.trans HX11.out).trans HX12.out).trans HX13.out).trans HX14.out)
    have hbo := HI10.out.ext (((HX11.out.trans HX12.out).trans HX13.out).trans HX14.out)
    have hst := HI11.out.ext ((HX12.out.trans HX13.out).trans HX14.out)
    have hme := HI12.out.ext (HX13.out.trans HX14.out)
    have hte := HI13.out.ext HX14.out
    have hse := HI14.out
    have hXR := HX3.out.trans ((((((HX8.out.trans HX9.out).trans HX10.out).trans HX11.out).trans HX12.out).trans HX13.out).trans HX14.out)
    have hrr := HIR.out.ext hXR
    have v1 : b &&& (a &&& C) = a &&& (b &&& C) := by rw [← Nat.and_assoc, ← Nat.and_assoc, Nat.and_comm b a]
    have v2 : (a &&& b) &&& C = a &&& (b &&& C) := Nat.and_assoc _ _ _
    have v3 : allS [a, b] &&& C = a &&& (b &&& C) := by
      show (63 &&& a &&& b) &&& C = _
      rw [and63 HA64.out, v2]
    have v4 : (b &&& C) &&& (a &&& C) = a &&& (b &&& C) := by
      rw [Nat.and_comm a C, ← Nat.and_assoc, Nat.and_assoc b C C, Nat.and_self, Nat.and_comm (b &&& C) a]
    have v5 : (a &&& C) &&& (b &&& C) = a &&& (b &&& C) := by
      rw [Nat.and_assoc, ← Nat.and_assoc C b C, Nat.and_comm C b, Nat.and_assoc b C C, Nat.and_self]
    rw [v1] at hab
    rw [v2] at hbo
    rw [v3] at hst
    rw [v4] at hme
    rw [v5] at hte
    rw [Nat.and_self] at hse
    obtain rfl := hab.one HFX14.out hba
    obtain rfl := hab.one HFX14.out hbo
    obtain rfl := hab.one HFX14.out hst
    obtain rfl := hab.one HFX14.out hme
    obtain rfl := hab.one HFX14.out hte
    obtain rfl := hrr.one HFX14.out hse
    have HRR := hide hrr
    have HL60 := hide (show S.length ≤ 60 by have := HL.out; omega)
    clear hab hba hbo hst hme hte hse hXR hrr v1 v2 v3 v4 v5 HI8 HI9 HI10 HI11 HI12 HI13 HI14 HX8 HX9 HX10 HX11 HX12 HX13 HX14 HX3 HIP3 HIQ HIR HFX7 HFX8 HFX9 HFX10 HFX11 HFX12 HFX13 HPC HQC eab eca ecb
    as_aux_lemma =>
      go_wp2_with fail
      go_loopw [28, 29, 30] (fun v u i wr => ∃ (j : Nat) (at_ : Int) (m' : Gm), j ≤ S.length ∧ v = .int .u8 (allS (S.take j) : Int) ∧ u = .int .i64 at_ ∧ i = .int .i64 j ∧ FX W0 wb m' (9 + j) wr ∧ Is1 m' at_ R (allS (S.take j) &&& C) ∧ Is1 m' r R C ∧ (∀ x ∈ S.take j, x < 64)) (fun _ _ i _ => S.length - (intOf i).toNat)
      case atStart =>
        refine ⟨0, r, m14, Nat.zero_le _, rfl, rfl, rfl, HFX14.out, ?_, HRR.out, by simp⟩
        have : allS (S.take 0) &&& C = C := by rw [List.take_zero]; exact and63 HC64.out
        rw [this]
        exact HRR.out
      case round =>
        obtain ⟨j, at_, m', hj, rfl, rfl, rfl, fx, iat, irr, hall⟩ := hrel
        have hl60 := HL60.out
        have HFXJ := hide fx
        have HIAT := hide iat
        have HIRR := hide irr
        have HALL := hide hall
        have hal := allS_lt (S.take j)
        by_cases hlt : j < S.length
        · have hWW := HF0.out.trans fx.fr
          obtain ⟨b', o, rfl, hb1, x0⟩ := (HA.out.no hWW) j hlt
          have hx := HS.out _ (List.getElem_mem hlt)
          have hst := allS_step hlt
          have hmem : S.take (j + 1) = S.take j ++ [S[j]] := by rw [List.take_add_one, List.getElem?_eq_getElem hlt]; rfl
          have HMEM := hide hmem
          generalize S[j] = u at *
          generalize hA1 : allS (S.take j) = A1 at *
          have HST := hide hst
          have HLT := hide hlt
          clear hWW hmem fx iat irr hall hst hA1
          by_cases hu : 64 ≤ u
          · have eu : decide (63 < u) = true := by simp; omega
            have eu2 : decide ((63 : Int) < (u : Int)) = true := by simp; omega
            clear hu
            go_wp2_with fail
            refine (HAW.out wr).mono ?_
            rintro e w2 ⟨rfl, f2⟩
            have HF2 := hide (HF0.out.trans (HFXJ.out.fr.trans f2))
            clear f2
            go_wp2
            go_ret
            exact ⟨rfl, HF2.out⟩
          have eu : decide (63 < u) = false := by simp; omega
          have eu2 : decide ((63 : Int) < (u : Int)) = false := by simp; omega
          have hu64 : u < 64 := by omega
          have HU := hide hu64
          have e1 : bits .and .u8 (A1 : Int) (u : Int) = ((A1 &&& u : Nat) : Int) := u8_and_nat _ _ (by omega) (by omega)
          have HCN := hide (Narrow_x HFXJ.out (by omega) HIAT.out hu64)
          clear hu hu64 hx hal
          go_wp2_with fail
          refine HCN.out.mono ?_
          rintro e w2 ⟨at2, m2, rfl, x2, fx2, is2⟩
          have HX2 := hide x2
          have HFX2 := hide fx2
          have HI2 := hide is2
          clear x2 fx2 is2 HCN
          go_wp2_with fail
          go_roundw
          case rel =>
            refine ⟨j + 1, at2, m2, HLT.out, by rw [HST.out], rfl, by go_num, HFX2.out, ?_, HIRR.out.ext HX2.out, fun x hx => ?_⟩
            · have := HI2.out
              have e2 : u &&& (A1 &&& C) = allS (S.take (j + 1)) &&& C := by rw [HST.out, Nat.and_comm A1 u, Nat.and_assoc]
              rwa [e2] at this
            · rw [HMEM.out] at hx
              rcases List.mem_append.1 hx with hx | hx
              · exact HALL.out x hx
              · simp only [List.mem_singleton] at hx
                rw [hx]
                exact HU.out
          case measure =>
            have := HLT.out
            simp [intOf] <;> omega
        · obtain rfl : S.length = j := by omega
          rw [List.take_length] at *
          have hWW := HF0.out.trans fx.fr
          have hrow := HA.out.no hWW
          have HC1 := hide (Stack_x (cap := cap) fx (by omega) irr hrow hall (by omega))
          have HALT := hide hal
          generalize hAA : allS S = AA at *
          clear hWW hrow fx iat irr hall hlt hj hal hAA
          obtain ⟨w20, rfl⟩ : ∃ w20 : World, w20 = wr := ⟨_, rfl⟩
          go_wp2_with fail
          refine HC1.out.mono ?_
          rintro e w21 ⟨s21, m21, rfl, x21, fx21, is21⟩
          have HX21 := hide x21
          have HFX21 := hide fx21
          have HI21 := hide is21
          clear x21 fx21 is21 HC1
          have HC2 := hide (Narrow_x HFX21.out (by have := HL60.out; omega) (HIRR.out.ext HX21.out) HALT.out)
          go_wp2_with fail
          refine HC2.out.mono ?_
          rintro e w22 ⟨t22, m22, rfl, x22, fx22, is22⟩
          have HX22 := hide x22
          have HFX22 := hide fx22
          have HI22 := hide is22
          clear x22 fx22 is22 HC2
          have HC3 := hide (Find_x HFX22.out ((HIRR.out.ext HX21.out).ext HX22.out) HALT.out HI22.out)
          have hs1 := (HI21.out.ext HX22.out).one HFX22.out HI22.out
          have hs2 := ((HIAT.out.ext HX21.out).ext HX22.out).one HFX22.out HI22.out
          subst hs1 hs2
          go_wp2_with fail
          refine HC3.out.mono ?_
          rintro e w23 ⟨rfl, fx23⟩
          have HFX23 := hide fx23
          clear fx23 HC3
          go_wp2_with fail
          refine (HAW.out w23).mono ?_
          rintro e w24 ⟨rfl, f24⟩
          have HF24 := hide (HF0.out.trans (HFX23.out.fr.trans f24))
          clear f24
          go_wp2
          go_ret
          exact ⟨rfl, HF24.out⟩
  · have HB := hide hgood
    have HO1 := hide (Narrow_o HFX.out (by omega) r a ha)
    have HO2 : Hid (∀ (m' : Gm) (n : Nat) (w' : World), n ≤ 1 → FX W0 wb m' n w' → Calls Try.prog 29 #[.pointer (some ⟨wb, 0, none⟩), .int .i64 r, .int .u8 (b : Int)] w' (OutX W0 wb m' n r b)) := hide fun m' n w' hn h => Narrow_o h (by omega) r b hb
    have HIS : Hid (∀ (m' : Gm) (n : Nat) (w' : World), FX W0 wb m' n w' → Calls Try.prog 27 #[.pointer (some ⟨wb, 0, none⟩), .int .i64 r] w' fun e w'' => e = .returned (.bool (m'.get r).isSome) ∧ w'' = w') := hide fun m' n w' h => Is_x h r
    have hawk : ∀ (m' : Gm) (n : Nat) (w' : World), FX W0 wb m' n w' → Calls Try.prog 28 #[] w' fun e w'' => e = .returned (.bool true) ∧ Fr No W w'' := fun m' n w' h => by
      refine (HAW.out w').mono ?_
      rintro e w'' ⟨rfl, f⟩
      exact ⟨rfl, HF0.out.trans (h.fr.trans f)⟩
    have HAWK := hide hawk
    clear hgood hawk HAW
    by_cases ha64 : 64 ≤ a
    · have ea : decide ((63 : Int) < (a : Int)) = true := by simp; omega
      clear ha64
      go_wp2_with fail
      refine HO1.out.mono ?_
      rintro e w2 (⟨-, he, fx⟩ | ⟨⟨h64, -⟩, -⟩)
      · have HFX2 := hide fx
        clear fx
        rcases he with rfl | rfl
        all_goals
          go_wp2_with fail
          refine (HO2.out m 0 w2 (by omega) HFX2.out).mono ?_
          rintro e w3 (⟨-, he3, fx3⟩ | ⟨-, q3, m3, rfl, -, fx3⟩)
          · have HFX3 := hide fx3
            clear fx3
            rcases he3 with rfl | rfl
            all_goals
              go_wp2_with fail
              refine (HAWK.out _ _ _ HFX3.out).mono ?_
              rintro e w4 ⟨rfl, f4⟩
              have HF4 := hide f4
              clear f4
              go_wp2
              go_ret
              exact ⟨rfl, HF4.out⟩
          · have HFX3 := hide fx3
            clear fx3
            go_wp2_with fail
            refine (HAWK.out _ _ _ HFX3.out).mono ?_
            rintro e w4 ⟨rfl, f4⟩
            have HF4 := hide f4
            clear f4
            go_wp2
            go_ret
            exact ⟨rfl, HF4.out⟩
      · exact absurd h64 (by have := of_decide_eq_true ea; omega)
    have ea : decide ((63 : Int) < (a : Int)) = false := by simp; omega
    have ha63 : a < 64 := by omega
    have HA64 := hide ha63
    clear ha64 ha63
    by_cases hb64 : 64 ≤ b
    · have eb : decide ((63 : Int) < (b : Int)) = true := by simp; omega
      have HB64 := hide hb64
      clear hb64
      go_wp2_with fail
      refine HO1.out.mono ?_
      have hfin : ∀ (m2 : Gm) (n2 : Nat) (w2 : World), n2 ≤ 1 → FX W0 wb m2 n2 w2 → Calls Try.prog 29 #[.pointer (some ⟨wb, 0, none⟩), .int .i64 r, .int .u8 (b : Int)] w2 fun e w3 => (e = .returned (.tuple #[.int .i64 0, .int .i64 2]) ∨ e = .returned (.tuple #[.int .i64 0, .int .i64 5])) ∧ FX W0 wb m2 n2 w3 := fun m2 n2 w2 hn h => by
        refine (HO2.out m2 n2 w2 hn h).mono ?_
        rintro e w3 (⟨-, he3, fx3⟩ | ⟨⟨h64, -⟩, -⟩)
        · exact ⟨he3, fx3⟩
        · exact absurd h64 (by have := HB64.out; omega)
      have HFI := hide hfin
      clear hfin HO2
      rintro e w2 (⟨-, he, fx⟩ | ⟨-, q2, m2, rfl, -, fx⟩)
      · have HFX2 := hide fx
        clear fx
        rcases he with rfl | rfl
        all_goals
          go_wp2_with fail
          refine (HFI.out m 0 w2 (by omega) HFX2.out).mono ?_
          rintro e w3 ⟨he3, fx3⟩
          have HFX3 := hide fx3
          clear fx3
          rcases he3 with rfl | rfl
          all_goals
            go_wp2_with fail
            refine (HAWK.out _ _ _ HFX3.out).mono ?_
            rintro e w4 ⟨rfl, f4⟩
            have HF4 := hide f4
            clear f4
            go_wp2
            go_ret
            exact ⟨rfl, HF4.out⟩
      · have HFX2 := hide fx
        clear fx
        go_wp2_with fail
        refine (HFI.out m2 1 w2 (by omega) HFX2.out).mono ?_
        rintro e w3 ⟨he3, fx3⟩
        have HFX3 := hide fx3
        clear fx3
        rcases he3 with rfl | rfl
        all_goals
          go_wp2_with fail
          refine (HAWK.out _ _ _ HFX3.out).mono ?_
          rintro e w4 ⟨rfl, f4⟩
          have HF4 := hide f4
          clear f4
          go_wp2
          go_ret
          exact ⟨rfl, HF4.out⟩
    have eb : decide ((63 : Int) < (b : Int)) = false := by simp; omega
    have hb63 : b < 64 := by omega
    have hnone : m.get r = none := Classical.byContradiction fun h => HB.out ⟨HA64.out, hb63, h⟩
    have HN := hide hnone
    clear hb64 hb63 hnone
    go_wp2_with fail
    refine HO1.out.mono ?_
    rintro e w2 (⟨-, he, fx⟩ | ⟨⟨-, hno⟩, -⟩)
    · have HFX2 := hide fx
      clear fx
      rcases he with rfl | rfl
      all_goals
        go_wp2_with fail
        refine (HO2.out m 0 w2 (by omega) HFX2.out).mono ?_
        rintro e w3 (⟨-, he3, fx3⟩ | ⟨⟨-, hno⟩, -⟩)
        · have HFX3 := hide fx3
          have hI3 := HIS.out m 0 w3 fx3
          rw [HN.out] at hI3
          have HI3 := hide hI3
          clear fx3 hI3
          rcases he3 with rfl | rfl
          all_goals
            go_wp2_with fail
            refine HI3.out.mono ?_
            rintro e w' ⟨rfl, rfl⟩
            go_wp2_with fail
            refine (HAWK.out _ _ _ HFX3.out).mono ?_
            rintro e w4 ⟨rfl, f4⟩
            have HF4 := hide f4
            clear f4
            go_wp2
            go_ret
            exact ⟨rfl, HF4.out⟩
        · exact absurd HN.out hno
    · exact absurd HN.out hno

end Go.Proofs.Ytnddfiohofnbaaa

/- What comes in: a world of plain data; sets of abilities. -/
namespace Go.Proofs.Ytnddfiohofnbaaa
open Go.Joins Go.ChangeShapes Go.WideShapes Go.RowKit Go.Deep

/-- A row of trees of whole numbers. -/
theorem open_nums {t : TypeId} (hf : flat t = [.int .i64]) {l : List G} (h : ∀ x ∈ l, Ty t x) : ∃ ns : List Int, ns.length = l.length ∧ ∀ (A : Option Addr) (cap : Nat) (w : World) (lo hi : Nat), l.length * 8 ≤ 140737488351232 → l.length ≤ cap → (G.row A l).In w lo hi → Ints w lo hi A cap ns := by
  have hone : ∀ i, i < l.length → ∃ n : Int, ∃ x, l[i]? = some x ∧ x = .mk [.int .i64 n] [] ∧ -9223372036854775808 ≤ n ∧ n ≤ 9223372036854775807 := fun i hi => by
    have hm := List.getElem_mem hi
    obtain ⟨n, h1, h2⟩ := ty_num hf (h _ hm)
    exact ⟨n, l[i], List.getElem?_eq_getElem hi, h1, wf_i64 h2⟩
  obtain ⟨ns, hns, hq⟩ := choose_list l.length hone
  refine ⟨ns, hns, fun A cap w lo hi hl hc hin => ?_⟩
  obtain ⟨h1, h2⟩ := G.row_in.1 hin
  refine ⟨by rw [hns]; exact hl, by rw [hns]; exact hc, fun hne => ?_, fun x hx => ?_⟩
  · obtain ⟨b, o, rfl, hb0, hb1, hcc⟩ := h1 (by rintro rfl; simp at hns; exact hne hns)
    refine ⟨b, o, rfl, hb0, hb1, fun i x hx => ?_⟩
    obtain ⟨y, hy, e, -⟩ := hq i x hx
    have := hcc i y hy 0 (.int .i64 x) (by rw [e]; rfl)
    rw [e] at this
    simpa [G.c] using this
  · obtain ⟨i, hi', rfl⟩ := List.mem_iff_getElem.1 hx
    obtain ⟨y, hy, -, h3⟩ := hq i _ (List.getElem?_eq_getElem hi')
    exact h3

/-- A row of entries. -/
theorem open_entries {l : List G} (h : ∀ x ∈ l, Ty 129 x) : ∃ ths : List (Int × Tg), ths.length = l.length ∧ ∀ (A : Option Addr) (cap : Nat) (w : World) (lo hi : Nat), l.length * 200 ≤ 140737488351232 → l.length ≤ cap → (G.row A l).In w lo hi → EnRow w lo hi A cap ths := by
  have hone : ∀ i, i < l.length → ∃ z : Int × Tg, ∃ x, l[i]? = some x ∧ x.c = .int .i64 z.1 :: z.2.cells ∧ (-9223372036854775808 ≤ z.1 ∧ z.1 ≤ 9223372036854775807) ∧ ∀ (w : World) (lo hi : Nat), x.In w lo hi → z.2.In w lo hi := fun i hi => by
    have hm := List.getElem_mem hi
    obtain ⟨r, x, h1, h2, h3, h4⟩ := ty_entry (h _ hm)
    exact ⟨(r, x), l[i], List.getElem?_eq_getElem hi, h1, ⟨h2, h3⟩, h4⟩
  obtain ⟨ts, hts, hq⟩ := choose_list l.length hone
  refine ⟨ts, hts, fun A cap w lo hi hl hc hin => ?_⟩
  obtain ⟨h1, h2⟩ := G.row_in.1 hin
  refine ⟨by rw [hts]; exact hc, by rw [hts]; exact hl, fun hne => ?_, fun x hx => ?_⟩
  · obtain ⟨b, o, rfl, hb0, hb1, hcc⟩ := h1 (by rintro rfl; simp at hts; exact hne hts)
    refine ⟨b, o, rfl, hb0, hb1, fun i x hx j u hu => ?_⟩
    obtain ⟨y, hy, e, -, -⟩ := hq i x hx
    have := hcc i y hy j u (by rw [e]; exact hu)
    rw [e] at this
    have hlen : (Value.int .i64 x.1 :: x.2.cells).length = 17 := by
      obtain ⟨kind, home, ⟨k, n, s, A, cap, l, r⟩, VA, vc, vs, n1, lost, ofr, byr, set, full, CA, cc, code, NA, nc, names⟩ := x.2
      rfl
    rwa [hlen] at this
  · obtain ⟨i, hi', rfl⟩ := List.mem_iff_getElem.1 hx
    obtain ⟨y, hy, -, h3, h4⟩ := hq i _ (List.getElem?_eq_getElem hi')
    exact ⟨h3, h4 w lo hi (h2 y (List.mem_of_getElem? hy))⟩

section
variable {H : Type} {enc : TypeId × Value → H}

/-- A world of plain data, as it comes in. -/
def WorldIn (W : World) (v : Value) (PA : Option Addr) (pc : Nat) (ps : List Int) (CA : Option Addr) (cc : Nat) (cuts : List Int) (TA : Option Addr) (tc : Nat) (ths : List (Int × Tg)) (last : Int) (MA : Option Addr) (mc : Nat) (made : List Int) : Prop :=
  v = .agg #[.slice PA ps.length pc, .slice CA cuts.length cc, .slice TA ths.length tc, .int .i64 last, .slice MA made.length mc] ∧
  Ints W 0 W.heap.size PA pc ps ∧ Ints W 0 W.heap.size CA cc cuts ∧ EnRow W 0 W.heap.size TA tc ths ∧ Ints W 0 W.heap.size MA mc made ∧ -9223372036854775808 ≤ last ∧ last ≤ 9223372036854775807

set_option maxRecDepth 100000 in
theorem open_world {W : World} {b0 : Nat} {v : Value} {d : DataW H} {p : List MemPlace} (hv : Value.okWide Try.prog W .any b0 57 v) (h : DataW.Trod enc Try.prog W 0 (fun _ => true) true 57 v d p) (hw : ∀ m ∈ d.weights Try.prog 57, m ≤ reachBytes) :
    ∃ PA pc ps CA cc cuts TA tc ths last MA mc made, WorldIn W v PA pc ps CA cc cuts TA tc ths last MA mc made := by
  obtain ⟨cs, rfl, hsz⟩ := okWide_struct Try.underlying57 hv
  obtain ⟨fuel, hf⟩ := h
  have ho := open_flat (S := Met) met_flat met_closed met_cells fuel 6 57 (flat 57) (by
    rw [flat_world]
    intro e he
    simp [sls] at he
    rcases he with rfl | rfl | rfl | rfl <;> simp [Met]) flat_world_of _ _ hf hw
  obtain ⟨g, hg, hty, hin⟩ := Opn.tree ho
  obtain ⟨cs⟩ := cs
  have hg' : cs = g.c := hg
  obtain ⟨c, s⟩ := g
  have h0 := Ty.fits hty
  rw [flat_world] at h0
  obtain ⟨PA, pl, pc, c, s, rfl, rfl, w1, w2, h0⟩ := h0.inv_sl
  obtain ⟨CA, cl, cc, c, s, rfl, rfl, w3, w4, h0⟩ := h0.inv_sl
  obtain ⟨TA, tl, tc, c, s, rfl, rfl, w5, w6, h0⟩ := h0.inv_sl
  obtain ⟨last, c, rfl, w7, h0⟩ := h0.inv_int
  obtain ⟨MA, ml, mc, c, s, rfl, rfl, w8, w9, h0⟩ := h0.inv_sl
  obtain ⟨rfl, rfl⟩ := h0.inv_nil
  have hs : sls (flat 57) = [27, 3, 129, 3] := by rw [flat_world]; rfl
  have k0 := Ty.kids hty 0 _ (by rw [hs]; rfl) rfl
  have k1 := Ty.kids hty 1 _ (by rw [hs]; rfl) rfl
  have k2 := Ty.kids hty 2 _ (by rw [hs]; rfl) rfl
  have k3 := Ty.kids hty 3 _ (by rw [hs]; rfl) rfl
  obtain ⟨ps, hps, ip⟩ := open_nums flat_side k0
  obtain ⟨cuts, hcs, ic⟩ := open_nums flat_int k1
  obtain ⟨ths, hts, it⟩ := open_entries k2
  obtain ⟨made, hms, im⟩ := open_nums flat_int k3
  have hr := G.in_rows.1 hin
  refine ⟨PA, pc, ps, CA, cc, cuts, TA, tc, ths, last, MA, mc, made, ?_, ip PA pc W _ _ w2 w1 (hr _ _ (by simp)), ic CA cc W _ _ w4 w3 (hr _ _ (by simp)), it TA tc W _ _ w6 w5 (hr _ _ (by simp)), im MA mc W _ _ w9 w8 (hr _ _ (by simp)), wf_i64 w7⟩
  rw [hg', hps, hcs, hts, hms]
  rfl

set_option maxRecDepth 100000 in
/-- Sets of abilities, as they come in. -/
theorem open_sets {W : World} {b0 : Nat} {v : Value} {d : DataW H} {p : List MemPlace} (hv : Value.okWide Try.prog W .any b0 58 v) (h : DataW.Trod enc Try.prog W 0 (fun _ => true) true 58 v d p) (hw : ∀ m ∈ d.weights Try.prog 58, m ≤ reachBytes) :
    ∃ (A : Option Addr) (cap : Nat) (S : List Nat), v = .slice A S.length cap ∧ (∀ j (hj : j < S.length), ∃ g o, A = some ⟨g, o, none⟩ ∧ g < W.heap.size ∧ W.cell? ⟨g, o + j, none⟩ = some (.int .u8 (S[j] : Int))) ∧ ∀ x ∈ S, x < 256 := by
  obtain ⟨A, len, cap, rfl⟩ := okWide_slice Try.underlying58 hv
  obtain ⟨fuel, hf⟩ := h
  have ho := open_flat (S := Met) met_flat met_closed met_cells fuel 6 58 [.sl 52 1] (by
    intro e he
    simp [sls] at he
    subst he
    simp [Met]) (by kernel_rfl) _ _ hf hw
  obtain ⟨subs, hfit, hk, hin⟩ := ho
  obtain ⟨A', l, cap', c, s, e, rfl, w1, w2, h0⟩ := hfit.inv_sl
  have e' : [Value.slice A len cap] = .slice A' l.length cap' :: c := e
  simp only [List.cons.injEq, Value.slice.injEq] at e'
  obtain ⟨⟨rfl, rfl, rfl⟩, rfl⟩ := e'
  obtain ⟨-, rfl⟩ := h0.inv_nil
  have hty : ∀ x ∈ l, Ty 52 x := fun x hx => hk 0 _ A l x rfl rfl hx
  have hone : ∀ i, i < l.length → ∃ n : Nat, ∃ x, l[i]? = some x ∧ x = .mk [.int .u8 (n : Int)] [] ∧ n < 256 := fun i hi => by
    have hm := List.getElem_mem hi
    obtain ⟨n, h1, h2⟩ := ty_num flat_able (hty _ hm)
    have h3 := wf_u8 h2
    obtain ⟨k, rfl⟩ : ∃ k : Nat, n = (k : Int) := ⟨n.toNat, by omega⟩
    exact ⟨k, l[i], List.getElem?_eq_getElem hi, h1, by omega⟩
  obtain ⟨S, hS, hq⟩ := choose_list l.length hone
  obtain ⟨h1, -⟩ := hin A l (by simp)
  refine ⟨A, cap, S, by rw [hS], fun j hj => ?_, fun x hx => ?_⟩
  · have hjl : j < l.length := by omega
    obtain ⟨b, o, rfl, -, hb1, hcc⟩ := h1 (by rintro rfl; simp at hjl)
    obtain ⟨y, hy, e, -⟩ := hq j _ (List.getElem?_eq_getElem hj)
    have := hcc j y hy 0 (.int .u8 (S[j] : Int)) (by rw [e]; rfl)
    rw [e] at this
    exact ⟨b, o, rfl, hb1, by simpa [G.c] using this⟩
  · obtain ⟨i, hi', rfl⟩ := List.mem_iff_getElem.1 hx
    obtain ⟨y, hy, -, h3⟩ := hq i _ (List.getElem?_eq_getElem hi')
    exact h3
end

end Go.Proofs.Ytnddfiohofnbaaa

/- Two closed facts for the lifts. -/
namespace Go.Proofs.Ytnddfiohofnbaaa
theorem knob0 : ownKnob Try.prog.godebug = none := by kernel_rfl
theorem laidOut0 : laidOutB Try.prog = true := by kernel_rfl
end Go.Proofs.Ytnddfiohofnbaaa

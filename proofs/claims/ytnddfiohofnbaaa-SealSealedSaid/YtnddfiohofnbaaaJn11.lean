/- Texts joined: Wo48. -/
import Derived.Test.YtnddfiohofnbaaaJn10
/- posternlaw09.SealSealed: whatever is sealed by whichever of six pairs is opened by its own pair's opener alone. -/
namespace Go.Proofs.Ytnddfiohofnbaaa
open Go.RowKit

set_option maxRecDepth 100000 in
set_option maxHeartbeats 16000000 in
theorem sealed_w (A0 : Option Addr) (c0 : Nat) (l0 : List Int) (A : Option Addr) (c : Nat) (l : List T) (W : World) (h0 : Byts W A0 c0 l0) (hl : (T.row A c l).In W 0 W.heap.size) :
    Calls Try.prog 6 #[.slice A0 l0.length c0, .slice A l.length c] W fun e w' => e = .returned (.bool true) ∧ Fr No W w' := by
  have HP := hide (pairsOf_w W)
  have hlen := (T.in_mk.1 hl).1.len1
  have H0 := hide h0
  have HL := hide hl
  obtain ⟨i1, hi1, hz1, hz11, hz12⟩ := info_parts side28_info
  obtain ⟨i2, hi2, hz2, hz21, hz22⟩ := info_parts int3_info
  obtain ⟨i3, hi3, hz3, hz31, hz32⟩ := info_parts value_info
  have hl0 := h0.1
  clear h0 hl
  go_enter Try.func6, Try.ntmps6
  go_wp2_with fail
  refine HP.out.mono ?_
  rintro e w1 ⟨wb, As, cs, Ao, co, m0, rfl, hpl⟩
  have HST := hide (SL.begin hpl)
  clear hpl HP
  go_upto_block 0 with (fail)
  go_cut [8, 9, 10] from 29 to 93 (S1R W wb As cs Ao co)
  case first => as_aux_lemma =>
    go_wp2_with fail
    go_loopw [8, 9, 10, 11] (fun b p h i wr => ∃ (j : Nat) (A1 : Option Addr) (c1 : Nat) (A2 : Option Addr) (c2 : Nat) (A3 : Option Addr) (c3 : Nat) (bx : List (Nat × T)) (m : Wm), j ≤ 60 ∧ i = .int .i64 (j : Int) ∧ b = .slice A1 bx.length c1 ∧ p = .slice A2 bx.length c2 ∧ h = .slice A3 bx.length c3 ∧ bx.length ≤ j ∧ SL W wb bx.length As cs Ao co A1 c1 A2 c2 A3 c3 bx m wr) (fun _ _ _ i _ => 60 - (intOf i).toNat)
    case atStart => exact ⟨0, none, 0, none, 0, none, 0, [], m0, by omega, rfl, rfl, rfl, rfl, Nat.le_refl _, HST.out⟩
    case round =>
      obtain ⟨j, A1, c1, A2, c2, A3, c3, bx, m, hj, rfl, rfl, rfl, rfl, hbj, inv⟩ := hrel
      have HINV := hide inv
      clear HST
      by_cases hlt0 : j < l0.length
      case neg =>
        have e1 : decide ((j : Int) < (l0.length : Int)) = false := by simp; omega
        clear inv
        go_wp2
        go_meet
        case rel => exact ⟨A1, c1, A2, c2, A3, c3, bx, m, rfl, rfl, rfl, by omega, HINV.out⟩
      by_cases hlt1 : j < l.length
      case neg =>
        have e1 : decide ((j : Int) < (l.length : Int)) = false := by simp; omega
        clear inv
        go_wp2
        go_meet
        case rel => exact ⟨A1, c1, A2, c2, A3, c3, bx, m, rfl, rfl, rfl, by omega, HINV.out⟩
      by_cases hlt2 : j < 60
      case neg =>
        have e1 : decide ((j : Int) < 60) = false := by simp; omega
        clear inv
        go_wp2
        go_meet
        case rel => exact ⟨A1, c1, A2, c2, A3, c3, bx, m, rfl, rfl, rfl, by omega, HINV.out⟩
      have hn60 : bx.length < 60 := by omega
      obtain ⟨b0, o0, rfl, hb0, hc0, hx0, hx1⟩ := (H0.out.no inv.fr).2.2 j _ (List.getElem?_eq_getElem hlt0)
      generalize l0[j] = x at *
      obtain ⟨b, o, k1, n1, s1, A1', cap1, l1, r1, rfl, hbb0, hbb1, hx, hin, e0, e1, e2, e3, e4⟩ := T.elem (HL.out.no inv.fr (Nat.le_refl _)) hlt1
      have hszW := inv.fr.size
      have hbq : b < wr.heap.size := by omega
      have HG := hide (fun w' (f : Fr No wr w') => Great_any _ w' 0 W.heap.size (hin.no f hszW) (Nat.le_trans hszW f.size))
      have HWI := hide (fun w' (f : Fr No wr w') => within_any (12 + (bx.length : Int)) (by omega) (by omega) _ w' 0 W.heap.size (hin.no f hszW) (Nat.le_trans hszW f.size))
      rw [T.val_mk] at HG HWI
      have HCE := hide (fun w' (f : Fr No wr w') => And.intro ((f.cell (o := o + j * 5) (s := none) hbq fun h => h).trans e0) (And.intro ((f.cell (o := o + j * 5 + 1) (s := none) hbq fun h => h).trans e1) (And.intro ((f.cell (o := o + j * 5 + 2) (s := none) hbq fun h => h).trans e2) (And.intro ((f.cell (o := o + j * 5 + 3) (s := none) hbq fun h => h).trans e3) ((f.cell (o := o + j * 5 + 4) (s := none) hbq fun h => h).trans e4)))))
      clear hx hin inv
      obtain ⟨kk, hkk, hkk6⟩ : ∃ kk : Nat, x % 6 = (kk : Int) ∧ kk < 6 := ⟨(x % 6).toNat, by omega, by omega⟩
      go_wp2_with fail
      simp only [hkk]
      refine (HG.out wr (Fr.refl No wr)).mono ?_
      rintro e w2 ⟨⟨q, rfl⟩, f2⟩
      have HF2 := hide f2
      clear f2 e0 e1 e2 e3 e4 hbb0 hbb1 hc0 hx0 hx1 hkk HG
      cases q with
      | true =>
        go_wp2_with fail
        go_roundw
        case rel => exact ⟨j + 1, A1, c1, A2, c2, A3, c3, bx, m, hlt2, by go_num, rfl, rfl, rfl, by omega, HINV.out.no HF2.out⟩
        case measure => simp [intOf]; omega
      | false =>
        obtain ⟨x0, x1, x2, x3, x4⟩ := HCE.out w2 HF2.out
        have hbq2 : b < w2.heap.size := Nat.lt_of_lt_of_le hbq HF2.out.size
        go_wp2_with fail
        refine (HWI.out w2 HF2.out).mono ?_
        rintro e w3 ⟨⟨k9, n9, s9, A9, cap9, l9, r9⟩, rfl, hv, hsh, f3⟩
        rw [T.val_mk]
        have h3 := (HINV.out.no HF2.out).no f3
        have hw2 : W.heap.size ≤ w2.heap.size := (HINV.out.no HF2.out).fr.size
        obtain ⟨gs, cs', hAs, hgs0, hgs1⟩ := h3.s.form (by omega)
        simp only [Value.slice.injEq, true_and] at hAs
        obtain ⟨rfl, rfl⟩ := hAs
        clear x0 x1 x2 x3 x4 hbq2 HWI HCE
        go_upto_region 13 with (fail)
        have h4 := h3.no ((Fr.refl No w3).alloc (.cells #[.int .u8 k9, .int .i64 n9, .string s9, .slice A9 l9.length cap9, .int .i64 r9] 37))
        have hb4 := Blk.new w3 37 #[.int .u8 k9, .int .i64 n9, .string s9, .slice A9 l9.length cap9, .int .i64 r9]
        have hsh4 := (hsh.no ((Fr.refl No w3).alloc (.cells #[.int .u8 k9, .int .i64 n9, .string s9, .slice A9 l9.length cap9, .int .i64 r9] 37)))
        have hs34 : w3.heap.size < (w3.alloc (.cells #[.int .u8 k9, .int .i64 n9, .string s9, .slice A9 l9.length cap9, .int .i64 r9] 37)).heap.size := by simp
        have hfar : ∀ b ∈ (T.mk k9 n9 s9 A9 cap9 l9 r9).blocks, (¬ m.B b ∧ (Value.slice A3 bx.length c3).ownBlock ≠ some b) ∧ w2.heap.size ≤ b ∧ b < w3.heap.size := fun b hb => by
          have hbi := T.In.blocks _ hsh.inn b hb
          exact ⟨⟨fun hB => by have := ((HINV.out.no HF2.out).ok.lt _ hB).2; omega, fun ho => by have := (owns_lt (HINV.out.no HF2.out).r3 _ ho).2; omega⟩, hbi⟩
        have hfarb : ¬ m.B w3.heap.size ∧ (∀ g, (Value.slice A3 bx.length c3).ownBlock = some g → g < w3.heap.size) := ⟨fun hB => by have := (h3.ok.lt _ hB).2; omega, fun g hg => (owns_lt h3.r3 g hg).2⟩
        generalize hgb : w3.heap.size = gb at *
        generalize hW4 : World.alloc w3 _ = w4 at *
        have hcs := World.ownsRow.cells h4.s (g := gs) rfl kk _ (sNums_at hkk6)
        rw [add_at, Nat.zero_add] at hcs
        obtain ⟨x0, x1, x2, x3, x4, xf⟩ := hb4.cells5
        have hbq4 := hb4.lt
        have hgs4 := (owns_lt h4.s gs rfl).2
        have HSE := hide (fun w' (f : Fr No w4 w') => sl_seal (h4.no f) hn60 hkk6 _ (T.mk k9 n9 s9 A9 cap9 l9 r9) hv ((hsh4.no f).more (Nat.le_refl _) (by have := f.size; omega)) hw2 fun b hb => (hfar b hb).1)
        rw [T.val_mk] at HSE
        have H4 := hide h4
        have HB4 := hide hb4
        have HSH4 := hide hsh4
        have HFAR := hide hfar
        have HFARB := hide hfarb
        have HV := hide hv
        clear hfar hfarb h3 h4 hb4 hsh hsh4 f3 hv hgs0 hgs1
        have hkkI : (kk : Int) < 6 := by omega
        cases hm : (T.mk k9 n9 s9 A9 cap9 l9 r9).v.may with
        | false =>
          have HSN := hide (fun w' (f : Fr No w4 w') => (HSE.out w' f).mono fun e w2 hp => hp.2 hm)
          clear HSE
          go_cut [14, 15] from 29 to 93 (fun b e wr => b = .int .i64 0 ∧ e = .int .i64 2 ∧ Fr No w4 wr)
          case first => as_aux_lemma =>
            go_region_with (go_at_call 13; refine (HSN.out _ (Fr.refl No w4).drew).mono ?_; rintro e w6 ⟨rfl, f6⟩; have HF6 := hide ((Fr.refl No w4).drew.trans f6); clear f6)
            all_goals
              go_wp2_with fail
              go_meet
              case rel => exact ⟨rfl, rfl, HF6.out⟩
          case rest => as_aux_lemma =>
            obtain ⟨rfl, rfl, f6⟩ := hcut
            generalize wc = w6 at *
            have hb6 := HB4.out.fr f6 fun h => h
            clear x0 x1 x2 x3 x4 xf hcs hkkI hbq4 hgs4
            obtain ⟨x0, x1, x2, x3, x4, xf⟩ := hb6.cells5
            have hbq6 := hb6.lt
            have HF6 := hide f6
            have hsh6 := HSH4.out.no HF6.out
            have hsz6 := HF6.out.size
            have hmn := fun w' (f : Fr No w6 w') => lmay_no (T.mk k9 n9 s9 A9 cap9 l9 r9) w' 0 gb ((hsh6.inn.no f (by omega)).more (Nat.zero_le _) (Nat.le_refl _)) (by have := f.size; omega) hm
            rw [T.val_mk] at hmn
            have HMN := hide hmn
            clear hb6 hsh6 f6 hmn hm
            go_wp2_with fail
            refine (HMN.out w6 (Fr.refl No w6)).mono ?_
            rintro e w7 ⟨rfl, f7⟩
            have HF7 := hide (HF6.out.trans f7)
            clear f7 x0 x1 x2 x3 x4 xf HMN
            go_wp2_with fail
            go_roundw
            case rel => exact ⟨j + 1, A1, c1, A2, c2, A3, c3, bx, m, hlt2, by go_num, rfl, rfl, rfl, by omega, H4.out.no HF7.out⟩
            case measure => simp [intOf]; omega
        | true =>
          have HSY := hide (fun w' (f : Fr No w4 w') => (HSE.out w' f).mono fun e w2 hp => hp.1 hm)
          clear HSE
          go_cut [14, 15] from 29 to 93 (fun b e wr => b = .int .i64 (13 + (bx.length : Int)) ∧ e = .int .i64 0 ∧ Fr m.B w4 wr ∧ ∃ m', SL W wb (bx.length + 1) (some ⟨gs, 0, none⟩) cs Ao co A1 c1 A2 c2 A3 c3 bx m' wr ∧ IsBox m' bx.length (kk, (T.mk k9 n9 s9 A9 cap9 l9 r9)) ∧ ∀ b ∈ (T.mk k9 n9 s9 A9 cap9 l9 r9).blocks, ¬ m'.B b)
          case first => as_aux_lemma =>
            go_region_with (go_at_call 13; refine (HSY.out _ (Fr.refl No w4).drew).mono ?_; rintro e w6 ⟨rfl, f6, m', h6, hbox, hnt⟩; have HF6 := hide (Fr.trans (Fr.refl m.B w4).drew f6); have H6 := hide h6; have HBOX := hide hbox; have HNT := hide hnt; clear f6 h6 hbox hnt)
            all_goals
              go_wp2_with fail
              go_meet
              case rel => exact ⟨rfl, rfl, HF6.out, m', H6.out, HBOX.out, HNT.out⟩
          case rest => as_aux_lemma =>
            obtain ⟨rfl, rfl, f6, m', h6, hbox, hnt⟩ := hcut
            generalize wc = w6 at *
            have hb6 := HB4.out.fr f6 HFARB.out.1
            have HNE : Hid ((∀ b, (Value.slice A1 bx.length c1).ownBlock = some b → (Value.slice A2 bx.length c2).ownBlock ≠ some b ∧ (Value.slice A3 bx.length c3).ownBlock ≠ some b) ∧ (∀ b, (Value.slice A2 bx.length c2).ownBlock = some b → (Value.slice A3 bx.length c3).ownBlock ≠ some b ∧ (Value.slice A1 bx.length c1).ownBlock ≠ some b) ∧ ∀ b, (Value.slice A3 bx.length c3).ownBlock = some b → (Value.slice A1 bx.length c1).ownBlock ≠ some b ∧ (Value.slice A2 bx.length c2).ownBlock ≠ some b) := hide (rows_ne h6)
            have HPU := hide (fun (wx : World) (g1 g2 g3 p1 p2 p3 : Nat) => h6.push (k := kk) (t := T.mk k9 n9 s9 A9 cap9 l9 r9) (w' := wx) (g1 := g1) (g2 := g2) (g3 := g3) (p1 := p1) (p2 := p2) (p3 := p3) (Nat.lt_succ_self _) hbox (T.Sp.more (by omega) (Nat.le_trans (by omega) f6.size) _ (T.Sp.fr f6 _ (fun b hb => (HFAR.out b hb).1.1) HSH4.out.sp)) hnt fun g hg hb => (HFAR.out g hb).1.2 hg)
            have HBX := hide (fun (wx : World) (f : Fr (AC.S ⟨W.heap.size, bx.length, .slice A1 bx.length c1, .slice A2 bx.length c2, .slice A3 bx.length c3, bNums bx.length, bx.map fun x => Value.int .i64 (x.1 : Int), rowCells (bx.map Prod.snd), .int .i64 (13 + (bx.length : Int)), .int .i64 (kk : Int), T.mk k9 n9 s9 A9 cap9 l9 r9⟩) w6 wx) => hb6.fr f (box_ne h6 hb6 HFARB.out.2))
            have H6 := hide h6
            clear hb6 f6 h6 hbox hnt x0 x1 x2 x3 x4 xf hcs hkkI hbq4 hgs4 hm
            go_wp2_with fail
            refine wp_region_inv (I := fun a0 f a wx => ∃ y0 y1 y2 y3 y4 y5 y6 y7 y8 y9 y10 y11 y12 y13 y14 a1 a2 a3 g1 g2 g3 p1 p2 p3, a = (((((((((((((((a0.put (some 82) y0).put (some 83) y1).put (some 84) y2).put (some 85) y3).put (some 86) y4).put (some 87) y5).put (some 88) y6).put (some 89) y7).put (some 90) y8).put (some 91) y9).put (some 92) y10).put (some 93) y11).put (some 8) y12).put (some 9) y13).put (some 10) y14) ∧ AR (⟨W.heap.size, bx.length, .slice A1 bx.length c1, .slice A2 bx.length c2, .slice A3 bx.length c3, bNums bx.length, bx.map fun x => Value.int .i64 (x.1 : Int), rowCells (bx.map Prod.snd), .int .i64 (13 + (bx.length : Int)), .int .i64 (kk : Int), (T.mk k9 n9 s9 A9 cap9 l9 r9)⟩ : AC) w6 f [y0, y1, y2, y3, y4, y5, y6, y7, y8, y9, y10, y11, y12, y13, y14] a1 a2 a3 g1 g2 g3 p1 p2 p3 wx) (by kernel_rfl) (by kernel_rfl) ?st ?step ?en
            case st => exact ⟨_, _, _, _, _, _, _, _, _, _, _, _, _, _, _, 0, 0, 0, 0, 0, 0, 0, 0, 0, by simp only [Act.put, List.setIfInBounds_toArray, List.set_cons_zero, List.set_cons_succ] <;> rfl, AR.begin _ w6 _ rfl rfl rfl H6.out.r1 H6.out.r2 H6.out.r3⟩
            case step => as_aux_lemma =>
              rintro i oo f a wx ho hf hd ⟨y0, y1, y2, y3, y4, y5, y6, y7, y8, y9, y10, y11, y12, y13, y14, a1, a2, a3, g1, g2, g3, p1, p2, p3, rfl, J⟩ K' hK
              have hidx := (Array.getElem?_eq_some_iff.1 ho).1
              simp only [List.size_toArray, List.length_cons, List.length_nil] at hidx
              have hid : i = 0 ∨ i = 1 ∨ i = 2 ∨ i = 3 ∨ i = 4 ∨ i = 5 ∨ i = 6 ∨ i = 7 ∨ i = 8 ∨ i = 9 ∨ i = 10 ∨ i = 11 ∨ i = 12 ∨ i = 13 ∨ i = 14 := by omega
              simp only [Act.put, List.setIfInBounds_toArray, List.set_cons_zero, List.set_cons_succ]
              rcases hid with rfl | rfl | rfl | rfl | rfl | rfl | rfl | rfl | rfl | rfl | rfl | rfl | rfl | rfl | rfl
              · simp only [List.getElem?_toArray, List.getElem?_cons_zero, Option.some.injEq] at ho; subst ho
                obtain rfl : y12 = (Value.slice A1 bx.length c1) := J.o1 (J.n1 hf)
                have HJ := hide J
                clear J hd hf
                go_simp
                exact hK.out _ _ ⟨_, _, _, _, _, _, _, _, _, _, _, _, _, _, _, _, _, _, _, _, _, _, _, _, by simp only [Act.put, List.setIfInBounds_toArray, List.set_cons_zero, List.set_cons_succ] <;> rfl, HJ.out.quiet (i := 0) (by decide) (by simp) (by intro h; cases h) (by intro h; cases h) (by intro h; cases h)⟩
              · simp only [List.getElem?_toArray, List.getElem?_cons_succ, List.getElem?_cons_zero, Option.some.injEq] at ho; subst ho
                have HJ := hide J
                clear J hd hf
                go_simp
                exact hK.out _ _ ⟨_, _, _, _, _, _, _, _, _, _, _, _, _, _, _, _, _, _, _, _, _, _, _, _, by simp only [Act.put, List.setIfInBounds_toArray, List.set_cons_zero, List.set_cons_succ] <;> rfl, HJ.out.quiet (i := 1) (by decide) (by simp) (by intro h; cases h) (by intro h; cases h) (by intro h; cases h)⟩
              · simp only [List.getElem?_toArray, List.getElem?_cons_succ, List.getElem?_cons_zero, Option.some.injEq] at ho; subst ho
                have b := hd ⟨1, .data⟩ (by simp) (by rfl)
                obtain rfl : y1 = .int .i64 (13 + (bx.length : Int)) := J.x 1 b
                have HJ := hide J
                have HFI := hide hf
                clear J hd hf b
                go_simp
                exact hK.out _ _ ⟨_, _, _, _, _, _, _, _, _, _, _, _, _, _, _, _, _, _, _, _, _, _, _, _, by simp only [Act.put, List.setIfInBounds_toArray, List.set_cons_zero, List.set_cons_succ] <;> rfl, HJ.out.build1 HFI.out (by simp)⟩
              · simp only [List.getElem?_toArray, List.getElem?_cons_succ, List.getElem?_cons_zero, Option.some.injEq] at ho; subst ho
                have b0 := hd ⟨0, .data⟩ (by simp) (by rfl)
                obtain rfl : y0 = (Value.slice A1 bx.length c1) := J.x 0 b0
                have b2 := hd ⟨2, .data⟩ (by simp) (by rfl)
                obtain rfl : y2 = .slice (some ⟨a1, 0, none⟩) 1 1 := J.x 2 b2
                have hk := J.k1
                obtain ⟨hblk, ha0⟩ := hk.new b2 hf
                have hown := hk.old hf
                have hwx := J.fr.size
                have hW6 := H6.out.fr.size
                obtain ⟨g', cp', w8, hrun, hown8, hgrow, hat, hlt8⟩ := run_append_lies (P := Try.prog) wx 40 40 W.heap.size 28 i1 _ 1 8 Try.underlying40 hi1 hz1 hz11 hz12 rfl (by omega) (Value.slice A1 bx.length c1) bx.length (bNums bx.length) hown ⟨a1, 0, none⟩ 1 1 [.int .i64 (13 + (bx.length : Int))] rfl (World.news_of_block hblk) (by simp [Value.oneCell']) (by omega) (by unfold maxLen; omega) (by omega) (by omega) _ rfl
                have HJA := hide (J.app1 hf b2 b0 (by simp) HNE.out.1 hgrow hown8 hat)
                clear J hd hf b0 b2 hk hblk ha0 hown hwx hW6 hown8 hgrow hat hlt8
                first | (go_simp; done) | skip
                try (unfold Oper.wp; simp [execOp, resolve, invoke, builtin, hrun, Result.andThen, Act.eval])
                exact hK.out _ _ ⟨_, _, _, _, _, _, _, _, _, _, _, _, _, _, _, _, _, _, _, _, _, _, _, _, by simp only [Act.put, List.setIfInBounds_toArray, List.set_cons_zero, List.set_cons_succ] <;> rfl, HJA.out⟩
              · simp only [List.getElem?_toArray, List.getElem?_cons_succ, List.getElem?_cons_zero, Option.some.injEq] at ho; subst ho
                obtain rfl : y13 = (Value.slice A2 bx.length c2) := J.o2 (J.n2 hf)
                have HJ := hide J
                clear J hd hf
                go_simp
                exact hK.out _ _ ⟨_, _, _, _, _, _, _, _, _, _, _, _, _, _, _, _, _, _, _, _, _, _, _, _, by simp only [Act.put, List.setIfInBounds_toArray, List.set_cons_zero, List.set_cons_succ] <;> rfl, HJ.out.quiet (i := 4) (by decide) (by simp) (by intro h; cases h) (by intro h; cases h) (by intro h; cases h)⟩
              · simp only [List.getElem?_toArray, List.getElem?_cons_succ, List.getElem?_cons_zero, Option.some.injEq] at ho; subst ho
                have HJ := hide J
                clear J hd hf
                go_simp
                exact hK.out _ _ ⟨_, _, _, _, _, _, _, _, _, _, _, _, _, _, _, _, _, _, _, _, _, _, _, _, by simp only [Act.put, List.setIfInBounds_toArray, List.set_cons_zero, List.set_cons_succ] <;> rfl, HJ.out.quiet (i := 5) (by decide) (by simp) (by intro h; cases h) (by intro h; cases h) (by intro h; cases h)⟩
              · simp only [List.getElem?_toArray, List.getElem?_cons_succ, List.getElem?_cons_zero, Option.some.injEq] at ho; subst ho
                have b := hd ⟨5, .data⟩ (by simp) (by rfl)
                obtain rfl : y5 = .int .i64 (kk : Int) := J.x 5 b
                have HJ := hide J
                have HFI := hide hf
                clear J hd hf b
                go_simp
                exact hK.out _ _ ⟨_, _, _, _, _, _, _, _, _, _, _, _, _, _, _, _, _, _, _, _, _, _, _, _, by simp only [Act.put, List.setIfInBounds_toArray, List.set_cons_zero, List.set_cons_succ] <;> rfl, HJ.out.build2 HFI.out (by simp)⟩
              · simp only [List.getElem?_toArray, List.getElem?_cons_succ, List.getElem?_cons_zero, Option.some.injEq] at ho; subst ho
                have b0 := hd ⟨4, .data⟩ (by simp) (by rfl)
                obtain rfl : y4 = (Value.slice A2 bx.length c2) := J.x 4 b0
                have b2 := hd ⟨6, .data⟩ (by simp) (by rfl)
                obtain rfl : y6 = .slice (some ⟨a2, 0, none⟩) 1 1 := J.x 6 b2
                have hk := J.k2
                obtain ⟨hblk, ha0⟩ := hk.new b2 hf
                have hown := hk.old hf
                have hwx := J.fr.size
                have hW6 := H6.out.fr.size
                obtain ⟨g', cp', w8, hrun, hown8, hgrow, hat, hlt8⟩ := run_append_lies (P := Try.prog) wx 43 43 W.heap.size 3 i2 _ 1 8 Try.underlying43 hi2 hz2 hz21 hz22 rfl (by omega) (Value.slice A2 bx.length c2) bx.length (bx.map fun x => Value.int .i64 (x.1 : Int)) hown ⟨a2, 0, none⟩ 1 1 [.int .i64 (kk : Int)] rfl (World.news_of_block hblk) (by simp [Value.oneCell']) (by omega) (by unfold maxLen; omega) (by omega) (by omega) _ rfl
                have HJA := hide (J.app2 hf b2 b0 (by simp) HNE.out.2.1 hgrow hown8 hat)
                clear J hd hf b0 b2 hk hblk ha0 hown hwx hW6 hown8 hgrow hat hlt8
                first | (go_simp; done) | skip
                try (unfold Oper.wp; simp [execOp, resolve, invoke, builtin, hrun, Result.andThen, Act.eval])
                exact hK.out _ _ ⟨_, _, _, _, _, _, _, _, _, _, _, _, _, _, _, _, _, _, _, _, _, _, _, _, by simp only [Act.put, List.setIfInBounds_toArray, List.set_cons_zero, List.set_cons_succ] <;> rfl, HJA.out⟩
              · simp only [List.getElem?_toArray, List.getElem?_cons_succ, List.getElem?_cons_zero, Option.some.injEq] at ho; subst ho
                obtain rfl : y14 = (Value.slice A3 bx.length c3) := J.o3 (J.n3 hf)
                have HJ := hide J
                clear J hd hf
                go_simp
                exact hK.out _ _ ⟨_, _, _, _, _, _, _, _, _, _, _, _, _, _, _, _, _, _, _, _, _, _, _, _, by simp only [Act.put, List.setIfInBounds_toArray, List.set_cons_zero, List.set_cons_succ] <;> rfl, HJ.out.quiet (i := 8) (by decide) (by simp) (by intro h; cases h) (by intro h; cases h) (by intro h; cases h)⟩
              · simp only [List.getElem?_toArray, List.getElem?_cons_succ, List.getElem?_cons_zero, Option.some.injEq] at ho; subst ho
                have hB := HBX.out wx J.fr
                obtain ⟨x0, x1, x2, x3, x4, xf⟩ := hB.cells5
                have xq := hB.lt
                have HJ := hide J
                clear J hd hf hB
                go_simp
                exact hK.out _ _ ⟨_, _, _, _, _, _, _, _, _, _, _, _, _, _, _, _, _, _, _, _, _, _, _, _, by simp only [Act.put, List.setIfInBounds_toArray, List.set_cons_zero, List.set_cons_succ] <;> rfl, HJ.out.quiet (i := 9) (by decide) (by simp) (by intro h; cases h) (by intro h; cases h) (by intro h; cases h)⟩
              · simp only [List.getElem?_toArray, List.getElem?_cons_succ, List.getElem?_cons_zero, Option.some.injEq] at ho; subst ho
                have b := hd ⟨9, .data⟩ (by simp) (by rfl)
                obtain rfl : y9 = (T.mk k9 n9 s9 A9 cap9 l9 r9).val := J.x 9 b
                rw [T.val_mk]
                have HJ := hide J
                have HFI := hide hf
                clear J hd hf b
                go_simp
                exact hK.out _ _ ⟨_, _, _, _, _, _, _, _, _, _, _, _, _, _, _, _, _, _, _, _, _, _, _, _, by simp only [Act.put, List.setIfInBounds_toArray, List.set_cons_zero, List.set_cons_succ] <;> rfl, HJ.out.build3 HFI.out (by simp)⟩
              · simp only [List.getElem?_toArray, List.getElem?_cons_succ, List.getElem?_cons_zero, Option.some.injEq] at ho; subst ho
                have b0 := hd ⟨8, .data⟩ (by simp) (by rfl)
                obtain rfl : y8 = (Value.slice A3 bx.length c3) := J.x 8 b0
                have b2 := hd ⟨10, .data⟩ (by simp) (by rfl)
                obtain rfl : y10 = .slice (some ⟨a3, 0, none⟩) 1 1 := J.x 10 b2
                have hk := J.k3
                obtain ⟨hblk, ha0⟩ := hk.new b2 hf
                have hown := hk.old hf
                have hwx := J.fr.size
                have hW6 := H6.out.fr.size
                obtain ⟨g', cp', w8, hrun, hown8, hgrow, hat, hlt8⟩ := run_append_lies (P := Try.prog) wx 35 35 W.heap.size 37 i3 _ 5 64 Try.underlying35 hi3 hz3 hz31 hz32 rfl (by omega) (Value.slice A3 bx.length c3) bx.length (rowCells (bx.map Prod.snd)) hown ⟨a3, 0, none⟩ 1 1 [.int .u8 k9, .int .i64 n9, .string s9, .slice A9 l9.length cap9, .int .i64 r9] rfl (World.news_of_block hblk) (by simp [Value.oneCell']) (by omega) (by unfold maxLen; omega) (by omega) (by omega) _ rfl
                have HJA := hide (J.app3 hf b2 b0 (by simp) HNE.out.2.2 hgrow hown8 hat)
                clear J hd hf b0 b2 hk hblk ha0 hown hwx hW6 hown8 hgrow hat hlt8
                first | (go_simp; done) | skip
                try (unfold Oper.wp; simp [execOp, resolve, invoke, builtin, hrun, Result.andThen, Act.eval])
                exact hK.out _ _ ⟨_, _, _, _, _, _, _, _, _, _, _, _, _, _, _, _, _, _, _, _, _, _, _, _, by simp only [Act.put, List.setIfInBounds_toArray, List.set_cons_zero, List.set_cons_succ] <;> rfl, HJA.out⟩
              · simp only [List.getElem?_toArray, List.getElem?_cons_succ, List.getElem?_cons_zero, Option.some.injEq] at ho; subst ho
                have b := hd ⟨3, .data⟩ (by simp) (by rfl)
                obtain rfl : y3 = .slice (some ⟨g1, 0, none⟩) (bx.length + 1) p1 := J.x 3 b
                have HJ := hide J
                have B := hide b
                clear J hd hf b
                go_simp
                exact hK.out _ _ ⟨_, _, _, _, _, _, _, _, _, _, _, _, _, _, _, _, _, _, _, _, _, _, _, _, by simp only [Act.put, List.setIfInBounds_toArray, List.set_cons_zero, List.set_cons_succ] <;> rfl, HJ.out.quiet (i := 12) (by decide) (by simp) (fun _ => B.out) (by intro h; cases h) (by intro h; cases h)⟩
              · simp only [List.getElem?_toArray, List.getElem?_cons_succ, List.getElem?_cons_zero, Option.some.injEq] at ho; subst ho
                have b := hd ⟨7, .data⟩ (by simp) (by rfl)
                obtain rfl : y7 = .slice (some ⟨g2, 0, none⟩) (bx.length + 1) p2 := J.x 7 b
                have HJ := hide J
                have B := hide b
                clear J hd hf b
                go_simp
                exact hK.out _ _ ⟨_, _, _, _, _, _, _, _, _, _, _, _, _, _, _, _, _, _, _, _, _, _, _, _, by simp only [Act.put, List.setIfInBounds_toArray, List.set_cons_zero, List.set_cons_succ] <;> rfl, HJ.out.quiet (i := 13) (by decide) (by simp) (by intro h; cases h) (fun _ => B.out) (by intro h; cases h)⟩
              · simp only [List.getElem?_toArray, List.getElem?_cons_succ, List.getElem?_cons_zero, Option.some.injEq] at ho; subst ho
                have b := hd ⟨11, .data⟩ (by simp) (by rfl)
                obtain rfl : y11 = .slice (some ⟨g3, 0, none⟩) (bx.length + 1) p3 := J.x 11 b
                have HJ := hide J
                have B := hide b
                clear J hd hf b
                go_simp
                exact hK.out _ _ ⟨_, _, _, _, _, _, _, _, _, _, _, _, _, _, _, _, _, _, _, _, _, _, _, _, by simp only [Act.put, List.setIfInBounds_toArray, List.set_cons_zero, List.set_cons_succ] <;> rfl, HJ.out.quiet (i := 14) (by decide) (by simp) (by intro h; cases h) (by intro h; cases h) (fun _ => B.out)⟩
            case en => as_aux_lemma =>
              rintro f a wx hall ⟨y0, y1, y2, y3, y4, y5, y6, y7, y8, y9, y10, y11, y12, y13, y14, a1, a2, a3, g1, g2, g3, p1, p2, p3, rfl, J⟩
              obtain rfl : y12 = .slice (some ⟨g1, 0, none⟩) (bx.length + 1) p1 := J.x 12 (hall 12 (by simp))
              obtain rfl : y13 = .slice (some ⟨g2, 0, none⟩) (bx.length + 1) p2 := J.x 13 (hall 13 (by simp))
              obtain rfl : y14 = .slice (some ⟨g3, 0, none⟩) (bx.length + 1) p3 := J.x 14 (hall 14 (by simp))
              have HN := hide (HPU.out wx g1 g2 g3 p1 p2 p3 J.fr (J.k1.got (hall 3 (by simp))).1 (J.k1.got (hall 3 (by simp))).2 (J.k2.got (hall 7 (by simp))).1 (J.k2.got (hall 7 (by simp))).2 (J.k3.got (hall 11 (by simp))).1 (J.k3.got (hall 11 (by simp))).2)
              simp only [Act.put, List.setIfInBounds_toArray, List.set_cons_zero, List.set_cons_succ]
              clear J hall
              go_wp2
              go_roundw
              case rel =>
                have hl : (bx ++ [(kk, (T.mk k9 n9 s9 A9 cap9 l9 r9))]).length = bx.length + 1 := by simp
                have hn := HN.out
                rw [← hl] at hn
                exact ⟨j + 1, some ⟨g1, 0, none⟩, p1, some ⟨g2, 0, none⟩, p2, some ⟨g3, 0, none⟩, p3, bx ++ [(kk, (T.mk k9 n9 s9 A9 cap9 l9 r9))], m', hlt2, by go_num, by rw [hl], by rw [hl], by rw [hl], by rw [hl]; omega, hn⟩
              case measure => simp [intOf]; omega
  case rest => as_aux_lemma =>
    unfold S1R at hcut
    obtain ⟨A1, c1, A2, c2, A3, c3, bx, m, rfl, rfl, rfl, h60, inv⟩ := hcut
    generalize wc = w0 at *
    have HINV := hide inv
    have hbl : bx.length ≤ 60 := h60
    have HAW := hide awake9
    obtain ⟨go, co', hAo, hgo0, hgo1⟩ := inv.o.form (by omega)
    simp only [Value.slice.injEq, true_and] at hAo
    obtain ⟨rfl, rfl⟩ := hAo
    clear inv H0 HL HST h60
    go_wp2_with fail
    go_loopw [16] (fun i wr => ∃ j : Nat, j ≤ bx.length ∧ i = .int .i64 (j : Int) ∧ Fr No w0 wr) (fun i _ => bx.length - (intOf i).toNat)
    case atStart => exact ⟨0, Nat.zero_le _, rfl, Fr.refl _ _⟩
    case round =>
      obtain ⟨j, hj, rfl, hfr⟩ := hrel
      obtain ⟨wo, rfl⟩ : ∃ wo : World, wo = wr := ⟨_, rfl⟩
      have HFO := hide hfr
      clear hfr
      by_cases hjl : j < bx.length
      case neg =>
        obtain rfl : bx.length = j := by omega
        go_wp2_with fail
        refine (HAW.out wo).mono ?_
        rintro e w9 ⟨rfl, f9⟩
        go_wp2
        go_ret
        exact ⟨rfl, (HINV.out.fr.trans HFO.out).trans f9⟩
      go_wp2_with fail
      go_loopw [17] (fun k wr => ∃ kk : Nat, kk ≤ 6 ∧ k = .int .i64 (kk : Int) ∧ Fr No wo wr) (fun k _ => 6 - (intOf k).toNat)
      case atStart => exact ⟨0, Nat.zero_le _, rfl, Fr.refl _ _⟩
      case round =>
        obtain ⟨kk, hkk, rfl, hfr⟩ := hrel
        have HFR := hide hfr
        clear hfr
        by_cases hkl : kk < 6
        case neg =>
          have e1 : decide ((kk : Int) < 6) = false := by simp; omega
          go_wp2_with fail
          go_roundw
          case rel => exact ⟨j + 1, hjl, by go_num, HFO.out.trans HFR.out⟩
          case measure => simp [intOf]; omega
        have hki : (kk : Int) < 6 := by omega
        have inv := (HINV.out.no HFO.out).no HFR.out
        obtain ⟨gx, c1', hA1, hgx0, hgx1⟩ := inv.r1.form (by omega)
        simp only [Value.slice.injEq, true_and] at hA1
        obtain ⟨rfl, rfl⟩ := hA1
        obtain ⟨gp, c2', hA2, hgp0, hgp1⟩ := inv.r2.form (by omega)
        simp only [Value.slice.injEq, true_and] at hA2
        obtain ⟨rfl, rfl⟩ := hA2
        obtain ⟨gh, c3', hA3, hgh0, hgh1⟩ := inv.r3.form (by omega)
        simp only [Value.slice.injEq, true_and] at hA3
        obtain ⟨rfl, rfl⟩ := hA3
        obtain ⟨hx6, hxm, -⟩ := inv.bxs j _ (List.getElem?_eq_getElem hjl)
        have HROW : Hid (∀ w', Fr No wr w' → w'.cell? ⟨go, kk, none⟩ = some (.int .i64 (2 * (kk : Int) + 2)) ∧ w'.cell? ⟨gx, j, none⟩ = some (.int .i64 (13 + (j : Int))) ∧ go < w'.heap.size ∧ gx < w'.heap.size) := hide fun w' f => by
          have h1 := World.ownsRow.cells (inv.no f).o (g := go) rfl kk _ (oNums_at hkl)
          have h2 := World.ownsRow.cells (inv.no f).r1 (g := gx) rfl j _ (bNums_at hjl)
          rw [add_at, Nat.zero_add] at h1 h2
          exact ⟨h1, h2, (owns_lt (inv.no f).o go rfl).2, (owns_lt (inv.no f).r1 gx rfl).2⟩
        have HOPA := hide (fun w' (f : Fr No wr w') => sl_open (inv.no f) hjl hkl)
        have HOPB := hide (fun w' (f : Fr No wr w') => sl_do (inv.no f) hjl hkl)
        have HPAIR : Hid (∀ w', Fr No wr w' → w'.cell? ⟨gp, j, none⟩ = some (.int .i64 (bx[j].1 : Int)) ∧ gp < w'.heap.size) := hide fun w' f => by
          have h1 := World.ownsRow.cells (inv.no f).r2 (g := gp) rfl j (.int .i64 (bx[j].1 : Int)) (by simp [hjl])
          rw [add_at, Nat.zero_add] at h1
          exact ⟨h1, (owns_lt (inv.no f).r2 gp rfl).2⟩
        have HIN2 : Hid (∀ w', Fr No wr w' → bx[j].2.In w' W.heap.size wr.heap.size) := hide fun w' f => (T.Sp.inn _ (inv.sp _ (List.getElem_mem hjl))).no f (Nat.le_refl _)
        have HHELD : Hid (∀ w', Fr No wr w' → ∀ i u, bx[j].2.cells[i]? = some u → w'.cell? ⟨gh, j * 5 + i, none⟩ = some u) := hide fun w' f i u hu => by
          have h1 := World.ownsRow.cells (inv.no f).r3 (g := gh) rfl (j * 5 + i) u (rowCells_get _ j i bx[j].2 u (by simp [hjl]) hu)
          rwa [add_at, Nat.zero_add] at h1
        have hghl : gh < wr.heap.size := (owns_lt inv.r3 gh rfl).2
        have hgpl : gp < wr.heap.size := (owns_lt inv.r2 gp rfl).2
        unfold opV opC at HOPA HOPB
        generalize bx[j] = x at *
        obtain ⟨x1, ⟨k2, n2, s2, A2t, p2, l2, r2⟩⟩ := x
        replace HHELD : Hid (∀ w', Fr No wr w' → w'.cell? ⟨gh, j * 5, none⟩ = some (.int .u8 k2) ∧ w'.cell? ⟨gh, j * 5 + 1, none⟩ = some (.int .i64 n2) ∧ w'.cell? ⟨gh, j * 5 + 2, none⟩ = some (.string s2) ∧ w'.cell? ⟨gh, j * 5 + 3, none⟩ = some (.slice A2t l2.length p2) ∧ w'.cell? ⟨gh, j * 5 + 4, none⟩ = some (.int .i64 r2)) := hide fun w' f => ⟨HHELD.out w' f 0 _ rfl, HHELD.out w' f 1 _ rfl, HHELD.out w' f 2 _ rfl, HHELD.out w' f 3 _ rfl, HHELD.out w' f 4 _ rfl⟩
        simp only at HPAIR HIN2 HOPA HOPB
        obtain ⟨x2, hx2⟩ : ∃ x2 : T, x2 = T.mk k2 n2 s2 A2t p2 l2 r2 := ⟨_, rfl⟩
        have HX2 := hide hx2
        clear hx2 inv hx6 hxm hgo0 hgo1 hgx0 hgx1 hgp0 hgp1 hgh0 hgh1
        by_cases hxk : x1 = kk
        · subst hxk
          simp only [if_true] at HOPA HOPB
          go_wp2_with fail
          refine wp_region_inv (I := fun a0 f a wx => ∃ y0 y1 y2 y3 y4 y5 y6 y7 y8 y9 y10 y11 y12 y13 y14 y16 t ga, a = ((((((((((((((((a0.put (some 105) y0).put (some 106) y1).put (some 107) y2).put (some 108) y3).put (some 109) y4).put (some 110) y5).put (some 111) y6).put (some 112) y7).put (some 113) y8).put (some 114) y9).put (some 115) y10).put (some 104) y11).put (some 116) y12).put (some 117) y13).put (some 18) y14).put (some 19) y16) ∧ OR (⟨wb, x1, go, j, gx, .slice (some ⟨go, 0, none⟩) 6 co, .slice (some ⟨gx, 0, none⟩) bx.length c1, 0, (T.mk k2 n2 s2 A2t p2 l2 r2).v⟩ : OC) wr f [y0, y1, y2, y3, y4, y5, y6, y7, y8, y9, y10, y11, y12, y13, y14, undef, y16] t ga wx) (by kernel_rfl) (by kernel_rfl) ?st ?step ?en
          case st => exact ⟨_, _, _, _, _, _, _, _, _, _, _, _, _, _, _, _, T.zero, 0, by simp only [Act.put, List.setIfInBounds_toArray, List.set_cons_zero, List.set_cons_succ] <;> rfl, OR.begin _ wr _ _⟩
          case step => as_aux_lemma =>
            rintro i oo f a wx ho hf hd ⟨y0, y1, y2, y3, y4, y5, y6, y7, y8, y9, y10, y11, y12, y13, y14, y16, t, ga, rfl, J⟩ K' hK
            have hidx := (Array.getElem?_eq_some_iff.1 ho).1
            simp only [List.size_toArray, List.length_cons, List.length_nil] at hidx
            have hid : i = 0 ∨ i = 1 ∨ i = 2 ∨ i = 3 ∨ i = 4 ∨ i = 5 ∨ i = 6 ∨ i = 7 ∨ i = 8 ∨ i = 9 ∨ i = 10 ∨ i = 11 ∨ i = 12 ∨ i = 13 ∨ i = 14 ∨ i = 15 ∨ i = 16 := by omega
            simp only [Act.put, List.setIfInBounds_toArray, List.set_cons_zero, List.set_cons_succ]
            rcases hid with rfl | rfl | rfl | rfl | rfl | rfl | rfl | rfl | rfl | rfl | rfl | rfl | rfl | rfl | rfl | rfl | rfl
            · simp only [List.getElem?_toArray, List.getElem?_cons_zero, Option.some.injEq] at ho; subst ho
              have HJ := hide J
              have HFI := hide hf
              clear J hd hf 
              go_simp
              exact hK.out _ _ ⟨_, _, _, _, _, _, _, _, _, _, _, _, _, _, _, _, _, _, by simp only [Act.put, List.setIfInBounds_toArray, List.set_cons_zero, List.set_cons_succ] <;> rfl, HJ.out.quiet (i := 0) (by decide) (by simp) (by omega)⟩
            · simp only [List.getElem?_toArray, List.getElem?_cons_succ, List.getElem?_cons_zero, Option.some.injEq] at ho; subst ho
              have HJ := hide J
              have HFI := hide hf
              clear J hd hf 
              go_simp
              exact hK.out _ _ ⟨_, _, _, _, _, _, _, _, _, _, _, _, _, _, _, _, _, _, by simp only [Act.put, List.setIfInBounds_toArray, List.set_cons_zero, List.set_cons_succ] <;> rfl, HJ.out.quiet (i := 1) (by decide) (by simp) (by omega)⟩
            · simp only [List.getElem?_toArray, List.getElem?_cons_succ, List.getElem?_cons_zero, Option.some.injEq] at ho; subst ho
              have HJ := hide J
              have HFI := hide hf
              clear J hd hf 
              go_simp
              exact hK.out _ _ ⟨_, _, _, _, _, _, _, _, _, _, _, _, _, _, _, _, _, _, by simp only [Act.put, List.setIfInBounds_toArray, List.set_cons_zero, List.set_cons_succ] <;> rfl, HJ.out.quiet (i := 2) (by decide) (by simp) (by omega)⟩
            · simp only [List.getElem?_toArray, List.getElem?_cons_succ, List.getElem?_cons_zero, Option.some.injEq] at ho; subst ho
              have b1 := hd ⟨1, .data⟩ (by simp) (by rfl)
              obtain rfl : y1 = .slice (some ⟨go, 0, none⟩) 6 co := J.x 1 b1 (by decide)
              have b2 := hd ⟨2, .data⟩ (by simp) (by rfl)
              obtain rfl : y2 = .int .i64 (x1 : Int) := J.x 2 b2 (by decide)
              have HJ := hide J
              have HFI := hide hf
              have B1 := hide b1
              have B2 := hide b2
              clear J hd hf b1 b2
              go_simp
              exact hK.out _ _ ⟨_, _, _, _, _, _, _, _, _, _, _, _, _, _, _, _, _, _, by simp only [Act.put, List.setIfInBounds_toArray, List.set_cons_zero, List.set_cons_succ] <;> rfl, HJ.out.quiet (i := 3) (by decide) (by simp) (by omega)⟩
            · simp only [List.getElem?_toArray, List.getElem?_cons_succ, List.getElem?_cons_zero, Option.some.injEq] at ho; subst ho
              have b3 := hd ⟨3, .data⟩ (by simp) (by rfl)
              obtain rfl : y3 = .pointer (some ⟨go, x1, none⟩) := J.x 3 b3 (by decide)
              obtain ⟨z0, z1, z2, z3⟩ := HROW.out wx J.fr
              have HJ := hide J
              have HFI := hide hf
              have B3 := hide b3
              clear J hd hf b3
              go_simp
              exact hK.out _ _ ⟨_, _, _, _, _, _, _, _, _, _, _, _, _, _, _, _, _, _, by simp only [Act.put, List.setIfInBounds_toArray, List.set_cons_zero, List.set_cons_succ] <;> rfl, HJ.out.quiet (i := 4) (by decide) (by simp) (by omega)⟩
            · simp only [List.getElem?_toArray, List.getElem?_cons_succ, List.getElem?_cons_zero, Option.some.injEq] at ho; subst ho
              have HJ := hide J
              have HFI := hide hf
              clear J hd hf 
              go_simp
              exact hK.out _ _ ⟨_, _, _, _, _, _, _, _, _, _, _, _, _, _, _, _, _, _, by simp only [Act.put, List.setIfInBounds_toArray, List.set_cons_zero, List.set_cons_succ] <;> rfl, HJ.out.quiet (i := 5) (by decide) (by simp) (by omega)⟩
            · simp only [List.getElem?_toArray, List.getElem?_cons_succ, List.getElem?_cons_zero, Option.some.injEq] at ho; subst ho
              have HJ := hide J
              have HFI := hide hf
              clear J hd hf 
              go_simp
              exact hK.out _ _ ⟨_, _, _, _, _, _, _, _, _, _, _, _, _, _, _, _, _, _, by simp only [Act.put, List.setIfInBounds_toArray, List.set_cons_zero, List.set_cons_succ] <;> rfl, HJ.out.quiet (i := 6) (by decide) (by simp) (by omega)⟩
            · simp only [List.getElem?_toArray, List.getElem?_cons_succ, List.getElem?_cons_zero, Option.some.injEq] at ho; subst ho
              have b5 := hd ⟨5, .data⟩ (by simp) (by rfl)
              obtain rfl : y5 = .slice (some ⟨gx, 0, none⟩) bx.length c1 := J.x 5 b5 (by decide)
              have b6 := hd ⟨6, .data⟩ (by simp) (by rfl)
              obtain rfl : y6 = .int .i64 (j : Int) := J.x 6 b6 (by decide)
              have HJ := hide J
              have HFI := hide hf
              have B5 := hide b5
              have B6 := hide b6
              clear J hd hf b5 b6
              go_simp
              exact hK.out _ _ ⟨_, _, _, _, _, _, _, _, _, _, _, _, _, _, _, _, _, _, by simp only [Act.put, List.setIfInBounds_toArray, List.set_cons_zero, List.set_cons_succ] <;> rfl, HJ.out.quiet (i := 7) (by decide) (by simp) (by omega)⟩
            · simp only [List.getElem?_toArray, List.getElem?_cons_succ, List.getElem?_cons_zero, Option.some.injEq] at ho; subst ho
              have b7 := hd ⟨7, .data⟩ (by simp) (by rfl)
              obtain rfl : y7 = .pointer (some ⟨gx, j, none⟩) := J.x 7 b7 (by decide)
              obtain ⟨z0, z1, z2, z3⟩ := HROW.out wx J.fr
              have HJ := hide J
              have HFI := hide hf
              have B7 := hide b7
              clear J hd hf b7
              go_simp
              exact hK.out _ _ ⟨_, _, _, _, _, _, _, _, _, _, _, _, _, _, _, _, _, _, by simp only [Act.put, List.setIfInBounds_toArray, List.set_cons_zero, List.set_cons_succ] <;> rfl, HJ.out.quiet (i := 8) (by decide) (by simp) (by omega)⟩
            · simp only [List.getElem?_toArray, List.getElem?_cons_succ, List.getElem?_cons_zero, Option.some.injEq] at ho; subst ho
              have b8 := hd ⟨8, .data⟩ (by simp) (by rfl)
              obtain rfl : y8 = .int .i64 (13 + (j : Int)) := J.x 8 b8 (by decide)
              have HJ := hide J
              have HFI := hide hf
              have B8 := hide b8
              clear J hd hf b8
              go_simp
              refine (hold_any (13 + (j : Int)) wx).mono ?_
              rintro e w2 ⟨rfl, f2⟩
              have HF2 := hide f2
              clear f2
              try go_simp
              exact hK.out _ _ ⟨_, _, _, _, _, _, _, _, _, _, _, _, _, _, _, _, _, _, by simp only [Act.put, List.setIfInBounds_toArray, List.set_cons_zero, List.set_cons_succ] <;> rfl, HJ.out.hold HF2.out (by simp)⟩
            · simp only [List.getElem?_toArray, List.getElem?_cons_succ, List.getElem?_cons_zero, Option.some.injEq] at ho; subst ho
              have b0 := hd ⟨0, .data⟩ (by simp) (by rfl)
              obtain rfl : y0 = .pointer (some ⟨wb, 0, none⟩) := J.x 0 b0 (by decide)
              have b4 := hd ⟨4, .data⟩ (by simp) (by rfl)
              obtain rfl : y4 = .int .i64 (2 * (x1 : Int) + 2) := J.x 4 b4 (by decide)
              have b9 := hd ⟨9, .data⟩ (by simp) (by rfl)
              obtain rfl : y9 = .agg #[.int .u8 4, .int .i64 0, .string ⟨#[]⟩, .slice none 0 0, .int .i64 (13 + (j : Int))] := J.x 9 b9 (by decide)
              have hc := HOPA.out wx J.fr
              have FX := hide J.fr
              have HJ := hide J
              have HFI := hide hf
              have B0 := hide b0
              have B4 := hide b4
              have B9 := hide b9
              clear J hd hf b0 b4 b9
              go_simp
              refine hc.mono ?_
              rintro e w2 ⟨t2, rfl, hv, hsh, f2⟩
              have HV := hide hv
              have HSH := hide hsh
              have HF2 := hide f2
              clear hv hsh f2 hc
              try go_simp
              exact hK.out _ _ ⟨_, _, _, _, _, _, _, _, _, _, _, _, _, _, _, _, t2, _, by simp only [Act.put, List.setIfInBounds_toArray, List.set_cons_zero, List.set_cons_succ] <;> rfl, HJ.out.open_ HFI.out HF2.out HV.out HSH.out (by simp)⟩
            · simp only [List.getElem?_toArray, List.getElem?_cons_succ, List.getElem?_cons_zero, Option.some.injEq] at ho; subst ho
              have b10 := hd ⟨10, .data⟩ (by simp) (by rfl)
              obtain rfl : y10 = .tuple #[t.val, .int .i64 0] := J.x 10 b10 (by decide)
              obtain ⟨k8, n8, s8, A8, p8, l8, r8⟩ := t
              rw [T.val_mk]
              have HJ := hide J
              have HFI := hide hf
              have B10 := hide b10
              clear J hd hf b10
              go_simp
              exact hK.out _ _ ⟨_, _, _, _, _, _, _, _, _, _, _, _, _, _, _, _, _, _, by simp only [Act.put, List.setIfInBounds_toArray, List.set_cons_zero, List.set_cons_succ] <;> rfl, HJ.out.quiet (i := 11) (by decide) (by simp) (fun _ => B10.out)⟩
            · simp only [List.getElem?_toArray, List.getElem?_cons_succ, List.getElem?_cons_zero, Option.some.injEq] at ho; subst ho
              have b11 := hd ⟨11, .data⟩ (by simp) (by rfl)
              obtain rfl : y11 = .tuple #[t.val, .int .i64 0] := J.x 11 b11 (by decide)
              obtain ⟨k8, n8, s8, A8, p8, l8, r8⟩ := t
              rw [T.val_mk]
              have HJ := hide J
              have HFI := hide hf
              have B11 := hide b11
              clear J hd hf b11
              go_simp
              exact hK.out _ _ ⟨_, _, _, _, _, _, _, _, _, _, _, _, _, _, _, _, _, _, by simp only [Act.put, List.setIfInBounds_toArray, List.set_cons_zero, List.set_cons_succ] <;> rfl, HJ.out.quiet (i := 12) (by decide) (by simp) (fun _ => HJ.out.d10 (.inl B11.out))⟩
            · simp only [List.getElem?_toArray, List.getElem?_cons_succ, List.getElem?_cons_zero, Option.some.injEq] at ho; subst ho
              have b11 := hd ⟨11, .data⟩ (by simp) (by rfl)
              obtain rfl : y11 = .tuple #[t.val, .int .i64 0] := J.x 11 b11 (by decide)
              obtain ⟨k8, n8, s8, A8, p8, l8, r8⟩ := t
              rw [T.val_mk]
              have HJ := hide J
              have HFI := hide hf
              have B11 := hide b11
              clear J hd hf b11
              go_simp
              exact hK.out _ _ ⟨_, _, _, _, _, _, _, _, _, _, _, _, _, _, _, _, _, _, by simp only [Act.put, List.setIfInBounds_toArray, List.set_cons_zero, List.set_cons_succ] <;> rfl, HJ.out.quiet (i := 13) (by decide) (by simp) (fun _ => HJ.out.d10 (.inl B11.out))⟩
            · simp only [List.getElem?_toArray, List.getElem?_cons_succ, List.getElem?_cons_zero, Option.some.injEq] at ho; subst ho
              have HJ := hide J
              have HFI := hide hf
              clear J hd hf 
              go_simp
              exact hK.out _ _ ⟨_, _, _, _, _, _, _, _, _, _, _, _, _, _, _, _, _, _, by simp only [Act.put, List.setIfInBounds_toArray, List.set_cons_zero, List.set_cons_succ] <;> rfl, HJ.out.alloc HFI.out (by simp)⟩
            · simp only [List.getElem?_toArray, List.getElem?_cons_succ, List.getElem?_cons_zero, Option.some.injEq] at ho; subst ho
              have b14 := hd ⟨14, .data⟩ (by simp) (by rfl)
              obtain rfl : y14 = .pointer (some ⟨ga, 0, none⟩) := J.x 14 b14 (by decide)
              have b12 := hd ⟨12, .data⟩ (by simp) (by rfl)
              obtain rfl : y12 = t.val := J.x 12 b12 (by decide)
              have b10 := J.d10 (.inr (.inl b12))
              obtain ⟨hB, hga⟩ := J.al b14 hf
              obtain ⟨k8, n8, s8, A8, p8, l8, r8⟩ := t
              have hset := sets5v wx ga 37 (.int .u8 0) (.int .i64 0) (.string ⟨#[]⟩) (.slice none 0 0) (.int .i64 0) (.int .u8 k8) (.int .i64 n8) (.string s8) (.slice A8 l8.length p8) (.int .i64 r8) hB
              obtain ⟨x0, x1, x2, x3, x4, xf⟩ := Blk.cells5 (a := .int .u8 0) (b := .int .i64 0) (c := .string ⟨#[]⟩) (d := .slice none 0 0) (e := .int .i64 0) hB
              have xq := hB.lt
              rw [T.val_mk]
              have HJS := hide (J.store hf b10 b14 hset.2 hset.1)
              clear hset hB hga b10
              have HJ := hide J
              have HFI := hide hf
              have B14 := hide b14
              have B12 := hide b12
              clear J hd hf b14 b12
              go_simp
              exact hK.out _ _ ⟨_, _, _, _, _, _, _, _, _, _, _, _, _, _, _, _, _, _, by simp only [Act.put, List.setIfInBounds_toArray, List.set_cons_zero, List.set_cons_succ] <;> rfl, HJS.out⟩
            · simp only [List.getElem?_toArray, List.getElem?_cons_succ, List.getElem?_cons_zero, Option.some.injEq] at ho; subst ho
              have b13 := hd ⟨13, .data⟩ (by simp) (by rfl)
              obtain rfl : y13 = .int .i64 0 := J.x 13 b13 (by decide)
              have HJ := hide J
              have HFI := hide hf
              have B13 := hide b13
              clear J hd hf b13
              go_simp
              exact hK.out _ _ ⟨_, _, _, _, _, _, _, _, _, _, _, _, _, _, _, _, _, _, by simp only [Act.put, List.setIfInBounds_toArray, List.set_cons_zero, List.set_cons_succ] <;> rfl, HJ.out.quiet (i := 16) (by decide) (by simp) (fun _ => HJ.out.d10 (.inr (.inr (.inl B13.out))))⟩
          case en => as_aux_lemma =>
            rintro f a wx hall ⟨y0, y1, y2, y3, y4, y5, y6, y7, y8, y9, y10, y11, y12, y13, y14, y16, tA, gaA, rfl, J⟩
            obtain rfl : y14 = .pointer (some ⟨gaA, 0, none⟩) := J.x 14 (hall 14 (by simp)) (by decide)
            obtain rfl : y16 = .int .i64 0 := J.x 16 (hall 16 (by simp)) (by decide)
            simp only [Act.put, List.setIfInBounds_toArray, List.set_cons_zero, List.set_cons_succ]
            obtain ⟨hvA, hshA⟩ := J.an (hall 10 (by simp))
            obtain ⟨hstA, hgaA⟩ := J.st (hall 15 (by simp))
            have hneA := J.ne (hall 10 (by simp)) (hall 14 (by simp))
            have hfrA := J.fr
            clear J hall
            obtain ⟨kA, nA, sA, AA, pA, lA, rA⟩ := tA
            have HSTA := hide hstA
            have HSHA := hide hshA
            have HFA := hide hfrA
            have HVA := hide hvA
            have hszA := hfrA.size
            have xa0 : ∀ q : ClN wx, q.w.cell? ⟨gaA, 0, none⟩ = some (.int .u8 kA) := fun q => (HSTA.out.fr q.fr fun h => h).cell 0
            have xa1 : ∀ q : ClN wx, q.w.cell? ⟨gaA, 1, none⟩ = some (.int .i64 nA) := fun q => (HSTA.out.fr q.fr fun h => h).cell 1
            have xa2 : ∀ q : ClN wx, q.w.cell? ⟨gaA, 2, none⟩ = some (.string sA) := fun q => (HSTA.out.fr q.fr fun h => h).cell 2
            have xa3 : ∀ q : ClN wx, q.w.cell? ⟨gaA, 3, none⟩ = some (.slice AA lA.length pA) := fun q => (HSTA.out.fr q.fr fun h => h).cell 3
            have xa4 : ∀ q : ClN wx, q.w.cell? ⟨gaA, 4, none⟩ = some (.int .i64 rA) := fun q => (HSTA.out.fr q.fr fun h => h).cell 4
            have pr0 : ∀ q : ClN wx, q.w.cell? ⟨gp, j, none⟩ = some (.int .i64 (x1 : Int)) := fun q => (HPAIR.out q.w (HFA.out.trans q.fr)).1
            have hd0 : ∀ q : ClN wx, q.w.cell? ⟨gh, j * 5, none⟩ = some (.int .u8 k2) := fun q => (HHELD.out q.w (HFA.out.trans q.fr)).1
            have hd1 : ∀ q : ClN wx, q.w.cell? ⟨gh, j * 5 + 1, none⟩ = some (.int .i64 n2) := fun q => (HHELD.out q.w (HFA.out.trans q.fr)).2.1
            have hd2 : ∀ q : ClN wx, q.w.cell? ⟨gh, j * 5 + 2, none⟩ = some (.string s2) := fun q => (HHELD.out q.w (HFA.out.trans q.fr)).2.2.1
            have hd3 : ∀ q : ClN wx, q.w.cell? ⟨gh, j * 5 + 3, none⟩ = some (.slice A2t l2.length p2) := fun q => (HHELD.out q.w (HFA.out.trans q.fr)).2.2.2.1
            have hd4 : ∀ q : ClN wx, q.w.cell? ⟨gh, j * 5 + 4, none⟩ = some (.int .i64 r2) := fun q => (HHELD.out q.w (HFA.out.trans q.fr)).2.2.2.2
            have HAL : Hid (∀ q : ClN wx, Calls Try.prog 22 #[.agg #[.int .u8 kA, .int .i64 nA, .string sA, .slice AA lA.length pA, .int .i64 rA], .agg #[.int .u8 k2, .int .i64 n2, .string s2, .slice A2t l2.length p2, .int .i64 r2]] q.w fun e w'' => e = .returned (.bool true) ∧ ∃ q' : ClN wx, w'' = q'.w) := hide fun q => by
              have ha := alike_any (T.mk kA nA sA AA pA lA rA) (T.mk k2 n2 s2 A2t p2 l2 r2) q.w wr.heap.size wx.heap.size W.heap.size wr.heap.size (HSHA.out.inn.no q.fr (Nat.le_refl _)) q.fr.size (HIN2.out q.w (HFA.out.trans q.fr)) (Nat.le_trans hszA q.fr.size)
              rw [T.val_mk, T.val_mk] at ha
              refine ha.mono ?_
              rintro e w'' ⟨b, rfl, hb, f⟩
              exact ⟨by rw [hb.2 HVA.out], ⟨w'', q.fr.trans f⟩, rfl⟩
            have HNEA := hide hneA
            clear hstA hshA hfrA hvA hneA
            go_wp2_with fail
            have hinst : Nonempty (ClN wx) := ⟨⟨wx, Fr.refl No wx⟩⟩
            refine wp_region_quiet_cl (fun W' => ∃ q : ClN wx, W' = q.w) (by kernel_rfl) (by kernel_rfl) ⟨⟨_, (Fr.refl No wx).drew⟩, rfl⟩ ?_
            repeat (go_big_quiet_step ((go_at_call 22; exact HAL.out _)))
            refine wpQuiet_nil ?_
            rintro Wc ⟨⟨Wc, fA⟩, rfl⟩
            have hbA := HSTA.out.fr fA fun h => h
            have hshB := HSHA.out.no fA
            have HFB := hide (HFA.out.trans fA)
            have HSZA := hide (hshB.more (Nat.le_refl _) fA.size)
            clear xa0 xa1 xa2 xa3 xa4 pr0 hd0 hd1 hd2 hd3 hd4 HAL hinst fA hshB
            obtain ⟨x0, x1', x2', x3, x4, xf⟩ := Blk.cells5 (a := .int .u8 kA) (b := .int .i64 nA) (c := .string sA) (d := .slice AA lA.length pA) (e := .int .i64 rA) hbA
            have xq := hbA.lt
            have hov := spoil4_any (T.mk kA nA sA AA pA lA rA) Wc wr.heap.size Wc.heap.size HSZA.out.ow (Nat.le_refl _)
            rw [T.val_mk] at hov
            have HOV := hide hov
            clear hbA hov
            go_wp2_with fail
            refine HOV.out.mono ?_
            rintro e wB ⟨⟨v, rfl⟩, fB⟩
            have HFC : Hid (Fr No wr wB) := hide (HFB.out.trans' fB fun i hi h => by have := (T.In.blocks _ HSZA.out.inn _ h).1; omega)
            clear x0 x1' x2' x3 x4 xf xq fB HOV
            go_wp2_with fail
            clear HSTA HSHA HFA HVA HFB HSZA HNEA
            have HROWB := hide (fun w' (f : Fr No wB w') => HROW.out w' (HFC.out.trans f))
            refine wp_region_inv (I := fun a0 f a wx => ∃ y0 y1 y2 y3 y4 y5 y6 y7 y8 y9 y10 y11 y12 y13 y14 y16 t ga, a = ((((((((((((((((a0.put (some 157) y0).put (some 158) y1).put (some 159) y2).put (some 160) y3).put (some 161) y4).put (some 162) y5).put (some 163) y6).put (some 164) y7).put (some 165) y8).put (some 166) y9).put (some 167) y10).put (some 156) y11).put (some 168) y12).put (some 169) y13).put (some 20) y14).put (some 21) y16) ∧ OR (⟨wb, x1, go, j, gx, .slice (some ⟨go, 0, none⟩) 6 co, .slice (some ⟨gx, 0, none⟩) bx.length c1, 0, (T.mk k2 n2 s2 A2t p2 l2 r2).v⟩ : OC) wB f [y0, y1, y2, y3, y4, y5, y6, y7, y8, y9, y10, y11, y12, y13, y14, undef, y16] t ga wx) (by kernel_rfl) (by kernel_rfl) ?st ?step ?en
            case st => exact ⟨_, _, _, _, _, _, _, _, _, _, _, _, _, _, _, _, T.zero, 0, by simp only [Act.put, List.setIfInBounds_toArray, List.set_cons_zero, List.set_cons_succ] <;> rfl, OR.begin _ wB _ _⟩
            case step => as_aux_lemma =>
              rintro i oo f a wx ho hf hd ⟨y0, y1, y2, y3, y4, y5, y6, y7, y8, y9, y10, y11, y12, y13, y14, y16, t, ga, rfl, J⟩ K' hK
              have hidx := (Array.getElem?_eq_some_iff.1 ho).1
              simp only [List.size_toArray, List.length_cons, List.length_nil] at hidx
              have hid : i = 0 ∨ i = 1 ∨ i = 2 ∨ i = 3 ∨ i = 4 ∨ i = 5 ∨ i = 6 ∨ i = 7 ∨ i = 8 ∨ i = 9 ∨ i = 10 ∨ i = 11 ∨ i = 12 ∨ i = 13 ∨ i = 14 ∨ i = 15 ∨ i = 16 := by omega
              simp only [Act.put, List.setIfInBounds_toArray, List.set_cons_zero, List.set_cons_succ]
              rcases hid with rfl | rfl | rfl | rfl | rfl | rfl | rfl | rfl | rfl | rfl | rfl | rfl | rfl | rfl | rfl | rfl | rfl
              · simp only [List.getElem?_toArray, List.getElem?_cons_zero, Option.some.injEq] at ho; subst ho
                have HJ := hide J
                have HFI := hide hf
                clear J hd hf 
                go_simp
                exact hK.out _ _ ⟨_, _, _, _, _, _, _, _, _, _, _, _, _, _, _, _, _, _, by simp only [Act.put, List.setIfInBounds_toArray, List.set_cons_zero, List.set_cons_succ] <;> rfl, HJ.out.quiet (i := 0) (by decide) (by simp) (by omega)⟩
              · simp only [List.getElem?_toArray, List.getElem?_cons_succ, List.getElem?_cons_zero, Option.some.injEq] at ho; subst ho
                have HJ := hide J
                have HFI := hide hf
                clear J hd hf 
                go_simp
                exact hK.out _ _ ⟨_, _, _, _, _, _, _, _, _, _, _, _, _, _, _, _, _, _, by simp only [Act.put, List.setIfInBounds_toArray, List.set_cons_zero, List.set_cons_succ] <;> rfl, HJ.out.quiet (i := 1) (by decide) (by simp) (by omega)⟩
              · simp only [List.getElem?_toArray, List.getElem?_cons_succ, List.getElem?_cons_zero, Option.some.injEq] at ho; subst ho
                have HJ := hide J
                have HFI := hide hf
                clear J hd hf 
                go_simp
                exact hK.out _ _ ⟨_, _, _, _, _, _, _, _, _, _, _, _, _, _, _, _, _, _, by simp only [Act.put, List.setIfInBounds_toArray, List.set_cons_zero, List.set_cons_succ] <;> rfl, HJ.out.quiet (i := 2) (by decide) (by simp) (by omega)⟩
              · simp only [List.getElem?_toArray, List.getElem?_cons_succ, List.getElem?_cons_zero, Option.some.injEq] at ho; subst ho
                have b1 := hd ⟨1, .data⟩ (by simp) (by rfl)
                obtain rfl : y1 = .slice (some ⟨go, 0, none⟩) 6 co := J.x 1 b1 (by decide)
                have b2 := hd ⟨2, .data⟩ (by simp) (by rfl)
                obtain rfl : y2 = .int .i64 (x1 : Int) := J.x 2 b2 (by decide)
                have HJ := hide J
                have HFI := hide hf
                have B1 := hide b1
                have B2 := hide b2
                clear J hd hf b1 b2
                go_simp
                exact hK.out _ _ ⟨_, _, _, _, _, _, _, _, _, _, _, _, _, _, _, _, _, _, by simp only [Act.put, List.setIfInBounds_toArray, List.set_cons_zero, List.set_cons_succ] <;> rfl, HJ.out.quiet (i := 3) (by decide) (by simp) (by omega)⟩
              · simp only [List.getElem?_toArray, List.getElem?_cons_succ, List.getElem?_cons_zero, Option.some.injEq] at ho; subst ho
                have b3 := hd ⟨3, .data⟩ (by simp) (by rfl)
                obtain rfl : y3 = .pointer (some ⟨go, x1, none⟩) := J.x 3 b3 (by decide)
                obtain ⟨z0, z1, z2, z3⟩ := HROWB.out wx J.fr
                have HJ := hide J
                have HFI := hide hf
                have B3 := hide b3
                clear J hd hf b3
                go_simp
                exact hK.out _ _ ⟨_, _, _, _, _, _, _, _, _, _, _, _, _, _, _, _, _, _, by simp only [Act.put, List.setIfInBounds_toArray, List.set_cons_zero, List.set_cons_succ] <;> rfl, HJ.out.quiet (i := 4) (by decide) (by simp) (by omega)⟩
              · simp only [List.getElem?_toArray, List.getElem?_cons_succ, List.getElem?_cons_zero, Option.some.injEq] at ho; subst ho
                have HJ := hide J
                have HFI := hide hf
                clear J hd hf 
                go_simp
                exact hK.out _ _ ⟨_, _, _, _, _, _, _, _, _, _, _, _, _, _, _, _, _, _, by simp only [Act.put, List.setIfInBounds_toArray, List.set_cons_zero, List.set_cons_succ] <;> rfl, HJ.out.quiet (i := 5) (by decide) (by simp) (by omega)⟩
              · simp only [List.getElem?_toArray, List.getElem?_cons_succ, List.getElem?_cons_zero, Option.some.injEq] at ho; subst ho
                have HJ := hide J
                have HFI := hide hf
                clear J hd hf 
                go_simp
                exact hK.out _ _ ⟨_, _, _, _, _, _, _, _, _, _, _, _, _, _, _, _, _, _, by simp only [Act.put, List.setIfInBounds_toArray, List.set_cons_zero, List.set_cons_succ] <;> rfl, HJ.out.quiet (i := 6) (by decide) (by simp) (by omega)⟩
              · simp only [List.getElem?_toArray, List.getElem?_cons_succ, List.getElem?_cons_zero, Option.some.injEq] at ho; subst ho
                have b5 := hd ⟨5, .data⟩ (by simp) (by rfl)
                obtain rfl : y5 = .slice (some ⟨gx, 0, none⟩) bx.length c1 := J.x 5 b5 (by decide)
                have b6 := hd ⟨6, .data⟩ (by simp) (by rfl)
                obtain rfl : y6 = .int .i64 (j : Int) := J.x 6 b6 (by decide)
                have HJ := hide J
                have HFI := hide hf
                have B5 := hide b5
                have B6 := hide b6
                clear J hd hf b5 b6
                go_simp
                exact hK.out _ _ ⟨_, _, _, _, _, _, _, _, _, _, _, _, _, _, _, _, _, _, by simp only [Act.put, List.setIfInBounds_toArray, List.set_cons_zero, List.set_cons_succ] <;> rfl, HJ.out.quiet (i := 7) (by decide) (by simp) (by omega)⟩
              · simp only [List.getElem?_toArray, List.getElem?_cons_succ, List.getElem?_cons_zero, Option.some.injEq] at ho; subst ho
                have b7 := hd ⟨7, .data⟩ (by simp) (by rfl)
                obtain rfl : y7 = .pointer (some ⟨gx, j, none⟩) := J.x 7 b7 (by decide)
                obtain ⟨z0, z1, z2, z3⟩ := HROWB.out wx J.fr
                have HJ := hide J
                have HFI := hide hf
                have B7 := hide b7
                clear J hd hf b7
                go_simp
                exact hK.out _ _ ⟨_, _, _, _, _, _, _, _, _, _, _, _, _, _, _, _, _, _, by simp only [Act.put, List.setIfInBounds_toArray, List.set_cons_zero, List.set_cons_succ] <;> rfl, HJ.out.quiet (i := 8) (by decide) (by simp) (by omega)⟩
              · simp only [List.getElem?_toArray, List.getElem?_cons_succ, List.getElem?_cons_zero, Option.some.injEq] at ho; subst ho
                have b8 := hd ⟨8, .data⟩ (by simp) (by rfl)
                obtain rfl : y8 = .int .i64 (13 + (j : Int)) := J.x 8 b8 (by decide)
                have HJ := hide J
                have HFI := hide hf
                have B8 := hide b8
                clear J hd hf b8
                go_simp
                refine (hold_any (13 + (j : Int)) wx).mono ?_
                rintro e w2 ⟨rfl, f2⟩
                have HF2 := hide f2
                clear f2
                try go_simp
                exact hK.out _ _ ⟨_, _, _, _, _, _, _, _, _, _, _, _, _, _, _, _, _, _, by simp only [Act.put, List.setIfInBounds_toArray, List.set_cons_zero, List.set_cons_succ] <;> rfl, HJ.out.hold HF2.out (by simp)⟩
              · simp only [List.getElem?_toArray, List.getElem?_cons_succ, List.getElem?_cons_zero, Option.some.injEq] at ho; subst ho
                have b0 := hd ⟨0, .data⟩ (by simp) (by rfl)
                obtain rfl : y0 = .pointer (some ⟨wb, 0, none⟩) := J.x 0 b0 (by decide)
                have b4 := hd ⟨4, .data⟩ (by simp) (by rfl)
                obtain rfl : y4 = .int .i64 (2 * (x1 : Int) + 2) := J.x 4 b4 (by decide)
                have b9 := hd ⟨9, .data⟩ (by simp) (by rfl)
                obtain rfl : y9 = .agg #[.int .u8 4, .int .i64 0, .string ⟨#[]⟩, .slice none 0 0, .int .i64 (13 + (j : Int))] := J.x 9 b9 (by decide)
                have hc := HOPB.out wx (HFC.out.trans J.fr)
                have FX := hide J.fr
                have HJ := hide J
                have HFI := hide hf
                have B0 := hide b0
                have B4 := hide b4
                have B9 := hide b9
                clear J hd hf b0 b4 b9
                go_simp
                refine hc.mono ?_
                rintro e w2 ⟨t2, rfl, hv, hsh, f2⟩
                have HV := hide hv
                have HSH := hide hsh
                have HF2 := hide f2
                clear hv hsh f2 hc
                try go_simp
                exact hK.out _ _ ⟨_, _, _, _, _, _, _, _, _, _, _, _, _, _, _, _, t2, _, by simp only [Act.put, List.setIfInBounds_toArray, List.set_cons_zero, List.set_cons_succ] <;> rfl, HJ.out.open_ HFI.out HF2.out HV.out HSH.out (by simp)⟩
              · simp only [List.getElem?_toArray, List.getElem?_cons_succ, List.getElem?_cons_zero, Option.some.injEq] at ho; subst ho
                have b10 := hd ⟨10, .data⟩ (by simp) (by rfl)
                obtain rfl : y10 = .tuple #[t.val, .int .i64 0] := J.x 10 b10 (by decide)
                obtain ⟨k8, n8, s8, A8, p8, l8, r8⟩ := t
                rw [T.val_mk]
                have HJ := hide J
                have HFI := hide hf
                have B10 := hide b10
                clear J hd hf b10
                go_simp
                exact hK.out _ _ ⟨_, _, _, _, _, _, _, _, _, _, _, _, _, _, _, _, _, _, by simp only [Act.put, List.setIfInBounds_toArray, List.set_cons_zero, List.set_cons_succ] <;> rfl, HJ.out.quiet (i := 11) (by decide) (by simp) (fun _ => B10.out)⟩
              · simp only [List.getElem?_toArray, List.getElem?_cons_succ, List.getElem?_cons_zero, Option.some.injEq] at ho; subst ho
                have b11 := hd ⟨11, .data⟩ (by simp) (by rfl)
                obtain rfl : y11 = .tuple #[t.val, .int .i64 0] := J.x 11 b11 (by decide)
                obtain ⟨k8, n8, s8, A8, p8, l8, r8⟩ := t
                rw [T.val_mk]
                have HJ := hide J
                have HFI := hide hf
                have B11 := hide b11
                clear J hd hf b11
                go_simp
                exact hK.out _ _ ⟨_, _, _, _, _, _, _, _, _, _, _, _, _, _, _, _, _, _, by simp only [Act.put, List.setIfInBounds_toArray, List.set_cons_zero, List.set_cons_succ] <;> rfl, HJ.out.quiet (i := 12) (by decide) (by simp) (fun _ => HJ.out.d10 (.inl B11.out))⟩
              · simp only [List.getElem?_toArray, List.getElem?_cons_succ, List.getElem?_cons_zero, Option.some.injEq] at ho; subst ho
                have b11 := hd ⟨11, .data⟩ (by simp) (by rfl)
                obtain rfl : y11 = .tuple #[t.val, .int .i64 0] := J.x 11 b11 (by decide)
                obtain ⟨k8, n8, s8, A8, p8, l8, r8⟩ := t
                rw [T.val_mk]
                have HJ := hide J
                have HFI := hide hf
                have B11 := hide b11
                clear J hd hf b11
                go_simp
                exact hK.out _ _ ⟨_, _, _, _, _, _, _, _, _, _, _, _, _, _, _, _, _, _, by simp only [Act.put, List.setIfInBounds_toArray, List.set_cons_zero, List.set_cons_succ] <;> rfl, HJ.out.quiet (i := 13) (by decide) (by simp) (fun _ => HJ.out.d10 (.inl B11.out))⟩
              · simp only [List.getElem?_toArray, List.getElem?_cons_succ, List.getElem?_cons_zero, Option.some.injEq] at ho; subst ho
                have HJ := hide J
                have HFI := hide hf
                clear J hd hf 
                go_simp
                exact hK.out _ _ ⟨_, _, _, _, _, _, _, _, _, _, _, _, _, _, _, _, _, _, by simp only [Act.put, List.setIfInBounds_toArray, List.set_cons_zero, List.set_cons_succ] <;> rfl, HJ.out.alloc HFI.out (by simp)⟩
              · simp only [List.getElem?_toArray, List.getElem?_cons_succ, List.getElem?_cons_zero, Option.some.injEq] at ho; subst ho
                have b14 := hd ⟨14, .data⟩ (by simp) (by rfl)
                obtain rfl : y14 = .pointer (some ⟨ga, 0, none⟩) := J.x 14 b14 (by decide)
                have b12 := hd ⟨12, .data⟩ (by simp) (by rfl)
                obtain rfl : y12 = t.val := J.x 12 b12 (by decide)
                have b10 := J.d10 (.inr (.inl b12))
                obtain ⟨hB, hga⟩ := J.al b14 hf
                obtain ⟨k8, n8, s8, A8, p8, l8, r8⟩ := t
                have hset := sets5v wx ga 37 (.int .u8 0) (.int .i64 0) (.string ⟨#[]⟩) (.slice none 0 0) (.int .i64 0) (.int .u8 k8) (.int .i64 n8) (.string s8) (.slice A8 l8.length p8) (.int .i64 r8) hB
                obtain ⟨x0, x1, x2, x3, x4, xf⟩ := Blk.cells5 (a := .int .u8 0) (b := .int .i64 0) (c := .string ⟨#[]⟩) (d := .slice none 0 0) (e := .int .i64 0) hB
                have xq := hB.lt
                rw [T.val_mk]
                have HJS := hide (J.store hf b10 b14 hset.2 hset.1)
                clear hset hB hga b10
                have HJ := hide J
                have HFI := hide hf
                have B14 := hide b14
                have B12 := hide b12
                clear J hd hf b14 b12
                go_simp
                exact hK.out _ _ ⟨_, _, _, _, _, _, _, _, _, _, _, _, _, _, _, _, _, _, by simp only [Act.put, List.setIfInBounds_toArray, List.set_cons_zero, List.set_cons_succ] <;> rfl, HJS.out⟩
              · simp only [List.getElem?_toArray, List.getElem?_cons_succ, List.getElem?_cons_zero, Option.some.injEq] at ho; subst ho
                have b13 := hd ⟨13, .data⟩ (by simp) (by rfl)
                obtain rfl : y13 = .int .i64 0 := J.x 13 b13 (by decide)
                have HJ := hide J
                have HFI := hide hf
                have B13 := hide b13
                clear J hd hf b13
                go_simp
                exact hK.out _ _ ⟨_, _, _, _, _, _, _, _, _, _, _, _, _, _, _, _, _, _, by simp only [Act.put, List.setIfInBounds_toArray, List.set_cons_zero, List.set_cons_succ] <;> rfl, HJ.out.quiet (i := 16) (by decide) (by simp) (fun _ => HJ.out.d10 (.inr (.inr (.inl B13.out))))⟩
            case en => as_aux_lemma =>
              rintro f a wx hall ⟨y0, y1, y2, y3, y4, y5, y6, y7, y8, y9, y10, y11, y12, y13, y14, y16, tB, gaB, rfl, J⟩
              obtain rfl : y14 = .pointer (some ⟨gaB, 0, none⟩) := J.x 14 (hall 14 (by simp)) (by decide)
              obtain rfl : y16 = .int .i64 0 := J.x 16 (hall 16 (by simp)) (by decide)
              simp only [Act.put, List.setIfInBounds_toArray, List.set_cons_zero, List.set_cons_succ]
              obtain ⟨hvB, hshB⟩ := J.an (hall 10 (by simp))
              obtain ⟨hstB, hgaB⟩ := J.st (hall 15 (by simp))
              have hneB := J.ne (hall 10 (by simp)) (hall 14 (by simp))
              have hfrB := J.fr
              clear J hall
              obtain ⟨kA, nA, sA, AA, pA, lA, rA⟩ := tB
              have HSTA := hide hstB
              have HSHA := hide hshB
              have HFA := hide (HFC.out.trans hfrB)
              have HVA := hide hvB
              have hszA := HFA.out.size
              have pr0 : ∀ q : ClN wx, q.w.cell? ⟨gp, j, none⟩ = some (.int .i64 (x1 : Int)) := fun q => (HPAIR.out q.w (HFA.out.trans q.fr)).1
              have xa0 : ∀ q : ClN wx, q.w.cell? ⟨gaB, 0, none⟩ = some (.int .u8 kA) := fun q => (HSTA.out.fr q.fr fun h => h).cell 0
              have xa1 : ∀ q : ClN wx, q.w.cell? ⟨gaB, 1, none⟩ = some (.int .i64 nA) := fun q => (HSTA.out.fr q.fr fun h => h).cell 1
              have xa2 : ∀ q : ClN wx, q.w.cell? ⟨gaB, 2, none⟩ = some (.string sA) := fun q => (HSTA.out.fr q.fr fun h => h).cell 2
              have xa3 : ∀ q : ClN wx, q.w.cell? ⟨gaB, 3, none⟩ = some (.slice AA lA.length pA) := fun q => (HSTA.out.fr q.fr fun h => h).cell 3
              have xa4 : ∀ q : ClN wx, q.w.cell? ⟨gaB, 4, none⟩ = some (.int .i64 rA) := fun q => (HSTA.out.fr q.fr fun h => h).cell 4
              have hd0 : ∀ q : ClN wx, q.w.cell? ⟨gh, j * 5, none⟩ = some (.int .u8 k2) := fun q => (HHELD.out q.w (HFA.out.trans q.fr)).1
              have hd1 : ∀ q : ClN wx, q.w.cell? ⟨gh, j * 5 + 1, none⟩ = some (.int .i64 n2) := fun q => (HHELD.out q.w (HFA.out.trans q.fr)).2.1
              have hd2 : ∀ q : ClN wx, q.w.cell? ⟨gh, j * 5 + 2, none⟩ = some (.string s2) := fun q => (HHELD.out q.w (HFA.out.trans q.fr)).2.2.1
              have hd3 : ∀ q : ClN wx, q.w.cell? ⟨gh, j * 5 + 3, none⟩ = some (.slice A2t l2.length p2) := fun q => (HHELD.out q.w (HFA.out.trans q.fr)).2.2.2.1
              have hd4 : ∀ q : ClN wx, q.w.cell? ⟨gh, j * 5 + 4, none⟩ = some (.int .i64 r2) := fun q => (HHELD.out q.w (HFA.out.trans q.fr)).2.2.2.2
              have HAL : Hid (∀ q : ClN wx, Calls Try.prog 22 #[.agg #[.int .u8 kA, .int .i64 nA, .string sA, .slice AA lA.length pA, .int .i64 rA], .agg #[.int .u8 k2, .int .i64 n2, .string s2, .slice A2t l2.length p2, .int .i64 r2]] q.w fun e w'' => e = .returned (.bool true) ∧ ∃ q' : ClN wx, w'' = q'.w) := hide fun q => by
                have ha := alike_any (T.mk kA nA sA AA pA lA rA) (T.mk k2 n2 s2 A2t p2 l2 r2) q.w wB.heap.size wx.heap.size W.heap.size wr.heap.size (HSHA.out.inn.no q.fr (Nat.le_refl _)) q.fr.size (HIN2.out q.w (HFA.out.trans q.fr)) (Nat.le_trans hszA q.fr.size)
                rw [T.val_mk, T.val_mk] at ha
                refine ha.mono ?_
                rintro e w'' ⟨b, rfl, hb, f⟩
                exact ⟨by rw [hb.2 HVA.out], ⟨w'', q.fr.trans f⟩, rfl⟩
              clear hstB hshB hfrB hvB hneB
              go_wp2_with fail
              have hinst : Nonempty (ClN wx) := ⟨⟨wx, Fr.refl No wx⟩⟩
              refine wp_region_quiet_cl (fun W' => ∃ q : ClN wx, W' = q.w) (by kernel_rfl) (by kernel_rfl) ⟨⟨_, (Fr.refl No wx).drew⟩, rfl⟩ ?_
              repeat (go_big_quiet_step ((go_at_call 22; exact HAL.out _)))
              refine wpQuiet_nil ?_
              rintro Wc ⟨⟨Wc, fD⟩, rfl⟩
              have HFD := hide (HFA.out.trans fD)
              clear xa0 xa1 xa2 xa3 xa4 pr0 hd0 hd1 hd2 hd3 hd4 HAL hinst fD
              go_wp2_with fail
              go_roundw
              case rel => exact ⟨x1 + 1, hkl, by go_num, HFR.out.trans HFD.out⟩
              case measure => simp [intOf]; omega
        · have e1 : ((kk : Int) == (x1 : Int)) = false := by simp; omega
          have e2 : ((kk : Int) != (x1 : Int)) = true := by simp; omega
          simp only [hxk, if_false] at HOPA HOPB
          go_wp2_with fail
          refine wp_region_inv (I := fun a0 f a wx => ∃ y0 y1 y2 y3 y4 y5 y6 y7 y8 y9 y10 y11 y12 y13 y14 y16 t ga, a = ((((((((((((((((a0.put (some 105) y0).put (some 106) y1).put (some 107) y2).put (some 108) y3).put (some 109) y4).put (some 110) y5).put (some 111) y6).put (some 112) y7).put (some 113) y8).put (some 114) y9).put (some 115) y10).put (some 104) y11).put (some 116) y12).put (some 117) y13).put (some 18) y14).put (some 19) y16) ∧ OR (⟨wb, kk, go, j, gx, .slice (some ⟨go, 0, none⟩) 6 co, .slice (some ⟨gx, 0, none⟩) bx.length c1, 91, V.zero⟩ : OC) wr f [y0, y1, y2, y3, y4, y5, y6, y7, y8, y9, y10, y11, y12, y13, y14, undef, y16] t ga wx) (by kernel_rfl) (by kernel_rfl) ?st ?step ?en
          case st => exact ⟨_, _, _, _, _, _, _, _, _, _, _, _, _, _, _, _, T.zero, 0, by simp only [Act.put, List.setIfInBounds_toArray, List.set_cons_zero, List.set_cons_succ] <;> rfl, OR.begin _ wr _ _⟩
          case step => as_aux_lemma =>
            rintro i oo f a wx ho hf hd ⟨y0, y1, y2, y3, y4, y5, y6, y7, y8, y9, y10, y11, y12, y13, y14, y16, t, ga, rfl, J⟩ K' hK
            have hidx := (Array.getElem?_eq_some_iff.1 ho).1
            simp only [List.size_toArray, List.length_cons, List.length_nil] at hidx
            have hid : i = 0 ∨ i = 1 ∨ i = 2 ∨ i = 3 ∨ i = 4 ∨ i = 5 ∨ i = 6 ∨ i = 7 ∨ i = 8 ∨ i = 9 ∨ i = 10 ∨ i = 11 ∨ i = 12 ∨ i = 13 ∨ i = 14 ∨ i = 15 ∨ i = 16 := by omega
            simp only [Act.put, List.setIfInBounds_toArray, List.set_cons_zero, List.set_cons_succ]
            rcases hid with rfl | rfl | rfl | rfl | rfl | rfl | rfl | rfl | rfl | rfl | rfl | rfl | rfl | rfl | rfl | rfl | rfl
            · simp only [List.getElem?_toArray, List.getElem?_cons_zero, Option.some.injEq] at ho; subst ho
              have HJ := hide J
              have HFI := hide hf
              clear J hd hf 
              go_simp
              exact hK.out _ _ ⟨_, _, _, _, _, _, _, _, _, _, _, _, _, _, _, _, _, _, by simp only [Act.put, List.setIfInBounds_toArray, List.set_cons_zero, List.set_cons_succ] <;> rfl, HJ.out.quiet (i := 0) (by decide) (by simp) (by omega)⟩
            · simp only [List.getElem?_toArray, List.getElem?_cons_succ, List.getElem?_cons_zero, Option.some.injEq] at ho; subst ho
              have HJ := hide J
              have HFI := hide hf
              clear J hd hf 
              go_simp
              exact hK.out _ _ ⟨_, _, _, _, _, _, _, _, _, _, _, _, _, _, _, _, _, _, by simp only [Act.put, List.setIfInBounds_toArray, List.set_cons_zero, List.set_cons_succ] <;> rfl, HJ.out.quiet (i := 1) (by decide) (by simp) (by omega)⟩
            · simp only [List.getElem?_toArray, List.getElem?_cons_succ, List.getElem?_cons_zero, Option.some.injEq] at ho; subst ho
              have HJ := hide J
              have HFI := hide hf
              clear J hd hf 
              go_simp
              exact hK.out _ _ ⟨_, _, _, _, _, _, _, _, _, _, _, _, _, _, _, _, _, _, by simp only [Act.put, List.setIfInBounds_toArray, List.set_cons_zero, List.set_cons_succ] <;> rfl, HJ.out.quiet (i := 2) (by decide) (by simp) (by omega)⟩
            · simp only [List.getElem?_toArray, List.getElem?_cons_succ, List.getElem?_cons_zero, Option.some.injEq] at ho; subst ho
              have b1 := hd ⟨1, .data⟩ (by simp) (by rfl)
              obtain rfl : y1 = .slice (some ⟨go, 0, none⟩) 6 co := J.x 1 b1 (by decide)
              have b2 := hd ⟨2, .data⟩ (by simp) (by rfl)
              obtain rfl : y2 = .int .i64 (kk : Int) := J.x 2 b2 (by decide)
              have HJ := hide J
              have HFI := hide hf
              have B1 := hide b1
              have B2 := hide b2
              clear J hd hf b1 b2
              go_simp
              exact hK.out _ _ ⟨_, _, _, _, _, _, _, _, _, _, _, _, _, _, _, _, _, _, by simp only [Act.put, List.setIfInBounds_toArray, List.set_cons_zero, List.set_cons_succ] <;> rfl, HJ.out.quiet (i := 3) (by decide) (by simp) (by omega)⟩
            · simp only [List.getElem?_toArray, List.getElem?_cons_succ, List.getElem?_cons_zero, Option.some.injEq] at ho; subst ho
              have b3 := hd ⟨3, .data⟩ (by simp) (by rfl)
              obtain rfl : y3 = .pointer (some ⟨go, kk, none⟩) := J.x 3 b3 (by decide)
              obtain ⟨z0, z1, z2, z3⟩ := HROW.out wx J.fr
              have HJ := hide J
              have HFI := hide hf
              have B3 := hide b3
              clear J hd hf b3
              go_simp
              exact hK.out _ _ ⟨_, _, _, _, _, _, _, _, _, _, _, _, _, _, _, _, _, _, by simp only [Act.put, List.setIfInBounds_toArray, List.set_cons_zero, List.set_cons_succ] <;> rfl, HJ.out.quiet (i := 4) (by decide) (by simp) (by omega)⟩
            · simp only [List.getElem?_toArray, List.getElem?_cons_succ, List.getElem?_cons_zero, Option.some.injEq] at ho; subst ho
              have HJ := hide J
              have HFI := hide hf
              clear J hd hf 
              go_simp
              exact hK.out _ _ ⟨_, _, _, _, _, _, _, _, _, _, _, _, _, _, _, _, _, _, by simp only [Act.put, List.setIfInBounds_toArray, List.set_cons_zero, List.set_cons_succ] <;> rfl, HJ.out.quiet (i := 5) (by decide) (by simp) (by omega)⟩
            · simp only [List.getElem?_toArray, List.getElem?_cons_succ, List.getElem?_cons_zero, Option.some.injEq] at ho; subst ho
              have HJ := hide J
              have HFI := hide hf
              clear J hd hf 
              go_simp
              exact hK.out _ _ ⟨_, _, _, _, _, _, _, _, _, _, _, _, _, _, _, _, _, _, by simp only [Act.put, List.setIfInBounds_toArray, List.set_cons_zero, List.set_cons_succ] <;> rfl, HJ.out.quiet (i := 6) (by decide) (by simp) (by omega)⟩
            · simp only [List.getElem?_toArray, List.getElem?_cons_succ, List.getElem?_cons_zero, Option.some.injEq] at ho; subst ho
              have b5 := hd ⟨5, .data⟩ (by simp) (by rfl)
              obtain rfl : y5 = .slice (some ⟨gx, 0, none⟩) bx.length c1 := J.x 5 b5 (by decide)
              have b6 := hd ⟨6, .data⟩ (by simp) (by rfl)
              obtain rfl : y6 = .int .i64 (j : Int) := J.x 6 b6 (by decide)
              have HJ := hide J
              have HFI := hide hf
              have B5 := hide b5
              have B6 := hide b6
              clear J hd hf b5 b6
              go_simp
              exact hK.out _ _ ⟨_, _, _, _, _, _, _, _, _, _, _, _, _, _, _, _, _, _, by simp only [Act.put, List.setIfInBounds_toArray, List.set_cons_zero, List.set_cons_succ] <;> rfl, HJ.out.quiet (i := 7) (by decide) (by simp) (by omega)⟩
            · simp only [List.getElem?_toArray, List.getElem?_cons_succ, List.getElem?_cons_zero, Option.some.injEq] at ho; subst ho
              have b7 := hd ⟨7, .data⟩ (by simp) (by rfl)
              obtain rfl : y7 = .pointer (some ⟨gx, j, none⟩) := J.x 7 b7 (by decide)
              obtain ⟨z0, z1, z2, z3⟩ := HROW.out wx J.fr
              have HJ := hide J
              have HFI := hide hf
              have B7 := hide b7
              clear J hd hf b7
              go_simp
              exact hK.out _ _ ⟨_, _, _, _, _, _, _, _, _, _, _, _, _, _, _, _, _, _, by simp only [Act.put, List.setIfInBounds_toArray, List.set_cons_zero, List.set_cons_succ] <;> rfl, HJ.out.quiet (i := 8) (by decide) (by simp) (by omega)⟩
            · simp only [List.getElem?_toArray, List.getElem?_cons_succ, List.getElem?_cons_zero, Option.some.injEq] at ho; subst ho
              have b8 := hd ⟨8, .data⟩ (by simp) (by rfl)
              obtain rfl : y8 = .int .i64 (13 + (j : Int)) := J.x 8 b8 (by decide)
              have HJ := hide J
              have HFI := hide hf
              have B8 := hide b8
              clear J hd hf b8
              go_simp
              refine (hold_any (13 + (j : Int)) wx).mono ?_
              rintro e w2 ⟨rfl, f2⟩
              have HF2 := hide f2
              clear f2
              try go_simp
              exact hK.out _ _ ⟨_, _, _, _, _, _, _, _, _, _, _, _, _, _, _, _, _, _, by simp only [Act.put, List.setIfInBounds_toArray, List.set_cons_zero, List.set_cons_succ] <;> rfl, HJ.out.hold HF2.out (by simp)⟩
            · simp only [List.getElem?_toArray, List.getElem?_cons_succ, List.getElem?_cons_zero, Option.some.injEq] at ho; subst ho
              have b0 := hd ⟨0, .data⟩ (by simp) (by rfl)
              obtain rfl : y0 = .pointer (some ⟨wb, 0, none⟩) := J.x 0 b0 (by decide)
              have b4 := hd ⟨4, .data⟩ (by simp) (by rfl)
              obtain rfl : y4 = .int .i64 (2 * (kk : Int) + 2) := J.x 4 b4 (by decide)
              have b9 := hd ⟨9, .data⟩ (by simp) (by rfl)
              obtain rfl : y9 = .agg #[.int .u8 4, .int .i64 0, .string ⟨#[]⟩, .slice none 0 0, .int .i64 (13 + (j : Int))] := J.x 9 b9 (by decide)
              have hc := HOPA.out wx J.fr
              have FX := hide J.fr
              have HJ := hide J
              have HFI := hide hf
              have B0 := hide b0
              have B4 := hide b4
              have B9 := hide b9
              clear J hd hf b0 b4 b9
              go_simp
              refine hc.mono ?_
              rintro e w2 ⟨t2, rfl, hv, hsh, f2⟩
              have HV := hide hv
              have HSH := hide hsh
              have HF2 := hide f2
              clear hv hsh f2 hc
              try go_simp
              exact hK.out _ _ ⟨_, _, _, _, _, _, _, _, _, _, _, _, _, _, _, _, t2, _, by simp only [Act.put, List.setIfInBounds_toArray, List.set_cons_zero, List.set_cons_succ] <;> rfl, HJ.out.open_ HFI.out HF2.out HV.out HSH.out (by simp)⟩
            · simp only [List.getElem?_toArray, List.getElem?_cons_succ, List.getElem?_cons_zero, Option.some.injEq] at ho; subst ho
              have b10 := hd ⟨10, .data⟩ (by simp) (by rfl)
              obtain rfl : y10 = .tuple #[t.val, .int .i64 91] := J.x 10 b10 (by decide)
              obtain ⟨k8, n8, s8, A8, p8, l8, r8⟩ := t
              rw [T.val_mk]
              have HJ := hide J
              have HFI := hide hf
              have B10 := hide b10
              clear J hd hf b10
              go_simp
              exact hK.out _ _ ⟨_, _, _, _, _, _, _, _, _, _, _, _, _, _, _, _, _, _, by simp only [Act.put, List.setIfInBounds_toArray, List.set_cons_zero, List.set_cons_succ] <;> rfl, HJ.out.quiet (i := 11) (by decide) (by simp) (fun _ => B10.out)⟩
            · simp only [List.getElem?_toArray, List.getElem?_cons_succ, List.getElem?_cons_zero, Option.some.injEq] at ho; subst ho
              have b11 := hd ⟨11, .data⟩ (by simp) (by rfl)
              obtain rfl : y11 = .tuple #[t.val, .int .i64 91] := J.x 11 b11 (by decide)
              obtain ⟨k8, n8, s8, A8, p8, l8, r8⟩ := t
              rw [T.val_mk]
              have HJ := hide J
              have HFI := hide hf
              have B11 := hide b11
              clear J hd hf b11
              go_simp
              exact hK.out _ _ ⟨_, _, _, _, _, _, _, _, _, _, _, _, _, _, _, _, _, _, by simp only [Act.put, List.setIfInBounds_toArray, List.set_cons_zero, List.set_cons_succ] <;> rfl, HJ.out.quiet (i := 12) (by decide) (by simp) (fun _ => HJ.out.d10 (.inl B11.out))⟩
            · simp only [List.getElem?_toArray, List.getElem?_cons_succ, List.getElem?_cons_zero, Option.some.injEq] at ho; subst ho
              have b11 := hd ⟨11, .data⟩ (by simp) (by rfl)
              obtain rfl : y11 = .tuple #[t.val, .int .i64 91] := J.x 11 b11 (by decide)
              obtain ⟨k8, n8, s8, A8, p8, l8, r8⟩ := t
              rw [T.val_mk]
              have HJ := hide J
              have HFI := hide hf
              have B11 := hide b11
              clear J hd hf b11
              go_simp
              exact hK.out _ _ ⟨_, _, _, _, _, _, _, _, _, _, _, _, _, _, _, _, _, _, by simp only [Act.put, List.setIfInBounds_toArray, List.set_cons_zero, List.set_cons_succ] <;> rfl, HJ.out.quiet (i := 13) (by decide) (by simp) (fun _ => HJ.out.d10 (.inl B11.out))⟩
            · simp only [List.getElem?_toArray, List.getElem?_cons_succ, List.getElem?_cons_zero, Option.some.injEq] at ho; subst ho
              have HJ := hide J
              have HFI := hide hf
              clear J hd hf 
              go_simp
              exact hK.out _ _ ⟨_, _, _, _, _, _, _, _, _, _, _, _, _, _, _, _, _, _, by simp only [Act.put, List.setIfInBounds_toArray, List.set_cons_zero, List.set_cons_succ] <;> rfl, HJ.out.alloc HFI.out (by simp)⟩
            · simp only [List.getElem?_toArray, List.getElem?_cons_succ, List.getElem?_cons_zero, Option.some.injEq] at ho; subst ho
              have b14 := hd ⟨14, .data⟩ (by simp) (by rfl)
              obtain rfl : y14 = .pointer (some ⟨ga, 0, none⟩) := J.x 14 b14 (by decide)
              have b12 := hd ⟨12, .data⟩ (by simp) (by rfl)
              obtain rfl : y12 = t.val := J.x 12 b12 (by decide)
              have b10 := J.d10 (.inr (.inl b12))
              obtain ⟨hB, hga⟩ := J.al b14 hf
              obtain ⟨k8, n8, s8, A8, p8, l8, r8⟩ := t
              have hset := sets5v wx ga 37 (.int .u8 0) (.int .i64 0) (.string ⟨#[]⟩) (.slice none 0 0) (.int .i64 0) (.int .u8 k8) (.int .i64 n8) (.string s8) (.slice A8 l8.length p8) (.int .i64 r8) hB
              obtain ⟨x0, x1, x2, x3, x4, xf⟩ := Blk.cells5 (a := .int .u8 0) (b := .int .i64 0) (c := .string ⟨#[]⟩) (d := .slice none 0 0) (e := .int .i64 0) hB
              have xq := hB.lt
              rw [T.val_mk]
              have HJS := hide (J.store hf b10 b14 hset.2 hset.1)
              clear hset hB hga b10
              have HJ := hide J
              have HFI := hide hf
              have B14 := hide b14
              have B12 := hide b12
              clear J hd hf b14 b12
              go_simp
              exact hK.out _ _ ⟨_, _, _, _, _, _, _, _, _, _, _, _, _, _, _, _, _, _, by simp only [Act.put, List.setIfInBounds_toArray, List.set_cons_zero, List.set_cons_succ] <;> rfl, HJS.out⟩
            · simp only [List.getElem?_toArray, List.getElem?_cons_succ, List.getElem?_cons_zero, Option.some.injEq] at ho; subst ho
              have b13 := hd ⟨13, .data⟩ (by simp) (by rfl)
              obtain rfl : y13 = .int .i64 91 := J.x 13 b13 (by decide)
              have HJ := hide J
              have HFI := hide hf
              have B13 := hide b13
              clear J hd hf b13
              go_simp
              exact hK.out _ _ ⟨_, _, _, _, _, _, _, _, _, _, _, _, _, _, _, _, _, _, by simp only [Act.put, List.setIfInBounds_toArray, List.set_cons_zero, List.set_cons_succ] <;> rfl, HJ.out.quiet (i := 16) (by decide) (by simp) (fun _ => HJ.out.d10 (.inr (.inr (.inl B13.out))))⟩
          case en => as_aux_lemma =>
            rintro f a wx hall ⟨y0, y1, y2, y3, y4, y5, y6, y7, y8, y9, y10, y11, y12, y13, y14, y16, tA, gaA, rfl, J⟩
            obtain rfl : y14 = .pointer (some ⟨gaA, 0, none⟩) := J.x 14 (hall 14 (by simp)) (by decide)
            obtain rfl : y16 = .int .i64 91 := J.x 16 (hall 16 (by simp)) (by decide)
            simp only [Act.put, List.setIfInBounds_toArray, List.set_cons_zero, List.set_cons_succ]
            obtain ⟨hvA, hshA⟩ := J.an (hall 10 (by simp))
            obtain ⟨hstA, hgaA⟩ := J.st (hall 15 (by simp))
            have hneA := J.ne (hall 10 (by simp)) (hall 14 (by simp))
            have hfrA := J.fr
            clear J hall
            obtain ⟨kA, nA, sA, AA, pA, lA, rA⟩ := tA
            have HSTA := hide hstA
            have HSHA := hide hshA
            have HFA := hide hfrA
            have HVA := hide hvA
            have hszA := hfrA.size
            have xa0 : ∀ q : ClN wx, q.w.cell? ⟨gaA, 0, none⟩ = some (.int .u8 kA) := fun q => (HSTA.out.fr q.fr fun h => h).cell 0
            have xa1 : ∀ q : ClN wx, q.w.cell? ⟨gaA, 1, none⟩ = some (.int .i64 nA) := fun q => (HSTA.out.fr q.fr fun h => h).cell 1
            have xa2 : ∀ q : ClN wx, q.w.cell? ⟨gaA, 2, none⟩ = some (.string sA) := fun q => (HSTA.out.fr q.fr fun h => h).cell 2
            have xa3 : ∀ q : ClN wx, q.w.cell? ⟨gaA, 3, none⟩ = some (.slice AA lA.length pA) := fun q => (HSTA.out.fr q.fr fun h => h).cell 3
            have xa4 : ∀ q : ClN wx, q.w.cell? ⟨gaA, 4, none⟩ = some (.int .i64 rA) := fun q => (HSTA.out.fr q.fr fun h => h).cell 4
            have pr0 : ∀ q : ClN wx, q.w.cell? ⟨gp, j, none⟩ = some (.int .i64 (x1 : Int)) := fun q => (HPAIR.out q.w (HFA.out.trans q.fr)).1
            have HAL : Hid (∀ q : ClN wx, Calls Try.prog 23 #[.agg #[.int .u8 kA, .int .i64 nA, .string sA, .slice AA lA.length pA, .int .i64 rA]] q.w fun e w'' => e = .returned (.bool true) ∧ ∃ q' : ClN wx, w'' = q'.w) := hide fun q => by
              have ha := Nothing_any (T.mk kA nA sA AA pA lA rA) q.w wr.heap.size wx.heap.size (HSHA.out.inn.no q.fr (Nat.le_refl _)) q.fr.size HVA.out
              rw [T.val_mk] at ha
              refine ha.mono ?_
              rintro e w'' ⟨rfl, f⟩
              exact ⟨rfl, ⟨w'', q.fr.trans f⟩, rfl⟩
            have HNEA := hide hneA
            clear hstA hshA hfrA hvA hneA
            go_wp2_with fail
            have hinst : Nonempty (ClN wx) := ⟨⟨wx, Fr.refl No wx⟩⟩
            refine wp_region_quiet_cl (fun W' => ∃ q : ClN wx, W' = q.w) (by kernel_rfl) (by kernel_rfl) ⟨⟨_, (Fr.refl No wx).drew⟩, rfl⟩ ?_
            repeat (go_big_quiet_step ((go_at_call 23; exact HAL.out _)))
            refine wpQuiet_nil ?_
            rintro Wc ⟨⟨Wc, fA⟩, rfl⟩
            have hbA := HSTA.out.fr fA fun h => h
            have hshB := HSHA.out.no fA
            have HFB := hide (HFA.out.trans fA)
            have HSZA := hide (hshB.more (Nat.le_refl _) fA.size)
            clear xa0 xa1 xa2 xa3 xa4 pr0  HAL hinst fA hshB
            obtain ⟨x0, x1', x2', x3, x4, xf⟩ := Blk.cells5 (a := .int .u8 kA) (b := .int .i64 nA) (c := .string sA) (d := .slice AA lA.length pA) (e := .int .i64 rA) hbA
            have xq := hbA.lt
            have hov := spoil4_any (T.mk kA nA sA AA pA lA rA) Wc wr.heap.size Wc.heap.size HSZA.out.ow (Nat.le_refl _)
            rw [T.val_mk] at hov
            have HOV := hide hov
            clear hbA hov
            go_wp2_with fail
            refine HOV.out.mono ?_
            rintro e wB ⟨⟨v, rfl⟩, fB⟩
            have HFC : Hid (Fr No wr wB) := hide (HFB.out.trans' fB fun i hi h => by have := (T.In.blocks _ HSZA.out.inn _ h).1; omega)
            clear x0 x1' x2' x3 x4 xf xq fB HOV
            go_wp2_with fail
            clear HSTA HSHA HFA HVA HFB HSZA HNEA
            have HROWB := hide (fun w' (f : Fr No wB w') => HROW.out w' (HFC.out.trans f))
            refine wp_region_inv (I := fun a0 f a wx => ∃ y0 y1 y2 y3 y4 y5 y6 y7 y8 y9 y10 y11 y12 y13 y14 y16 t ga, a = ((((((((((((((((a0.put (some 157) y0).put (some 158) y1).put (some 159) y2).put (some 160) y3).put (some 161) y4).put (some 162) y5).put (some 163) y6).put (some 164) y7).put (some 165) y8).put (some 166) y9).put (some 167) y10).put (some 156) y11).put (some 168) y12).put (some 169) y13).put (some 20) y14).put (some 21) y16) ∧ OR (⟨wb, kk, go, j, gx, .slice (some ⟨go, 0, none⟩) 6 co, .slice (some ⟨gx, 0, none⟩) bx.length c1, 91, V.zero⟩ : OC) wB f [y0, y1, y2, y3, y4, y5, y6, y7, y8, y9, y10, y11, y12, y13, y14, undef, y16] t ga wx) (by kernel_rfl) (by kernel_rfl) ?st ?step ?en
            case st => exact ⟨_, _, _, _, _, _, _, _, _, _, _, _, _, _, _, _, T.zero, 0, by simp only [Act.put, List.setIfInBounds_toArray, List.set_cons_zero, List.set_cons_succ] <;> rfl, OR.begin _ wB _ _⟩
            case step => as_aux_lemma =>
              rintro i oo f a wx ho hf hd ⟨y0, y1, y2, y3, y4, y5, y6, y7, y8, y9, y10, y11, y12, y13, y14, y16, t, ga, rfl, J⟩ K' hK
              have hidx := (Array.getElem?_eq_some_iff.1 ho).1
              simp only [List.size_toArray, List.length_cons, List.length_nil] at hidx
              have hid : i = 0 ∨ i = 1 ∨ i = 2 ∨ i = 3 ∨ i = 4 ∨ i = 5 ∨ i = 6 ∨ i = 7 ∨ i = 8 ∨ i = 9 ∨ i = 10 ∨ i = 11 ∨ i = 12 ∨ i = 13 ∨ i = 14 ∨ i = 15 ∨ i = 16 := by omega
              simp only [Act.put, List.setIfInBounds_toArray, List.set_cons_zero, List.set_cons_succ]
              rcases hid with rfl | rfl | rfl | rfl | rfl | rfl | rfl | rfl | rfl | rfl | rfl | rfl | rfl | rfl | rfl | rfl | rfl
              · simp only [List.getElem?_toArray, List.getElem?_cons_zero, Option.some.injEq] at ho; subst ho
                have HJ := hide J
                have HFI := hide hf
                clear J hd hf 
                go_simp
                exact hK.out _ _ ⟨_, _, _, _, _, _, _, _, _, _, _, _, _, _, _, _, _, _, by simp only [Act.put, List.setIfInBounds_toArray, List.set_cons_zero, List.set_cons_succ] <;> rfl, HJ.out.quiet (i := 0) (by decide) (by simp) (by omega)⟩
              · simp only [List.getElem?_toArray, List.getElem?_cons_succ, List.getElem?_cons_zero, Option.some.injEq] at ho; subst ho
                have HJ := hide J
                have HFI := hide hf
                clear J hd hf 
                go_simp
                exact hK.out _ _ ⟨_, _, _, _, _, _, _, _, _, _, _, _, _, _, _, _, _, _, by simp only [Act.put, List.setIfInBounds_toArray, List.set_cons_zero, List.set_cons_succ] <;> rfl, HJ.out.quiet (i := 1) (by decide) (by simp) (by omega)⟩
              · simp only [List.getElem?_toArray, List.getElem?_cons_succ, List.getElem?_cons_zero, Option.some.injEq] at ho; subst ho
                have HJ := hide J
                have HFI := hide hf
                clear J hd hf 
                go_simp
                exact hK.out _ _ ⟨_, _, _, _, _, _, _, _, _, _, _, _, _, _, _, _, _, _, by simp only [Act.put, List.setIfInBounds_toArray, List.set_cons_zero, List.set_cons_succ] <;> rfl, HJ.out.quiet (i := 2) (by decide) (by simp) (by omega)⟩
              · simp only [List.getElem?_toArray, List.getElem?_cons_succ, List.getElem?_cons_zero, Option.some.injEq] at ho; subst ho
                have b1 := hd ⟨1, .data⟩ (by simp) (by rfl)
                obtain rfl : y1 = .slice (some ⟨go, 0, none⟩) 6 co := J.x 1 b1 (by decide)
                have b2 := hd ⟨2, .data⟩ (by simp) (by rfl)
                obtain rfl : y2 = .int .i64 (kk : Int) := J.x 2 b2 (by decide)
                have HJ := hide J
                have HFI := hide hf
                have B1 := hide b1
                have B2 := hide b2
                clear J hd hf b1 b2
                go_simp
                exact hK.out _ _ ⟨_, _, _, _, _, _, _, _, _, _, _, _, _, _, _, _, _, _, by simp only [Act.put, List.setIfInBounds_toArray, List.set_cons_zero, List.set_cons_succ] <;> rfl, HJ.out.quiet (i := 3) (by decide) (by simp) (by omega)⟩
              · simp only [List.getElem?_toArray, List.getElem?_cons_succ, List.getElem?_cons_zero, Option.some.injEq] at ho; subst ho
                have b3 := hd ⟨3, .data⟩ (by simp) (by rfl)
                obtain rfl : y3 = .pointer (some ⟨go, kk, none⟩) := J.x 3 b3 (by decide)
                obtain ⟨z0, z1, z2, z3⟩ := HROWB.out wx J.fr
                have HJ := hide J
                have HFI := hide hf
                have B3 := hide b3
                clear J hd hf b3
                go_simp
                exact hK.out _ _ ⟨_, _, _, _, _, _, _, _, _, _, _, _, _, _, _, _, _, _, by simp only [Act.put, List.setIfInBounds_toArray, List.set_cons_zero, List.set_cons_succ] <;> rfl, HJ.out.quiet (i := 4) (by decide) (by simp) (by omega)⟩
              · simp only [List.getElem?_toArray, List.getElem?_cons_succ, List.getElem?_cons_zero, Option.some.injEq] at ho; subst ho
                have HJ := hide J
                have HFI := hide hf
                clear J hd hf 
                go_simp
                exact hK.out _ _ ⟨_, _, _, _, _, _, _, _, _, _, _, _, _, _, _, _, _, _, by simp only [Act.put, List.setIfInBounds_toArray, List.set_cons_zero, List.set_cons_succ] <;> rfl, HJ.out.quiet (i := 5) (by decide) (by simp) (by omega)⟩
              · simp only [List.getElem?_toArray, List.getElem?_cons_succ, List.getElem?_cons_zero, Option.some.injEq] at ho; subst ho
                have HJ := hide J
                have HFI := hide hf
                clear J hd hf 
                go_simp
                exact hK.out _ _ ⟨_, _, _, _, _, _, _, _, _, _, _, _, _, _, _, _, _, _, by simp only [Act.put, List.setIfInBounds_toArray, List.set_cons_zero, List.set_cons_succ] <;> rfl, HJ.out.quiet (i := 6) (by decide) (by simp) (by omega)⟩
              · simp only [List.getElem?_toArray, List.getElem?_cons_succ, List.getElem?_cons_zero, Option.some.injEq] at ho; subst ho
                have b5 := hd ⟨5, .data⟩ (by simp) (by rfl)
                obtain rfl : y5 = .slice (some ⟨gx, 0, none⟩) bx.length c1 := J.x 5 b5 (by decide)
                have b6 := hd ⟨6, .data⟩ (by simp) (by rfl)
                obtain rfl : y6 = .int .i64 (j : Int) := J.x 6 b6 (by decide)
                have HJ := hide J
                have HFI := hide hf
                have B5 := hide b5
                have B6 := hide b6
                clear J hd hf b5 b6
                go_simp
                exact hK.out _ _ ⟨_, _, _, _, _, _, _, _, _, _, _, _, _, _, _, _, _, _, by simp only [Act.put, List.setIfInBounds_toArray, List.set_cons_zero, List.set_cons_succ] <;> rfl, HJ.out.quiet (i := 7) (by decide) (by simp) (by omega)⟩
              · simp only [List.getElem?_toArray, List.getElem?_cons_succ, List.getElem?_cons_zero, Option.some.injEq] at ho; subst ho
                have b7 := hd ⟨7, .data⟩ (by simp) (by rfl)
                obtain rfl : y7 = .pointer (some ⟨gx, j, none⟩) := J.x 7 b7 (by decide)
                obtain ⟨z0, z1, z2, z3⟩ := HROWB.out wx J.fr
                have HJ := hide J
                have HFI := hide hf
                have B7 := hide b7
                clear J hd hf b7
                go_simp
                exact hK.out _ _ ⟨_, _, _, _, _, _, _, _, _, _, _, _, _, _, _, _, _, _, by simp only [Act.put, List.setIfInBounds_toArray, List.set_cons_zero, List.set_cons_succ] <;> rfl, HJ.out.quiet (i := 8) (by decide) (by simp) (by omega)⟩
              · simp only [List.getElem?_toArray, List.getElem?_cons_succ, List.getElem?_cons_zero, Option.some.injEq] at ho; subst ho
                have b8 := hd ⟨8, .data⟩ (by simp) (by rfl)
                obtain rfl : y8 = .int .i64 (13 + (j : Int)) := J.x 8 b8 (by decide)
                have HJ := hide J
                have HFI := hide hf
                have B8 := hide b8
                clear J hd hf b8
                go_simp
                refine (hold_any (13 + (j : Int)) wx).mono ?_
                rintro e w2 ⟨rfl, f2⟩
                have HF2 := hide f2
                clear f2
                try go_simp
                exact hK.out _ _ ⟨_, _, _, _, _, _, _, _, _, _, _, _, _, _, _, _, _, _, by simp only [Act.put, List.setIfInBounds_toArray, List.set_cons_zero, List.set_cons_succ] <;> rfl, HJ.out.hold HF2.out (by simp)⟩
              · simp only [List.getElem?_toArray, List.getElem?_cons_succ, List.getElem?_cons_zero, Option.some.injEq] at ho; subst ho
                have b0 := hd ⟨0, .data⟩ (by simp) (by rfl)
                obtain rfl : y0 = .pointer (some ⟨wb, 0, none⟩) := J.x 0 b0 (by decide)
                have b4 := hd ⟨4, .data⟩ (by simp) (by rfl)
                obtain rfl : y4 = .int .i64 (2 * (kk : Int) + 2) := J.x 4 b4 (by decide)
                have b9 := hd ⟨9, .data⟩ (by simp) (by rfl)
                obtain rfl : y9 = .agg #[.int .u8 4, .int .i64 0, .string ⟨#[]⟩, .slice none 0 0, .int .i64 (13 + (j : Int))] := J.x 9 b9 (by decide)
                have hc := HOPB.out wx (HFC.out.trans J.fr)
                have FX := hide J.fr
                have HJ := hide J
                have HFI := hide hf
                have B0 := hide b0
                have B4 := hide b4
                have B9 := hide b9
                clear J hd hf b0 b4 b9
                go_simp
                refine hc.mono ?_
                rintro e w2 ⟨t2, rfl, hv, hsh, f2⟩
                have HV := hide hv
                have HSH := hide hsh
                have HF2 := hide f2
                clear hv hsh f2 hc
                try go_simp
                exact hK.out _ _ ⟨_, _, _, _, _, _, _, _, _, _, _, _, _, _, _, _, t2, _, by simp only [Act.put, List.setIfInBounds_toArray, List.set_cons_zero, List.set_cons_succ] <;> rfl, HJ.out.open_ HFI.out HF2.out HV.out HSH.out (by simp)⟩
              · simp only [List.getElem?_toArray, List.getElem?_cons_succ, List.getElem?_cons_zero, Option.some.injEq] at ho; subst ho
                have b10 := hd ⟨10, .data⟩ (by simp) (by rfl)
                obtain rfl : y10 = .tuple #[t.val, .int .i64 91] := J.x 10 b10 (by decide)
                obtain ⟨k8, n8, s8, A8, p8, l8, r8⟩ := t
                rw [T.val_mk]
                have HJ := hide J
                have HFI := hide hf
                have B10 := hide b10
                clear J hd hf b10
                go_simp
                exact hK.out _ _ ⟨_, _, _, _, _, _, _, _, _, _, _, _, _, _, _, _, _, _, by simp only [Act.put, List.setIfInBounds_toArray, List.set_cons_zero, List.set_cons_succ] <;> rfl, HJ.out.quiet (i := 11) (by decide) (by simp) (fun _ => B10.out)⟩
              · simp only [List.getElem?_toArray, List.getElem?_cons_succ, List.getElem?_cons_zero, Option.some.injEq] at ho; subst ho
                have b11 := hd ⟨11, .data⟩ (by simp) (by rfl)
                obtain rfl : y11 = .tuple #[t.val, .int .i64 91] := J.x 11 b11 (by decide)
                obtain ⟨k8, n8, s8, A8, p8, l8, r8⟩ := t
                rw [T.val_mk]
                have HJ := hide J
                have HFI := hide hf
                have B11 := hide b11
                clear J hd hf b11
                go_simp
                exact hK.out _ _ ⟨_, _, _, _, _, _, _, _, _, _, _, _, _, _, _, _, _, _, by simp only [Act.put, List.setIfInBounds_toArray, List.set_cons_zero, List.set_cons_succ] <;> rfl, HJ.out.quiet (i := 12) (by decide) (by simp) (fun _ => HJ.out.d10 (.inl B11.out))⟩
              · simp only [List.getElem?_toArray, List.getElem?_cons_succ, List.getElem?_cons_zero, Option.some.injEq] at ho; subst ho
                have b11 := hd ⟨11, .data⟩ (by simp) (by rfl)
                obtain rfl : y11 = .tuple #[t.val, .int .i64 91] := J.x 11 b11 (by decide)
                obtain ⟨k8, n8, s8, A8, p8, l8, r8⟩ := t
                rw [T.val_mk]
                have HJ := hide J
                have HFI := hide hf
                have B11 := hide b11
                clear J hd hf b11
                go_simp
                exact hK.out _ _ ⟨_, _, _, _, _, _, _, _, _, _, _, _, _, _, _, _, _, _, by simp only [Act.put, List.setIfInBounds_toArray, List.set_cons_zero, List.set_cons_succ] <;> rfl, HJ.out.quiet (i := 13) (by decide) (by simp) (fun _ => HJ.out.d10 (.inl B11.out))⟩
              · simp only [List.getElem?_toArray, List.getElem?_cons_succ, List.getElem?_cons_zero, Option.some.injEq] at ho; subst ho
                have HJ := hide J
                have HFI := hide hf
                clear J hd hf 
                go_simp
                exact hK.out _ _ ⟨_, _, _, _, _, _, _, _, _, _, _, _, _, _, _, _, _, _, by simp only [Act.put, List.setIfInBounds_toArray, List.set_cons_zero, List.set_cons_succ] <;> rfl, HJ.out.alloc HFI.out (by simp)⟩
              · simp only [List.getElem?_toArray, List.getElem?_cons_succ, List.getElem?_cons_zero, Option.some.injEq] at ho; subst ho
                have b14 := hd ⟨14, .data⟩ (by simp) (by rfl)
                obtain rfl : y14 = .pointer (some ⟨ga, 0, none⟩) := J.x 14 b14 (by decide)
                have b12 := hd ⟨12, .data⟩ (by simp) (by rfl)
                obtain rfl : y12 = t.val := J.x 12 b12 (by decide)
                have b10 := J.d10 (.inr (.inl b12))
                obtain ⟨hB, hga⟩ := J.al b14 hf
                obtain ⟨k8, n8, s8, A8, p8, l8, r8⟩ := t
                have hset := sets5v wx ga 37 (.int .u8 0) (.int .i64 0) (.string ⟨#[]⟩) (.slice none 0 0) (.int .i64 0) (.int .u8 k8) (.int .i64 n8) (.string s8) (.slice A8 l8.length p8) (.int .i64 r8) hB
                obtain ⟨x0, x1, x2, x3, x4, xf⟩ := Blk.cells5 (a := .int .u8 0) (b := .int .i64 0) (c := .string ⟨#[]⟩) (d := .slice none 0 0) (e := .int .i64 0) hB
                have xq := hB.lt
                rw [T.val_mk]
                have HJS := hide (J.store hf b10 b14 hset.2 hset.1)
                clear hset hB hga b10
                have HJ := hide J
                have HFI := hide hf
                have B14 := hide b14
                have B12 := hide b12
                clear J hd hf b14 b12
                go_simp
                exact hK.out _ _ ⟨_, _, _, _, _, _, _, _, _, _, _, _, _, _, _, _, _, _, by simp only [Act.put, List.setIfInBounds_toArray, List.set_cons_zero, List.set_cons_succ] <;> rfl, HJS.out⟩
              · simp only [List.getElem?_toArray, List.getElem?_cons_succ, List.getElem?_cons_zero, Option.some.injEq] at ho; subst ho
                have b13 := hd ⟨13, .data⟩ (by simp) (by rfl)
                obtain rfl : y13 = .int .i64 91 := J.x 13 b13 (by decide)
                have HJ := hide J
                have HFI := hide hf
                have B13 := hide b13
                clear J hd hf b13
                go_simp
                exact hK.out _ _ ⟨_, _, _, _, _, _, _, _, _, _, _, _, _, _, _, _, _, _, by simp only [Act.put, List.setIfInBounds_toArray, List.set_cons_zero, List.set_cons_succ] <;> rfl, HJ.out.quiet (i := 16) (by decide) (by simp) (fun _ => HJ.out.d10 (.inr (.inr (.inl B13.out))))⟩
            case en => as_aux_lemma =>
              rintro f a wx hall ⟨y0, y1, y2, y3, y4, y5, y6, y7, y8, y9, y10, y11, y12, y13, y14, y16, tB, gaB, rfl, J⟩
              obtain rfl : y14 = .pointer (some ⟨gaB, 0, none⟩) := J.x 14 (hall 14 (by simp)) (by decide)
              obtain rfl : y16 = .int .i64 91 := J.x 16 (hall 16 (by simp)) (by decide)
              simp only [Act.put, List.setIfInBounds_toArray, List.set_cons_zero, List.set_cons_succ]
              obtain ⟨hvB, hshB⟩ := J.an (hall 10 (by simp))
              obtain ⟨hstB, hgaB⟩ := J.st (hall 15 (by simp))
              have hneB := J.ne (hall 10 (by simp)) (hall 14 (by simp))
              have hfrB := J.fr
              clear J hall
              obtain ⟨kA, nA, sA, AA, pA, lA, rA⟩ := tB
              have HSTA := hide hstB
              have HSHA := hide hshB
              have HFA := hide (HFC.out.trans hfrB)
              have HVA := hide hvB
              have hszA := HFA.out.size
              have pr0 : ∀ q : ClN wx, q.w.cell? ⟨gp, j, none⟩ = some (.int .i64 (x1 : Int)) := fun q => (HPAIR.out q.w (HFA.out.trans q.fr)).1
              clear hstB hshB hfrB hvB hneB
              go_wp2_with fail
              have hinst : Nonempty (ClN wx) := ⟨⟨wx, Fr.refl No wx⟩⟩
              refine wp_region_quiet_cl (fun W' => ∃ q : ClN wx, W' = q.w) (by kernel_rfl) (by kernel_rfl) ⟨⟨_, (Fr.refl No wx).drew⟩, rfl⟩ ?_
              repeat (go_big_quiet_step ((fail)))
              refine wpQuiet_nil ?_
              rintro Wc ⟨⟨Wc, fD⟩, rfl⟩
              have HFD := hide (HFA.out.trans fD)
              clear pr0 hinst fD
              go_wp2_with fail
              go_roundw
              case rel => exact ⟨kk + 1, hkl, by go_num, HFR.out.trans HFD.out⟩
              case measure => simp [intOf]; omega

end Go.Proofs.Ytnddfiohofnbaaa

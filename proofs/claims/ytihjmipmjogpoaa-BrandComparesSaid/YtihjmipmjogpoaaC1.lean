/- BrandCompares: what it computes. -/
import Derived.Test.YtihjmipmjogpoaaR4
import Derived.Test.YtihjmipmjogpoaaL1
import Derived.Test.YtihjmipmjogpoaaC0
import Derived.Deep.Cut
import Derived.IntWalk
namespace Go.Proofs.Ytihjmipmjogpoaa
open Go.RowKit

theorem cmp_le2 (u : V) : ∀ v : V, u.cmp v ≤ 2 := by
  induction u using V.ind with
  | h k n s l r ih =>
    intro v
    cases v with
    | mk k' n' s' l' r' =>
      rw [V.cmp_mk, cmpOf]
      split
      · split
        · match l, l', ih with
          | [], _, _ => exact Nat.le_refl _
          | [_], _, _ => exact Nat.le_refl _
          | [a, b], [], _ => exact Nat.le_refl _
          | [a, b], [_], _ => exact Nat.le_refl _
          | [a, b], [a', b'], ih =>
            show (if a.cmp a' = 1 then b.cmp b' else a.cmp a') ≤ 2
            split
            · exact ih b (by simp) b'
            · exact ih a (by simp) a'
          | [a, b], _ :: _ :: _ :: _, _ => exact Nat.le_refl _
          | _ :: _ :: _ :: _, _, _ => exact Nat.le_refl _
        · split <;> omega
      · omega

set_option maxRecDepth 100000 in
set_option maxHeartbeats 4000000 in
theorem compares_any (a b : T) (w : World) (ha : a.In w 0 w.heap.size) (hb : b.In w 0 w.heap.size) : Calls Try.prog 4 #[a.val, b.val] w fun e w' => e = .returned (.bool true) ∧ Fr No w w' := by
  have hL := lives_any
  have hKe := fun w' h h' => bkeys_any a w' 0 w.heap.size h h'
  have hRK := fun w' h h' o => rkeys_any a w' 0 w.heap.size h h' o
  have hMa := fun w' h h' => rmay_any a w' 0 w.heap.size h h'
  have hMb := fun w' h h' => rmay_any b w' 0 w.heap.size h h'
  have hCab := fun w' h1 h2 h3 => Compare_any a b w' 0 w.heap.size h1 h2 h3
  have hCba := fun w' h1 h2 h3 => Compare_any b a w' 0 w.heap.size h1 h2 h3
  have hCaa := fun w' h1 h3 => Compare_any a a w' 0 w.heap.size h1 h1 h3
  have hRab := fun w' h1 h2 h3 o1 o2 => rcompare_any a b w' 0 w.heap.size 0 w.heap.size h1 h3 h2 h3 o1 o2
  have hRba := fun w' h1 h2 h3 o1 o2 => rcompare_any b a w' 0 w.heap.size 0 w.heap.size h1 h3 h2 h3 o1 o2
  have hRaa := fun w' h1 h3 o1 => rcompare_any a a w' 0 w.heap.size 0 w.heap.size h1 h3 h1 h3 o1 o1
  cases a with
  | mk k n s A cap l r =>
  cases b with
  | mk k' n' s' A' cap' l' r' =>
    rw [T.val_mk] at *
    rw [T.val_mk] at *
    generalize hu : (T.mk k n s A cap l r).v = u at *
    generalize hv : (T.mk k' n' s' A' cap' l' r').v = v at *
    have hok := @may_ok u
    have hok' := @may_ok v
    have hW := ((Fr.refl No w).alloc (.cells #[.int .u8 k, .int .i64 n, .string s, .slice A l.length cap, .int .i64 r] 27)).alloc (.cells #[.int .u8 k', .int .i64 n', .string s', .slice A' l'.length cap', .int .i64 r'] 27)
    have hBa := ((Blk.new' w 27 #[.int .u8 k, .int .i64 n, .string s, .slice A l.length cap, .int .i64 r] rfl).alloc (.cells #[.int .u8 k', .int .i64 n', .string s', .slice A' l'.length cap', .int .i64 r'] 27))
    have hBb := (Blk.new' (w.alloc (.cells #[.int .u8 k, .int .i64 n, .string s, .slice A l.length cap, .int .i64 r] 27)) 27 #[.int .u8 k', .int .i64 n', .string s', .slice A' l'.length cap', .int .i64 r'] (g := w.heap.size + 1) (by simp))
    have hb28 := build28
    have hb29 := build29
    obtain ⟨hcells, frW⟩ := store30 (((w.alloc (.cells #[.int .u8 k, .int .i64 n, .string s, .slice A l.length cap, .int .i64 r] 27)).alloc (.cells #[.int .u8 k', .int .i64 n', .string s', .slice A' l'.length cap', .int .i64 r'] 27)).alloc (.cells #[.int .u8 0, .int .i64 0, .string ⟨#[]⟩, .slice none 0 0, .int .i64 0, .int .u8 0, .int .i64 0, .string ⟨#[]⟩, .slice none 0 0, .int .i64 0, .int .u8 0, .int .i64 0, .string ⟨#[]⟩, .slice none 0 0, .int .i64 0, .int .u8 0, .int .i64 0, .string ⟨#[]⟩, .slice none 0 0, .int .i64 0, .int .u8 0, .int .i64 0, .string ⟨#[]⟩, .slice none 0 0, .int .i64 0, .int .u8 0, .int .i64 0, .string ⟨#[]⟩, .slice none 0 0, .int .i64 0] 29)) (w.heap.size + 1 + 1) #[.int .u8 0, .int .i64 0, .string ⟨#[]⟩, .slice none 0 0, .int .i64 0, .int .u8 0, .int .i64 0, .string ⟨#[]⟩, .slice none 0 0, .int .i64 0, .int .u8 0, .int .i64 0, .string ⟨#[]⟩, .slice none 0 0, .int .i64 0, .int .u8 0, .int .i64 0, .string ⟨#[]⟩, .slice none 0 0, .int .i64 0, .int .u8 0, .int .i64 0, .string ⟨#[]⟩, .slice none 0 0, .int .i64 0, .int .u8 0, .int .i64 0, .string ⟨#[]⟩, .slice none 0 0, .int .i64 0]
      #[.int .u8 k, .int .i64 n, .string s, .slice A l.length cap, .int .i64 r, .int .u8 k', .int .i64 n', .string s', .slice A' l'.length cap', .int .i64 r', .int .u8 k', .int .i64 n', .string s', .slice A' l'.length cap', .int .i64 r', .int .u8 k, .int .i64 n, .string s, .slice A l.length cap, .int .i64 r, .int .u8 k, .int .i64 n, .string s, .slice A l.length cap, .int .i64 r, .int .u8 k, .int .i64 n, .string s, .slice A l.length cap, .int .i64 r]
      (Blk.new' _ 29 _ (by simp)) rfl rfl
    have hthere := there30 (w := ((w.alloc (.cells #[.int .u8 k, .int .i64 n, .string s, .slice A l.length cap, .int .i64 r] 27)).alloc (.cells #[.int .u8 k', .int .i64 n', .string s', .slice A' l'.length cap', .int .i64 r'] 27)).alloc (.cells #[.int .u8 0, .int .i64 0, .string ⟨#[]⟩, .slice none 0 0, .int .i64 0, .int .u8 0, .int .i64 0, .string ⟨#[]⟩, .slice none 0 0, .int .i64 0, .int .u8 0, .int .i64 0, .string ⟨#[]⟩, .slice none 0 0, .int .i64 0, .int .u8 0, .int .i64 0, .string ⟨#[]⟩, .slice none 0 0, .int .i64 0, .int .u8 0, .int .i64 0, .string ⟨#[]⟩, .slice none 0 0, .int .i64 0, .int .u8 0, .int .i64 0, .string ⟨#[]⟩, .slice none 0 0, .int .i64 0] 29)) (B := w.heap.size + 1 + 1) (Blk.new' _ 29 _ (by simp)) rfl
    have HCE := hide hcells
    have HFW := hide frW
    clear hcells frW
    go_enter Try.func4, Try.ntmps4
    go_upto_region 1 with (fail)
    refine wp_region_list ?_
    (refine wpList_plain rfl fun K hK => ?_); go_simp; (refine hK _ _ ?_); clear hK K
    (refine wpList_plain rfl fun K hK => ?_); go_simp; (refine hK _ _ ?_); clear hK K
    (refine wpList_plain rfl fun K hK => ?_); go_simp; (refine hK _ _ ?_); clear hK K
    (refine wpList_plain rfl fun K hK => ?_); go_simp; (refine hK _ _ ?_); clear hK K
    (refine wpList_plain rfl fun K hK => ?_); go_simp; (refine hK _ _ ?_); clear hK K
    (refine wpList_plain rfl fun K hK => ?_); go_simp; (refine hK _ _ ?_); clear hK K
    (refine wpList_plain rfl fun K hK => ?_); go_simp; (refine hK _ _ ?_); clear hK K
    (refine wpList_plain rfl fun K hK => ?_); go_simp; (refine hK _ _ ?_); clear hK K
    (refine wpList_plain rfl fun K hK => ?_); go_simp; (refine hK _ _ ?_); clear hK K
    (refine wpList_plain rfl fun K hK => ?_); go_simp; (refine hK _ _ ?_); clear hK K
    (refine wpList_plain rfl fun K hK => ?_); go_simp; (refine hK _ _ ?_); clear hK K
    refine wpList_store_mid rfl 29 _ _ rfl (w.heap.size + 1 + 1) 0 #[.int .u8 k, .int .i64 n, .string s, .slice A l.length cap, .int .i64 r, .int .u8 k', .int .i64 n', .string s', .slice A' l'.length cap', .int .i64 r', .int .u8 k', .int .i64 n', .string s', .slice A' l'.length cap', .int .i64 r', .int .u8 k, .int .i64 n, .string s, .slice A l.length cap, .int .i64 r, .int .u8 k, .int .i64 n, .string s, .slice A l.length cap, .int .i64 r, .int .u8 k, .int .i64 n, .string s, .slice A l.length cap, .int .i64 r] (by rfl) (by rfl) hthere info29 (by simp [Value.oneCell']) ?_
    refine wpList_nil ?_
    have hcells := HCE.out
    have frW := HFW.out
    clear HCE HFW hthere
    generalize World.setCells _ _ _ _ = W1 at *
    have f1 : Fr No w W1 := ((hW.alloc _).trans' frW fun i hi h => by have h' : i = w.heap.size + 1 + 1 := h; omega)
    have hBa1 := (hBa.alloc _).fr frW (fun h => by have h' : w.heap.size = w.heap.size + 1 + 1 := h; omega)
    have hBb1 := (hBb.alloc _).fr frW (fun h => by have h' : w.heap.size + 1 = w.heap.size + 1 + 1 := h; omega)
    have hs1 := frW.size
    simp only [World.size_alloc] at hs1
    have HCE := hide hcells
    clear hcells frW hBa hBb hW
    go_wp2_with fail
    go_loopw [6] (fun i wr => ∃ j : Nat, j ≤ 3 ∧ i = .int .i64 j ∧ Fr No W1 wr) (fun i _ => 3 - (intOf i).toNat)
    case atStart => exact ⟨0, Nat.zero_le _, rfl, Fr.refl _ _⟩
    case round =>
      obtain ⟨j, hj, rfl, fr⟩ := hrel
      have frw := f1.trans fr
      have hBa2 := hBa1.fr fr (fun h => h)
      have hBb2 := hBb1.fr fr (fun h => h)
      have ha2 := ha.no frw (Nat.le_refl _)
      have hb2 := hb.no frw (Nat.le_refl _)
      have hs2 := frw.size
      by_cases hlt : j < 3
      · have hBl : w.heap.size + 1 + 1 < W1.heap.size := by omega
        obtain ⟨x, y, hx, hy, hcx, hcy⟩ : ∃ x y : T, x.In wr 0 w.heap.size ∧ y.In wr 0 w.heap.size ∧ (∀ c z, x.cells[c]? = some z → wr.cell? ⟨w.heap.size + 1 + 1, j * 10 + c, none⟩ = some z) ∧
            (∀ c z, y.cells[c]? = some z → wr.cell? ⟨w.heap.size + 1 + 1, j * 10 + 5 + c, none⟩ = some z) := by
          rcases (by omega : j = 0 ∨ j = 1 ∨ j = 2) with rfl | rfl | rfl
          · refine ⟨_, _, ha2, hb2, fun c z hz => ?_, fun c z hz => ?_⟩
            · rw [fr.cells _ _ hBl]
              match c, hz with
              | 0, hz => rw [HCE.out _ (by omega)]; exact hz
              | 1, hz => rw [HCE.out _ (by omega)]; exact hz
              | 2, hz => rw [HCE.out _ (by omega)]; exact hz
              | 3, hz => rw [HCE.out _ (by omega)]; exact hz
              | 4, hz => rw [HCE.out _ (by omega)]; exact hz
              | c + 5, hz => simp [T.cells] at hz
            · rw [fr.cells _ _ hBl]
              match c, hz with
              | 0, hz => rw [HCE.out _ (by omega)]; exact hz
              | 1, hz => rw [HCE.out _ (by omega)]; exact hz
              | 2, hz => rw [HCE.out _ (by omega)]; exact hz
              | 3, hz => rw [HCE.out _ (by omega)]; exact hz
              | 4, hz => rw [HCE.out _ (by omega)]; exact hz
              | c + 5, hz => simp [T.cells] at hz
          · refine ⟨_, _, hb2, ha2, fun c z hz => ?_, fun c z hz => ?_⟩
            · rw [fr.cells _ _ hBl]
              match c, hz with
              | 0, hz => rw [HCE.out _ (by omega)]; exact hz
              | 1, hz => rw [HCE.out _ (by omega)]; exact hz
              | 2, hz => rw [HCE.out _ (by omega)]; exact hz
              | 3, hz => rw [HCE.out _ (by omega)]; exact hz
              | 4, hz => rw [HCE.out _ (by omega)]; exact hz
              | c + 5, hz => simp [T.cells] at hz
            · rw [fr.cells _ _ hBl]
              match c, hz with
              | 0, hz => rw [HCE.out _ (by omega)]; exact hz
              | 1, hz => rw [HCE.out _ (by omega)]; exact hz
              | 2, hz => rw [HCE.out _ (by omega)]; exact hz
              | 3, hz => rw [HCE.out _ (by omega)]; exact hz
              | 4, hz => rw [HCE.out _ (by omega)]; exact hz
              | c + 5, hz => simp [T.cells] at hz
          · refine ⟨_, _, ha2, ha2, fun c z hz => ?_, fun c z hz => ?_⟩
            · rw [fr.cells _ _ hBl]
              match c, hz with
              | 0, hz => rw [HCE.out _ (by omega)]; exact hz
              | 1, hz => rw [HCE.out _ (by omega)]; exact hz
              | 2, hz => rw [HCE.out _ (by omega)]; exact hz
              | 3, hz => rw [HCE.out _ (by omega)]; exact hz
              | 4, hz => rw [HCE.out _ (by omega)]; exact hz
              | c + 5, hz => simp [T.cells] at hz
            · rw [fr.cells _ _ hBl]
              match c, hz with
              | 0, hz => rw [HCE.out _ (by omega)]; exact hz
              | 1, hz => rw [HCE.out _ (by omega)]; exact hz
              | 2, hz => rw [HCE.out _ (by omega)]; exact hz
              | 3, hz => rw [HCE.out _ (by omega)]; exact hz
              | 4, hz => rw [HCE.out _ (by omega)]; exact hz
              | c + 5, hz => simp [T.cells] at hz
        clear hL hKe hRK hMa hMb hCab hRab hok hok'
        have hC := fun w' h1 h2 h3 => Compare_any x y w' 0 w.heap.size h1 h2 h3
        have hMx := fun w' h h' => rmay_any x w' 0 w.heap.size h h'
        have hMy := fun w' h h' => rmay_any y w' 0 w.heap.size h h'
        have hR := fun w' h1 h2 h3 o1 o2 => rcompare_any x y w' 0 w.heap.size 0 w.heap.size h1 h3 h2 h3 o1 o2
        cases x with
        | mk kx nx sx Ax capx lx rx =>
        cases y with
        | mk ky ny sy Ay capy ly ry =>
          rw [T.val_mk] at hC hMx hR
          rw [T.val_mk] at hC hMy hR
          generalize hvx : (T.mk kx nx sx Ax capx lx rx).v = vx at *
          generalize hvy : (T.mk ky ny sy Ay capy ly ry).v = vy at *
          clear hvx hvy hu hv
          have okx := @may_ok vx
          have oky := @may_ok vy
          have x0 := hcx 0 _ rfl
          have x1 := hcx 1 _ rfl
          have x2 := hcx 2 _ rfl
          have x3 := hcx 3 _ rfl
          have x4 := hcx 4 _ rfl
          have y0 := hcy 0 _ rfl
          have y1 := hcy 1 _ rfl
          have y2 := hcy 2 _ rfl
          have y3 := hcy 3 _ rfl
          have y4 := hcy 4 _ rfl
          simp only [Nat.add_zero] at x0 y0
          have j0 : (0 : Int) ≤ (j : Int) := by omega
          have j1 : (j : Int) < 3 := by omega
          have hBr : w.heap.size + 1 + 1 < wr.heap.size := Nat.lt_of_lt_of_le hBl fr.size
          clear hcx hcy ha hb ha2 hb2 hBa1 hBb1 hBa2 hBb2 HCE
          have HF1 := hide f1
          have HFR := hide fr
          have HFW := hide frw
          clear f1 fr frw
          cases hmx : vx.may <;> cases hmy : vy.may
          case true.true =>
            rw [hmx] at hMx
            rw [hmy] at hMy
            have hans : vx.ans vy = vx.cmp vy := by simp [V.ans, hmx, hmy]
            have herr : vx.err2 vy = 0 := by simp [V.err2, hmx, hmy]
            have hR' := fun w' h1 h2 h3 => hR w' h1 h2 h3 (okx hmx) (oky hmy)
            have hq := cmp_le2 vx vy
            rw [hans, herr] at hC
            generalize vx.cmp vy = q at *
            clear hans herr hmx hmy hR okx oky
            go_wp2_with fail
            go_region_held3 (fun w' => (∀ c i, c < wr.heap.size → w'.cell? ⟨c, i, none⟩ = wr.cell? ⟨c, i, none⟩) ∧ Fr No wr w')
              (first | exact ⟨fun _ _ _ => rfl, Fr.drew (Fr.refl No wr)⟩ | (have hq : Fr No wr _ := (‹_ ∧ Fr No wr _›).2.trans ‹Fr No _ _›; exact ⟨hq.cells, hq⟩))
              (first
                | (go_at_call 20; have hs0 := (‹_ ∧ Fr No wr _›).2; ((with_reducible refine (hC _ (hx.no hs0 hs2) (hy.no hs0 hs2) (Nat.le_trans hs2 hs0.size)).mono ?_); rintro e w2 ⟨rfl, fr2⟩)))
            obtain ⟨hc2, fr3⟩ := ‹_ ∧ Fr No wr _›
            have hx2 := hx.no fr3 hs2
            have hy2 := hy.no fr3 hs2
            have hs3 := Nat.le_trans hs2 fr3.size
            have ew1 : (1 : Int) = 1 := rfl
            clear ew1
            go_wp2_with fail
            refine (hMx _ hx2 hs3).mono ?_
            rintro e w3 ⟨rfl, fr4⟩
            have fr5 := fr3.trans fr4
            have hc5 := fr5.cells
            have hx5 := hx.no fr5 hs2
            have hy5 := hy.no fr5 hs2
            have hs5 := Nat.le_trans hs2 fr5.size
            have HF3 := hide fr3
            clear hc2 fr4 hx2 hy2 hs3 fr3
            have H5 := hide fr5
            clear fr5
            go_wp2_with fail
            refine (hMy _ hy5 hs5).mono ?_
            rintro e w4 ⟨rfl, fr6⟩
            have fr7 := H5.out.trans fr6
            have hc7 := fr7.cells
            have hx7 := hx.no fr7 hs2
            have hy7 := hy.no fr7 hs2
            have hs7 := Nat.le_trans hs2 fr7.size
            have H7 := hide fr7
            have hBr7 := Nat.lt_of_lt_of_le hBr fr7.size
            clear hc5 fr6 fr7 hx5 hy5 hs5
            rw [← hc7 _ _ hBr] at x0 x1 x2 x3 x4 y0 y1 y2 y3 y4
            clear hc7
            go_wp2_with fail
            have hwq : IntKind.i64.wrap (q : Int) = (q : Int) := IntWalk.i64_in _ (by omega)
            have hBr8 : w.heap.size + 1 + 1 < w4.heap.size := hBr7
            go_region_held3 (fun w' => (∀ c i, c < w4.heap.size → w'.cell? ⟨c, i, none⟩ = w4.cell? ⟨c, i, none⟩) ∧ Fr No w4 w')
              (first | exact ⟨fun _ _ _ => rfl, Fr.drew (Fr.refl No w4)⟩ | (have hq : Fr No w4 _ := (‹_ ∧ Fr No w4 _›).2.trans ‹Fr No _ _›; exact ⟨hq.cells, hq⟩))
              (first
                | (go_at_call 22; have hs0 := (‹_ ∧ Fr No w4 _›).2; ((with_reducible refine (hR' _ (hx7.no hs0 hs7) (hy7.no hs0 hs7) (Nat.le_trans hs7 hs0.size)).mono ?_); rintro e w5 ⟨rfl, fr8⟩)))
            obtain ⟨hc9, fr9⟩ := ‹_ ∧ Fr No w4 _›
            clear hc9 hwq
            have HF9 := hide fr9
            clear fr9 fr8
            go_wp2
            go_roundw
            case rel => exact ⟨j + 1, by omega, by go_num, HFR.out.trans (H7.out.trans HF9.out)⟩
            case measure => simp [intOf]; omega
          case true.false =>
            rw [hmx] at hMx
            rw [hmy] at hMy
            have hans : vx.ans vy = 0 := by simp [V.ans, hmx, hmy]
            have herr : vx.err2 vy = 2 := by simp [V.err2, hmx, hmy]
            rw [hans, herr] at hC
            clear hans herr hmx hmy hR okx oky
            go_wp2_with fail
            go_region_held3 (fun w' => (∀ c i, c < wr.heap.size → w'.cell? ⟨c, i, none⟩ = wr.cell? ⟨c, i, none⟩) ∧ Fr No wr w')
              (first | exact ⟨fun _ _ _ => rfl, Fr.drew (Fr.refl No wr)⟩ | (have hq : Fr No wr _ := (‹_ ∧ Fr No wr _›).2.trans ‹Fr No _ _›; exact ⟨hq.cells, hq⟩))
              (first
                | (go_at_call 20; have hs0 := (‹_ ∧ Fr No wr _›).2; ((with_reducible refine (hC _ (hx.no hs0 hs2) (hy.no hs0 hs2) (Nat.le_trans hs2 hs0.size)).mono ?_); rintro e w2 ⟨rfl, fr2⟩)))
            obtain ⟨hc2, fr3⟩ := ‹_ ∧ Fr No wr _›
            have hx2 := hx.no fr3 hs2
            have hs3 := Nat.le_trans hs2 fr3.size
            go_wp2_with fail
            refine (hMx _ hx2 hs3).mono ?_
            rintro e w3 ⟨rfl, fr4⟩
            have fr5 := fr3.trans fr4
            have hc5 := fr5.cells
            have hy5 := hy.no fr5 hs2
            have hs5 := Nat.le_trans hs2 fr5.size
            clear hc2 fr4 hx2 hs3 fr3
            have H5 := hide fr5
            clear fr5
            go_wp2_with fail
            refine (hMy _ hy5 hs5).mono ?_
            rintro e w4 ⟨rfl, fr6⟩
            have H7 := hide (H5.out.trans fr6)
            clear hc5 fr6
            go_wp2
            go_roundw
            case rel => exact ⟨j + 1, by omega, by go_num, HFR.out.trans H7.out⟩
            case measure => simp [intOf]; omega
          case false.true =>
            rw [hmx] at hMx
            rw [hmy] at hMy
            have hans : vx.ans vy = 0 := by simp [V.ans, hmx, hmy]
            have herr : vx.err2 vy = 2 := by simp [V.err2, hmx, hmy]
            rw [hans, herr] at hC
            clear hans herr hmx hmy hR okx oky
            go_wp2_with fail
            go_region_held3 (fun w' => (∀ c i, c < wr.heap.size → w'.cell? ⟨c, i, none⟩ = wr.cell? ⟨c, i, none⟩) ∧ Fr No wr w')
              (first | exact ⟨fun _ _ _ => rfl, Fr.drew (Fr.refl No wr)⟩ | (have hq : Fr No wr _ := (‹_ ∧ Fr No wr _›).2.trans ‹Fr No _ _›; exact ⟨hq.cells, hq⟩))
              (first
                | (go_at_call 20; have hs0 := (‹_ ∧ Fr No wr _›).2; ((with_reducible refine (hC _ (hx.no hs0 hs2) (hy.no hs0 hs2) (Nat.le_trans hs2 hs0.size)).mono ?_); rintro e w2 ⟨rfl, fr2⟩)))
            obtain ⟨hc2, fr3⟩ := ‹_ ∧ Fr No wr _›
            have hx2 := hx.no fr3 hs2
            have hs3 := Nat.le_trans hs2 fr3.size
            go_wp2_with fail
            refine (hMx _ hx2 hs3).mono ?_
            rintro e w3 ⟨rfl, fr4⟩
            have fr5 := fr3.trans fr4
            have hc5 := fr5.cells
            have hy5 := hy.no fr5 hs2
            have hs5 := Nat.le_trans hs2 fr5.size
            clear hc2 fr4 hx2 hs3 fr3
            have H5 := hide fr5
            clear fr5
            go_wp2
            go_roundw
            case rel => exact ⟨j + 1, by omega, by go_num, HFR.out.trans H5.out⟩
            case measure => simp [intOf]; omega
          case false.false =>
            rw [hmx] at hMx
            rw [hmy] at hMy
            have hans : vx.ans vy = 0 := by simp [V.ans, hmx, hmy]
            have herr : vx.err2 vy = 2 := by simp [V.err2, hmx, hmy]
            rw [hans, herr] at hC
            clear hans herr hmx hmy hR okx oky
            go_wp2_with fail
            go_region_held3 (fun w' => (∀ c i, c < wr.heap.size → w'.cell? ⟨c, i, none⟩ = wr.cell? ⟨c, i, none⟩) ∧ Fr No wr w')
              (first | exact ⟨fun _ _ _ => rfl, Fr.drew (Fr.refl No wr)⟩ | (have hq : Fr No wr _ := (‹_ ∧ Fr No wr _›).2.trans ‹Fr No _ _›; exact ⟨hq.cells, hq⟩))
              (first
                | (go_at_call 20; have hs0 := (‹_ ∧ Fr No wr _›).2; ((with_reducible refine (hC _ (hx.no hs0 hs2) (hy.no hs0 hs2) (Nat.le_trans hs2 hs0.size)).mono ?_); rintro e w2 ⟨rfl, fr2⟩)))
            obtain ⟨hc2, fr3⟩ := ‹_ ∧ Fr No wr _›
            have hx2 := hx.no fr3 hs2
            have hs3 := Nat.le_trans hs2 fr3.size
            go_wp2_with fail
            refine (hMx _ hx2 hs3).mono ?_
            rintro e w3 ⟨rfl, fr4⟩
            have fr5 := fr3.trans fr4
            have hc5 := fr5.cells
            have hy5 := hy.no fr5 hs2
            have hs5 := Nat.le_trans hs2 fr5.size
            clear hc2 fr4 hx2 hs3 fr3
            have H5 := hide fr5
            clear fr5
            go_wp2
            go_roundw
            case rel => exact ⟨j + 1, by omega, by go_num, HFR.out.trans H5.out⟩
            case measure => simp [intOf]; omega
      · obtain rfl : j = 3 := by omega
        obtain ⟨c0, c1, c2, c3, c4, cf⟩ := hBa2.cells5
        have q0 := hBa2.lt
        cases hm : u.may with
        | false =>
          rw [hm] at hKe hMa
          simp only [Bool.false_and, if_neg Bool.false_ne_true] at hKe
          clear hm
          go_wp2_with fail
          refine (hKe wr ha2 hs2).mono ?_
          rintro e w2 ⟨rfl, fr2⟩
          have hBa3 := hBa2.fr fr2 (fun h => h)
          have ha3 := ha2.no fr2 hs2
          have hs3 := Nat.le_trans hs2 fr2.size
          clear c0 c1 c2 c3 c4 cf q0
          obtain ⟨c0, c1, c2, c3, c4, cf⟩ := hBa3.cells5
          have q0 := hBa3.lt
          go_wp2_with fail
          refine (hMa w2 ha3 hs3).mono ?_
          rintro e w3 ⟨rfl, fr3⟩
          have hBa4 := hBa3.fr fr3 (fun h => h)
          have ha4 := ha3.no fr3 hs3
          have hs4 := Nat.le_trans hs3 fr3.size
          have HF := hide ((frw.trans fr2).trans fr3)
          clear c0 c1 c2 c3 c4 cf q0 fr fr2 fr3 frw
          obtain ⟨c0, c1, c2, c3, c4, cf⟩ := hBa4.cells5
          have q0 := hBa4.lt
          go_wp2_with fail
          refine (hL w3).mono ?_
          rintro e w4 ⟨rfl, fr4⟩
          go_wp2
          go_ret
          exact ⟨rfl, HF.out.trans fr4⟩
        | true =>
          have ho := hok hm
          rw [hm] at hKe hMa
          simp only [Bool.true_and, if_true] at hKe
          clear hm
          go_wp2_with fail
          refine (hKe wr ha2 hs2).mono ?_
          rintro e w2 ⟨rfl, fr2⟩
          have hBa3 := hBa2.fr fr2 (fun h => h)
          have ha3 := ha2.no fr2 hs2
          have hs3 := Nat.le_trans hs2 fr2.size
          clear c0 c1 c2 c3 c4 cf q0
          obtain ⟨c0, c1, c2, c3, c4, cf⟩ := hBa3.cells5
          have q0 := hBa3.lt
          go_wp2_with fail
          refine (hMa w2 ha3 hs3).mono ?_
          rintro e w3 ⟨rfl, fr3⟩
          have hBa4 := hBa3.fr fr3 (fun h => h)
          have ha4 := ha3.no fr3 hs3
          have hs4 := Nat.le_trans hs3 fr3.size
          have HF := hide ((frw.trans fr2).trans fr3)
          clear c0 c1 c2 c3 c4 cf q0 fr fr2 fr3 frw
          obtain ⟨c0, c1, c2, c3, c4, cf⟩ := hBa4.cells5
          have q0 := hBa4.lt
          go_wp2_with fail
          refine (hRK w3 ha4 hs4 ho).mono ?_
          rintro e w4 ⟨rfl, fr4⟩
          go_wp2_with fail
          refine (hL w4).mono ?_
          rintro e w5 ⟨rfl, fr5⟩
          go_wp2
          go_ret
          exact ⟨rfl, (HF.out.trans fr4).trans fr5⟩

end Go.Proofs.Ytihjmipmjogpoaa

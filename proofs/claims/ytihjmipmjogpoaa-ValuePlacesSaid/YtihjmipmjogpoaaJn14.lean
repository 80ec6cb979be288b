/- Texts joined: J10, U9, H0. -/
import Derived.Test.YtihjmipmjogpoaaJn13
import Derived.Deep.RegionLaw
import Derived.Deep.CutRange
import Derived.Test.YtihjmipmjogpoaaRows
import Derived.ProofKit
import Derived.OpenShut
import Derived.ChangeOld
/- Chapter 2: ValuePlaces: what it computes. -/
namespace Go.Proofs.Ytihjmipmjogpoaa
open Go.RowKit

/-- Two values that came in, and their lent likenesses, in a world behind. -/
structure PL (w wi : World) (v x ov ox : T) (gv gx tp : Nat) : Prop where
  bv : Blk wi w.heap.size 27 v.cells.toArray
  bx : Blk wi (w.heap.size + 1) 27 x.cells.toArray
  bo : Blk wi gv 27 ov.cells.toArray
  bp : Blk wi gx 27 ox.cells.toArray
  iv : v.In wi 0 w.heap.size
  ix : x.In wi 0 w.heap.size
  io : ov.In wi 0 tp
  ip : ox.In wi 0 tp
  mo : ov.Mk wi
  mp : ox.Mk wi
  f : Fr No w wi
  t0 : w.heap.size + 2 ≤ tp
  t1 : gv < tp
  t2 : gx < tp
  t3 : tp ≤ wi.heap.size

theorem PL.fr {S : Nat → Prop} {w wi wj : World} {v x ov ox : T} {gv gx tp : Nat} (h : PL w wi v x ov ox gv gx tp) (f : Fr S wi wj) (hs : ∀ i, i < tp → ¬ S i) : PL w wj v x ov ox gv gx tp := by
  have b := h.f.size
  have c := h.t0
  have d := h.t1
  have e := h.t2
  have g := h.t3
  exact ⟨h.bv.fr f (hs _ (by omega)), h.bx.fr f (hs _ (by omega)), h.bo.fr f (hs _ (by omega)), h.bp.fr f (hs _ (by omega)), h.iv.fr f b (fun i _ hi => hs i (by omega)), h.ix.fr f b (fun i _ hi => hs i (by omega)), h.io.fr f (by omega) (fun i _ hi => hs i (by omega)), h.ip.fr f (by omega) (fun i _ hi => hs i (by omega)),
    T.Mk.fr f (by omega) _ h.io (fun i hi => hs i (by have := T.In.blocks _ h.io i hi; omega)) h.mo, T.Mk.fr f (by omega) _ h.ip (fun i hi => hs i (by have := T.In.blocks _ h.ip i hi; omega)) h.mp,
    h.f.trans' f (fun i hi hS => hs i (by omega) hS), c, d, e, by have := f.size; omega⟩

theorem PL.no {w wi wj : World} {v x ov ox : T} {gv gx tp : Nat} (h : PL w wi v x ov ox gv gx tp) (f : Fr No wi wj) : PL w wj v x ov ox gv gx tp := h.fr f fun _ _ h => h

theorem fr_bothJ {w W : World} (h : Fr No w W) : (∀ c i, c < w.heap.size → W.cell? ⟨c, i, none⟩ = w.cell? ⟨c, i, none⟩) ∧ Fr No w W := ⟨h.cells, h⟩

def PLP (w : World) (v x : T) (p q : Value) (wx : World) : Prop :=
  ∃ gv gx tp ov ox, p = .pointer (some ⟨gv, 0, none⟩) ∧ q = .pointer (some ⟨gx, 0, none⟩) ∧ ov.v = v.v ∧ ox.v = x.v ∧ PL w wx v x ov ox gv gx tp

set_option maxRecDepth 100000 in
set_option maxHeartbeats 16000000 in
theorem valuePlaces_any (t x : T) (A : Option Addr) (cap : Nat) (p : List Int) (w : World) (ht : t.In w 0 w.heap.size) (hx : x.In w 0 w.heap.size) (hp : Ints w 0 w.heap.size A cap p) :
    Calls Try.prog 13 #[t.val, x.val, .slice A p.length cap] w fun e w' => e = .returned (.bool true) ∧ Fr No w w' := by
  obtain ⟨k, n, s, B, cb, l, r⟩ := t
  obtain ⟨kx, nx, sx, Bx, cx, lx, rx⟩ := x
  rw [T.val_mk, T.val_mk]
  have hplen := hp.len
  have fr1 := ((Fr.refl No w).alloc (.cells #[.int .u8 k, .int .i64 n, .string s, .slice B l.length cb, .int .i64 r] 27)).alloc (.cells #[.int .u8 kx, .int .i64 nx, .string sx, .slice Bx lx.length cx, .int .i64 rx] 27)
  have bv1 : Blk ((w.alloc (.cells #[.int .u8 k, .int .i64 n, .string s, .slice B l.length cb, .int .i64 r] 27)).alloc (.cells #[.int .u8 kx, .int .i64 nx, .string sx, .slice Bx lx.length cx, .int .i64 rx] 27)) w.heap.size 27 (T.mk k n s B cb l r).cells.toArray := (Blk.new' w 27 _ rfl).alloc _
  have bx1 : Blk ((w.alloc (.cells #[.int .u8 k, .int .i64 n, .string s, .slice B l.length cb, .int .i64 r] 27)).alloc (.cells #[.int .u8 kx, .int .i64 nx, .string sx, .slice Bx lx.length cx, .int .i64 rx] 27)) (w.heap.size + 1) 27 (T.mk kx nx sx Bx cx lx rx).cells.toArray := Blk.new' (w.alloc _) 27 _ (by simp)
  have hsm1 := fun w' (f : Fr No w w') => small_any (T.mk k n s B cb l r) 1200 40 w' 0 w.heap.size (ht.no f (Nat.le_refl _)) f.size (by omega) (by omega) (by omega) (by omega)
  have hsm2 := fun w' (f : Fr No w w') => small_any (T.mk kx nx sx Bx cx lx rx) 1200 40 w' 0 w.heap.size (hx.no f (Nat.le_refl _)) f.size (by omega) (by omega) (by omega) (by omega)
  rw [T.val_mk] at hsm1 hsm2
  generalize hv : (T.mk k n s B cb l r).v = v at *
  generalize hu : (T.mk kx nx sx Bx cx lx rx).v = u at *
  have HV := hide hv
  have HU := hide hu
  have HT := hide ht
  have HX := hide hx
  have HP := hide hp
  have HF1 := hide fr1
  have HBV := hide bv1
  have HBX := hide bx1
  have HS1 := hide hsm1
  have HS2 := hide hsm2
  clear hv hu ht hx hp fr1 bv1 bx1 hsm1 hsm2
  by_cases hfit : ¬ ((v.size : Int) ≤ 1200 ∧ (v.ht : Int) ≤ 40)
  · have HZ := hide (smallOf_no hfit)
    clear hfit
    go_enter Try.func13, Try.ntmps13
    go_wp2_with fail
    generalize World.alloc (World.alloc w _) _ = w1 at *
    have hc := HS1.out w1 HF1.out
    rw [HZ.out] at hc
    refine hc.mono ?_
    rintro e w2 ⟨rfl, f2⟩
    have G := hide (HF1.out.trans f2)
    clear f2 hc
    go_wp2_with fail
    refine (awake_any _).mono ?_
    rintro e w3 ⟨rfl, f3⟩
    go_wp2
    go_ret
    exact ⟨rfl, G.out.trans f3⟩
  have HZ1 := hide (smallOf_yes (Classical.byContradiction hfit))
  have hn1 : decide ((v.size : Int) < 0) = false := by simp
  clear hfit
  by_cases hfit : ¬ ((u.size : Int) ≤ 1200 ∧ (u.ht : Int) ≤ 40)
  · have HZ := hide (smallOf_no hfit)
    clear hfit
    go_enter Try.func13, Try.ntmps13
    go_wp2_with fail
    generalize World.alloc (World.alloc w _) _ = w1 at *
    have hc := HS1.out w1 HF1.out
    rw [HZ1.out] at hc
    refine hc.mono ?_
    rintro e w2 ⟨rfl, f2⟩
    obtain ⟨x0, x1, x2, x3, x4, -⟩ := Blk.cells5 (HBX.out.fr f2 fun h => h)
    have q1 := (HBX.out.fr f2 fun h => h).lt
    have G := hide (HF1.out.trans f2)
    clear f2 hc
    go_wp2_with fail
    have hc := HS2.out w2 G.out
    rw [HZ.out] at hc
    refine hc.mono ?_
    rintro e w3 ⟨rfl, f3⟩
    have G3 := hide (G.out.trans f3)
    clear f3 hc
    go_wp2_with fail
    refine (awake_any _).mono ?_
    rintro e w4 ⟨rfl, f4⟩
    go_wp2
    go_ret
    exact ⟨rfl, G3.out.trans f4⟩
  have HZ2 := hide (smallOf_yes (Classical.byContradiction hfit))
  have hn2 : decide ((u.size : Int) < 0) = false := by simp
  clear hfit
  go_enter Try.func13, Try.ntmps13
  go_wp2_with fail
  generalize World.alloc (World.alloc w _) _ = w1 at *
  have hc := HS1.out w1 HF1.out
  rw [HZ1.out] at hc
  refine hc.mono ?_
  rintro e w2 ⟨rfl, f2⟩
  obtain ⟨x0, x1, x2, x3, x4, -⟩ := Blk.cells5 (HBX.out.fr f2 fun h => h)
  have q1 := (HBX.out.fr f2 fun h => h).lt
  have G2 := hide (HF1.out.trans f2)
  have HBV2 := hide (HBV.out.fr f2 fun h => h)
  have HBX2 := hide (HBX.out.fr f2 fun h => h)
  clear f2 hc HF1 HBV HBX
  go_wp2_with fail
  have hc := HS2.out w2 G2.out
  rw [HZ2.out] at hc
  refine hc.mono ?_
  rintro e w3 ⟨rfl, f3⟩
  have G3 := hide (G2.out.trans f3)
  have BV3 := HBV2.out.fr f3 fun h => h
  have BX3 := HBX2.out.fr f3 fun h => h
  have HBV3 := hide BV3
  have HBX3 := hide BX3
  clear f3 hc G2 HBV2 HBX2 HS1 HS2 HZ1 HZ2 x0 x1 x2 x3 x4 q1
  by_cases h3 : (600 : Int) < (p.length : Int)
  · clear BV3 BX3
    go_wp2_with fail
    refine (awake_any _).mono ?_
    rintro e w4 ⟨rfl, f4⟩
    go_wp2
    go_ret
    exact ⟨rfl, G3.out.trans f4⟩
  generalize v.size = qv at *
  generalize u.size = qu at *
  obtain ⟨c0, c1, c2, c3, c4, -⟩ := Blk.cells5 BV3
  obtain ⟨x0, x1, x2, x3, x4, -⟩ := Blk.cells5 BX3
  have q0 := BV3.lt
  have q1 := BX3.lt
  have hl1 : ∀ w', Fr No w3 w' → Calls Try.prog 40 #[(T.mk k n s B cb l r).val] w' (LentP (T.mk k n s B cb l r).v w') := fun w' f => lent_any _ w' 0 w.heap.size (HT.out.no (G3.out.trans f) (Nat.le_refl _)) (G3.out.trans f).size
  have hl2 : ∀ w', Fr No w3 w' → Calls Try.prog 40 #[(T.mk kx nx sx Bx cx lx rx).val] w' (LentP (T.mk kx nx sx Bx cx lx rx).v w') := fun w' f => lent_any _ w' 0 w.heap.size (HX.out.no (G3.out.trans f) (Nat.le_refl _)) (G3.out.trans f).size
  rw [T.val_mk] at hl1 hl2
  have HL1 := hide hl1
  have HL2 := hide hl2
  clear hl1 hl2 BV3 BX3
  go_upto_region 3 with (fail)
  go_cut [7, 8] from 31 to 34 (fun p q wx => PLP w (T.mk k n s B cb l r) (T.mk kx nx sx Bx cx lx rx) p q wx)
  case first =>
    refine wp_region_inv (I := fun a0 f a w' => ∃ x7 x8 x31 x32 x33 x34 t4 t5 g7 g8, a = ((((((a0.put (some 7) x7).put (some 8) x8).put (some 31) x31).put (some 32) x32).put (some 33) x33).put (some 34) x34) ∧ J2 w3 (T.mk k n s B cb l r) (T.mk kx nx sx Bx cx lx rx) f x7 x8 x31 x32 x33 x34 t4 t5 g7 g8 w') (by kernel_rfl) (by kernel_rfl) ?st ?step ?en
    case st => exact ⟨_, _, _, _, _, _, _, _, _, _, rfl, J2.begin⟩
    case step =>
      rintro i o f a w' ho hf hd ⟨x7, x8, x31, x32, x33, x34, t4, t5, g7, g8, rfl, J⟩ K' hK
      have hi := (Array.getElem?_eq_some_iff.1 ho).1
      simp only [List.size_toArray, List.length_cons, List.length_nil] at hi
      have hcs := J.fr.cells
      have hsz := J.fr.size
      have hid : i = 0 ∨ i = 1 ∨ i = 2 ∨ i = 3 ∨ i = 4 ∨ i = 5 ∨ i = 6 ∨ i = 7 := by omega
      simp only [Act.put, List.setIfInBounds_toArray, List.set_cons_zero, List.set_cons_succ]
      rcases hid with rfl | rfl | rfl | rfl | rfl | rfl | rfl | rfl
      · simp only [List.getElem?_toArray, List.getElem?_cons_succ, List.getElem?_cons_zero, Option.some.injEq] at ho; subst ho
        have hg : w.heap.size < w'.heap.size := by omega
        have HJ := hide J
        clear J hd
        go_simp
        exact hK.out _ _ ⟨_, _, _, _, _, _, _, _, _, _, by simp only [Act.put, List.setIfInBounds_toArray, List.set_cons_zero, List.set_cons_succ] <;> rfl, HJ.out.load31⟩
      · simp only [List.getElem?_toArray, List.getElem?_cons_succ, List.getElem?_cons_zero, Option.some.injEq] at ho; subst ho
        have h0 := J.l31 (hd ⟨0, .data⟩ (by simp) (by rfl))
        rw [T.val_mk] at h0
        subst h0
        have HJ := hide J
        clear J hd
        go_simp
        go_at_call 40
        refine (HL1.out _ HJ.out.fr).mono ?_
        rintro e w4 ⟨t', rfl, ev, ein, emk, f4⟩
        exact hK.out _ _ ⟨_, _, _, _, _, _, _, _, _, _, by simp only [Act.put, List.setIfInBounds_toArray, List.set_cons_zero, List.set_cons_succ] <;> rfl, HJ.out.call4 hf ev ein emk f4⟩
      · simp only [List.getElem?_toArray, List.getElem?_cons_succ, List.getElem?_cons_zero, Option.some.injEq] at ho; subst ho
        have hg : w.heap.size + 1 < w'.heap.size := by omega
        have HJ := hide J
        clear J hd
        go_simp
        exact hK.out _ _ ⟨_, _, _, _, _, _, _, _, _, _, by simp only [Act.put, List.setIfInBounds_toArray, List.set_cons_zero, List.set_cons_succ] <;> rfl, HJ.out.load33⟩
      · simp only [List.getElem?_toArray, List.getElem?_cons_succ, List.getElem?_cons_zero, Option.some.injEq] at ho; subst ho
        have h0 := J.l33 (hd ⟨2, .data⟩ (by simp) (by rfl))
        rw [T.val_mk] at h0
        subst h0
        have HJ := hide J
        clear J hd
        go_simp
        go_at_call 40
        refine (HL2.out _ HJ.out.fr).mono ?_
        rintro e w4 ⟨t', rfl, ev, ein, emk, f4⟩
        exact hK.out _ _ ⟨_, _, _, _, _, _, _, _, _, _, by simp only [Act.put, List.setIfInBounds_toArray, List.set_cons_zero, List.set_cons_succ] <;> rfl, HJ.out.call5 hf ev ein emk f4⟩
      · simp only [List.getElem?_toArray, List.getElem?_cons_succ, List.getElem?_cons_zero, Option.some.injEq] at ho; subst ho
        have HJ := hide J
        clear J hd
        go_simp
        exact hK.out _ _ ⟨_, _, _, _, _, _, _, _, _, _, by simp only [Act.put, List.setIfInBounds_toArray, List.set_cons_zero, List.set_cons_succ] <;> rfl, HJ.out.alloc7 hf _ _ _ _ _⟩
      · simp only [List.getElem?_toArray, List.getElem?_cons_succ, List.getElem?_cons_zero, Option.some.injEq] at ho; subst ho
        have HJ := hide J
        clear J hd
        go_simp
        exact hK.out _ _ ⟨_, _, _, _, _, _, _, _, _, _, by simp only [Act.put, List.setIfInBounds_toArray, List.set_cons_zero, List.set_cons_succ] <;> rfl, HJ.out.alloc8 hf _ _ _ _ _⟩
      · simp only [List.getElem?_toArray, List.getElem?_cons_succ, List.getElem?_cons_zero, Option.some.injEq] at ho; subst ho
        have h4 := hd ⟨4, .data⟩ (by simp) (by rfl)
        have h1 := hd ⟨1, .data⟩ (by simp) (by rfl)
        obtain ⟨rfl, -, z0, z1, z2, z3, z4, hb⟩ := J.a7 h4
        have e1 := (J.c4 h1).1
        obtain ⟨k4, n4, s4, A4, cap4, l4, r4⟩ := t4
        rw [T.val_mk] at e1
        subst e1
        obtain ⟨d0, d1, d2, d3, d4, df⟩ := hb.cells5
        have HJ := hide J
        have HH4 := hide h4
        have HH1 := hide h1
        clear J hd hb h4 h1
        go_simp
        exact hK.out _ _ ⟨_, _, _, _, _, _, _, _, _, _, by simp only [Act.put, List.setIfInBounds_toArray, List.set_cons_zero, List.set_cons_succ] <;> rfl, HJ.out.store7 HH4.out HH1.out⟩
      · simp only [List.getElem?_toArray, List.getElem?_cons_succ, List.getElem?_cons_zero, Option.some.injEq] at ho; subst ho
        have h4 := hd ⟨5, .data⟩ (by simp) (by rfl)
        have h1 := hd ⟨3, .data⟩ (by simp) (by rfl)
        obtain ⟨rfl, -, z0, z1, z2, z3, z4, hb⟩ := J.a8 h4
        have e1 := (J.c5 h1).1
        obtain ⟨k4, n4, s4, A4, cap4, l4, r4⟩ := t5
        rw [T.val_mk] at e1
        subst e1
        obtain ⟨d0, d1, d2, d3, d4, df⟩ := hb.cells5
        have HJ := hide J
        have HH4 := hide h4
        have HH1 := hide h1
        clear J hd hb h4 h1
        go_simp
        exact hK.out _ _ ⟨_, _, _, _, _, _, _, _, _, _, by simp only [Act.put, List.setIfInBounds_toArray, List.set_cons_zero, List.set_cons_succ] <;> rfl, HJ.out.store8 HH4.out HH1.out⟩
    case en =>
      rintro f a w' hall ⟨x7, x8, x31, x32, x33, x34, t4, t5, g7, g8, rfl, J⟩
      have h1 : f 1 = true := hall 1 (by simp)
      have h3 : f 3 = true := hall 3 (by simp)
      have h6 : f 6 = true := hall 6 (by simp)
      have h7 : f 7 = true := hall 7 (by simp)
      obtain ⟨h4, -, s7⟩ := J.s7 h6
      obtain ⟨h5, -, s8⟩ := J.s8 h7
      obtain ⟨rfl, -, -⟩ := J.a7 h4
      obtain ⟨rfl, -, -⟩ := J.a8 h5
      obtain ⟨-, ev4, b4⟩ := J.c4 h1
      obtain ⟨-, ev5, b5⟩ := J.c5 h3
      have hp : PLP w (T.mk k n s B cb l r) (T.mk kx nx sx Bx cx lx rx) (.pointer (some ⟨g7, 0, none⟩)) (.pointer (some ⟨g8, 0, none⟩)) w' :=
        ⟨g7, g8, w'.heap.size, t4, t5, rfl, rfl, ev4, ev5, HBV3.out.fr J.fr fun h => h, HBX3.out.fr J.fr fun h => h, s7, s8, HT.out.no (G3.out.trans J.fr) (Nat.le_refl _), HX.out.no (G3.out.trans J.fr) (Nat.le_refl _),
          T.In.more (Nat.zero_le _) (Nat.le_refl _) _ b4.inn, T.In.more (Nat.zero_le _) (Nat.le_refl _) _ b5.inn, b4.mrk, b5.mrk, G3.out.trans J.fr, by have := (HBX3.out.fr J.fr fun h => h).lt; omega, s7.lt, s8.lt, Nat.le_refl _⟩
      have HPP := hide hp
      clear J s7 s8 ev4 ev5 b4 b5 hp h1 h3 h4 h5 h6 h7 hall c0 c1 c2 c3 c4 x0 x1 x2 x3 x4 q0 q1
      simp only [Act.put, List.setIfInBounds_toArray, List.set_cons_zero, List.set_cons_succ]
      go_wp2_with fail
      go_meet
      exact HPP.out
  case rest =>
    obtain ⟨gv, gx, tp, ⟨ko, no, so, Ao, co, lo, ro⟩, ⟨kp, np, sp, Ap, cp, lp, rp⟩, rfl, rfl, evo, evp, PL0⟩ := hcut
    obtain ⟨wA, rfl⟩ : ∃ wA : World, wA = wc := ⟨_, rfl⟩
    obtain ⟨i0, hi0, hz0, hz1, hz2⟩ := info_parts int_info
    have HPL0 := hide PL0
    have HEO := hide (evo.trans HV.out)
    have HEP := hide (evp.trans HU.out)
    have hsA := PL0.f.size
    have HIP := hide (HP.out.no PL0.f (Nat.le_refl _))
    have hpl : p.length ≤ 1000000 := by omega
    clear evo evp PL0 HBV3 HBX3 G3 HL1 HL2 c0 c1 c2 c3 c4 x0 x1 x2 x3 x4 q0 q1
    go_wp2_with (first
      | (at_builtin; refine wpList_copy_ints wA (by rfl) _ _ (by rfl) (by rfl) A cap p (by rfl) 0 w.heap.size HIP.out hpl ?_; intro vf w5 of5 f5; have of5' := of5.alloc (.cells #[.int .i64 77] 3); have HOF5 := hide of5; have HF5 := hide f5; have hs5 := f5.size; clear of5 f5)
      | (at_builtin; refine wpList_append_lies _ (by rfl) _ _ _ (by rfl) wA.heap.size 3 i0 _ 1 8 Try.underlying77 hi0 hz0 hz1 hz2 (by rfl) (by omega) vf p.length (refCells p) (by rfl) of5' ⟨w5.heap.size, 0, none⟩ 1 1 [.int .i64 77] (by rfl) (by rfl) (World.news_of_block (Blk.new w5 3 #[.int .i64 77])) (by simp [Value.oneCell']) (by omega) (by unfold maxLen; omega) (by omega) (by simp; omega) (w5.heap.size + 1) (by simp) ?_; intro gf kf w6 of6 g6 at6 lt6; have f46 : Fr No wA w6 := (HF5.out.alloc (.cells #[.int .i64 77] 3)).trans' (fr_grown g6) (fun i hi h => by have := owns_lt HOF5.out i h.symm; omega); have HOF6 := hide of6; have hs6 := f46.size; have HF46 := hide f46; clear of6 g6 at6 of5' HOF5 HF5 f46))
    have PF6 := ints_of_front3 HOF6.out hpl HIP.out.rng
    have hgf0 : wA.heap.size ≤ gf := PF6.2.2.2.1
    have hgf1 : gf < w6.heap.size := lt6
    have hkf : p.length + 1 ≤ kf := PF6.2.2.2.2.2
    have hkf1 : (p.length : Int) ≤ (kf : Int) := by omega
    have P6 := HPL0.out.no HF46.out
    have hif := PF6.1
    have cl : ∀ w', Fr No w6 w' → Calls Try.prog 68 #[(T.mk ko no so Ao co lo ro).val, .slice (some ⟨gf, 0, none⟩) p.length kf] w' (OwnE2 (atOf v p).1 (atOf v p).2 w') := fun w' f => by
      have h := At2_any (T.mk ko no so Ao co lo ro) w' 0 tp (P6.no f).io (P6.no f).t3 (some ⟨gf, 0, none⟩) kf p wA.heap.size w6.heap.size (hif.no f (Nat.le_refl _)) f.size
      rw [HEO.out] at h
      exact h
    have cw : ∀ w', Fr No w6 w' → Calls Try.prog 70 #[(T.mk ko no so Ao co lo ro).val, (T.mk kp np sp Ap cp lp rp).val, .slice (some ⟨gf, 0, none⟩) p.length kf] w' (OwnE2 (withOf v u p).1 (withOf v u p).2 w') := fun w' f => by
      have h := With_any (T.mk ko no so Ao co lo ro) (T.mk kp np sp Ap cp lp rp) w' 0 tp (P6.no f).io (P6.no f).t3 0 tp (P6.no f).ip (P6.no f).t3 (some ⟨gf, 0, none⟩) kf p wA.heap.size w6.heap.size (hif.no f (Nat.le_refl _)) f.size
      rw [HEO.out, HEP.out] at h
      exact h
    rw [T.val_mk] at cl
    rw [T.val_mk, T.val_mk] at cw
    have HCW := hide cw
    have HCL := hide cl
    have HIF := hide hif
    have HP6 := hide P6
    obtain ⟨x0, x1, x2, x3, x4, -⟩ := Blk.cells5 P6.bo
    have q1 := P6.bo.lt
    generalize hER : (atOf v p).2 = er at *
    generalize hXX : (atOf v p).1 = X at *
    have HER := hide hER
    have HXX := hide hXX
    clear hER hXX PF6 P6 hif cl cw
    go_cut [10, 11] from 40 to 47 (fun p q wx => RcP w6 X er p q wx)
    case first =>
      go_region_with (first
        | (go_at_call 68; (with_reducible refine (HCL.out _ (Fr.drew (Fr.refl No w6))).mono ?_); rintro e w9 ⟨⟨k9, n9, s9, A9, c9, l9, r9⟩, rfl, hvx, hshx, f9⟩; rw [T.val_mk]; have hal : True := trivial)
        | (go_at_call 68; (with_reducible refine (HCL.out _ (Fr.drew (Fr.alloc (Fr.refl No w6) _))).mono ?_); rintro e w9 ⟨⟨k9, n9, s9, A9, c9, l9, r9⟩, rfl, hvx, hshx, f9⟩; rw [T.val_mk]; have bz9 : Blk w9 w6.heap.size 27 #[.int .u8 0, .int .i64 0, .string ⟨#[]⟩, .slice none 0 0, .int .i64 0] := Blk.fr (a := (w6.alloc (.cells #[.int .u8 0, .int .i64 0, .string ⟨#[]⟩, .slice none 0 0, .int .i64 0] 27)).drew) (Blk.new w6 27 #[.int .u8 0, .int .i64 0, .string ⟨#[]⟩, .slice none 0 0, .int .i64 0]) f9 fun h => h; obtain ⟨d0, d1, d2, d3, d4, df⟩ := bz9.cells5; have qz := bz9.lt))
      all_goals
        go_simp
        go_wp2_with fail
        go_meet
        first | exact rc_new f9 hvx hshx | exact rc_old f9 hvx hshx
    case rest =>
      obtain ⟨ga, ta, rfl, rfl, rb⟩ := hcut
      obtain ⟨wp, rfl⟩ : ∃ wp : World, wp = wc := ⟨_, rfl⟩
      have Pc := HP6.out.no rb.f
      clear x0 x1 x2 x3 x4 q1
      obtain ⟨x0, x1, x2, x3, x4, -⟩ := Blk.cells5 Pc.bo
      have q1 := Pc.bo.lt
      have hcc := fun w' (f : Fr No wp w') => HCL.out w' (rb.f.trans f)
      have HCC := hide hcc
      have HRB := hide rb
      have HPC := hide Pc
      clear rb Pc hcc
      go_upto_region 6 with (fail)
      go_cut [12, 13] from 49 to 56 (fun p q wx => RcP wp X er p q wx)
      case first =>
        go_region_with (first
          | (go_at_call 68; (with_reducible refine (HCC.out _ (Fr.drew (Fr.refl No wp))).mono ?_); rintro e w9 ⟨⟨k9, n9, s9, A9, c9, l9, r9⟩, rfl, hvx, hshx, f9⟩; rw [T.val_mk]; have hal : True := trivial)
          | (go_at_call 68; (with_reducible refine (HCC.out _ (Fr.drew (Fr.alloc (Fr.refl No wp) _))).mono ?_); rintro e w9 ⟨⟨k9, n9, s9, A9, c9, l9, r9⟩, rfl, hvx, hshx, f9⟩; rw [T.val_mk]; have bz9 : Blk w9 wp.heap.size 27 #[.int .u8 0, .int .i64 0, .string ⟨#[]⟩, .slice none 0 0, .int .i64 0] := Blk.fr (a := (wp.alloc (.cells #[.int .u8 0, .int .i64 0, .string ⟨#[]⟩, .slice none 0 0, .int .i64 0] 27)).drew) (Blk.new wp 27 #[.int .u8 0, .int .i64 0, .string ⟨#[]⟩, .slice none 0 0, .int .i64 0]) f9 fun h => h; obtain ⟨d0, d1, d2, d3, d4, df⟩ := bz9.cells5; have qz := bz9.lt))
        all_goals
          go_simp
          go_wp2_with fail
          go_meet
          first | exact rc_new f9 hvx hshx | exact rc_old f9 hvx hshx
      case rest =>
        obtain ⟨gb, tb, rfl, rfl, rb2⟩ := hcut
        obtain ⟨wq, rfl⟩ : ∃ wq : World, wq = wc := ⟨_, rfl⟩
        have Pq := HPC.out.no rb2.f
        clear x0 x1 x2 x3 x4 q1
        obtain ⟨x0, x1, x2, x3, x4, -⟩ := Blk.cells5 Pq.bv
        have q1 := Pq.bv.lt
        have hrr := refAt_any (T.mk k n s B cb l r) wq 0 w.heap.size Pq.iv Pq.f.size A cap p 0 w.heap.size (HP.out.no Pq.f (Nat.le_refl _)) Pq.f.size
        rw [T.val_mk, HV.out] at hrr
        unfold RAtP at hrr
        rw [HER.out, HXX.out] at hrr
        have HRR := hide hrr
        have HRB2 := hide rb2
        have HPQ := hide Pq
        clear hrr rb2 Pq HCC
        go_wp2_with fail
        refine HRR.out.mono ?_
        rintro e wz ⟨fz, ⟨kz, nz, sz, Az, cz, lz, rz⟩, rfl, hvz, hinz⟩
        rw [T.val_mk]
        obtain ⟨ka, na, sa, Aa, ca, la, ra⟩ := ta
        obtain ⟨kb, nb, sb, Ab, cb2, lb, rb⟩ := tb
        have fx := fz.alloc (.cells #[.int .u8 kz, .int .i64 nz, .string sz, .slice Az lz.length cz, .int .i64 rz] 27)
        have fy := (Fr.refl No wz).alloc (.cells #[.int .u8 kz, .int .i64 nz, .string sz, .slice Az lz.length cz, .int .i64 rz] 27)
        have xc := Blk.new wz 27 #[.int .u8 kz, .int .i64 nz, .string sz, .slice Az lz.length cz, .int .i64 rz]
        have hxc := xc.lt
        have icz := hinz.no fy (by have := HPQ.out.f.size; have := fz.size; omega)
        have xa := (HRB.out.b.fr HRB2.out.f fun h => h).fr fx fun h => h
        have sa' := (HRB.out.sh.no HRB2.out.f).no fx
        have xb := HRB2.out.b.fr fx fun h => h
        have sb' := HRB2.out.sh.no fx
        have Pz := HPQ.out.no fx
        have F6 := (HRB.out.f.trans HRB2.out.f).trans fx
        have hszz := fz.size
        have hszp := HRB.out.f.size
        have hszq := HRB2.out.f.size
        have hsz6 := (HPL0.out.f.trans HF46.out).size
        have hga0 := HRB.out.g0
        have hgan := HRB.out.gn
        have hgb0 := HRB2.out.g0
        have hgbn := HRB2.out.b.lt
        have hgal := HRB.out.b.lt
        have htp := HPL0.out.t3
        have hsAA := HF46.out.size
        have hbl : ∀ i ∈ (T.mk ka na sa Aa ca la ra).blocks, w6.heap.size ≤ i ∧ i < wp.heap.size := fun i hi => T.In.blocks _ sa'.inn i hi
        have hh := heldB_any (T.mk ka na sa Aa ca la ra) (T.mk kb nb sb Ab cb2 lb rb) (T.mk kz nz sz Az cz lz rz) X _ w6.heap.size wp.heap.size wp.heap.size wq.heap.size 0 w.heap.size sa' (by omega) (by omega) sb'.inn (by omega) (fun i h0 _ hi => by have := hbl i hi; omega) icz (by omega) (fun i hi h => by have := hbl i h; have := T.In.blocks _ icz i hi; omega) HRB.out.v HRB2.out.v hvz (by have := atOf_may v p; rw [HXX.out] at this; exact this)
        rw [T.val_mk, T.val_mk, T.val_mk] at hh
        have HH := hide hh
        have HBL := hide hbl
        have HPZ := hide Pz
        have HF6 := hide F6
        have HXA := hide xa
        have HXB := hide xb
        have HXC := hide xc
        obtain ⟨a0, a1, a2, a3, a4, -⟩ := Blk.cells5 xa
        obtain ⟨b0, b1, b2, b3, b4, -⟩ := Blk.cells5 xb
        have aq := xa.lt
        have bq := xb.lt
        have HGAN := hide hgan
        clear hh hbl Pz F6 xa xb xc icz sa' sb' fx fy fz hinz hvz HRR HRB HRB2 HPQ HPC x0 x1 x2 x3 x4 q1 hgan
        go_wp2_with fail
        generalize World.alloc wz _ = wA2 at *
        refine HH.out.mono ?_
        rintro e wB ⟨rfl, fB⟩
        have hszB := fB.size
        have hnb : ∀ i, i < w6.heap.size → ¬ i ∈ (T.mk ka na sa Aa ca la ra).blocks := fun i hi h => by have := HBL.out i h; omega
        have hnb2 : ∀ i, wp.heap.size ≤ i → ¬ i ∈ (T.mk ka na sa Aa ca la ra).blocks := fun i hi h => by have := HBL.out i h; omega
        have Pb := HPZ.out.fr fB (fun i hi h => hnb i (by omega) h)
        have F6B : Fr No w6 wB := HF6.out.trans' fB fun i hi h => (hnb i hi h).elim
        have xa := HXA.out.fr fB HGAN.out
        have xb := HXB.out.fr fB (hnb2 _ hgb0)
        have xc := HXC.out.fr fB (hnb2 _ (by omega))
        obtain ⟨x0, x1, x2, x3, x4, -⟩ := Blk.cells5 Pb.bo
        obtain ⟨y0, y1, y2, y3, y4, -⟩ := Blk.cells5 Pb.bp
        have q1 := Pb.bo.lt
        have q2 := Pb.bp.lt
        have hcw2 := fun w' (f : Fr No wB w') => HCW.out w' (F6B.trans f)
        have HCW2 := hide hcw2
        have HPB := hide Pb
        have HF6B := hide F6B
        have HXA2 := hide xa
        have HXB2 := hide xb
        have HXC2 := hide xc
        generalize hER2 : (withOf v u p).2 = er2 at *
        generalize hXX2 : (withOf v u p).1 = X2 at *
        have HER2 := hide hER2
        have HXX2 := hide hXX2
        clear hER2 hXX2 hnb hnb2 Pb F6B xa xb xc hcw2 HBL HPZ HF6 HXA HXB HXC HH fB a0 a1 a2 a3 a4 b0 b1 b2 b3 b4 aq bq
        go_upto_region 10 with (fail)
        go_cut [11] from 79 to 87 (fun q wx => ∃ tt, q = .int .i64 er2 ∧ Rd wB wx X2 ga tt)
        case first =>
          go_region_with (first
            | (go_at_call 70; (with_reducible refine (HCW2.out _ (Fr.drew (Fr.refl No wB))).mono ?_); rintro e w9 ⟨⟨k9, n9, s9, A9, c9, l9, r9⟩, rfl, hvx, hshx, f9⟩; rw [T.val_mk]; have bz9 := Blk.fr (a := wB.drew) HXA2.out f9 fun h => h; obtain ⟨d0, d1, d2, d3, d4, df⟩ := Blk.cells5 bz9; have qz := bz9.lt)
            | fail)
          all_goals
            go_simp
            go_wp2_with fail
            go_meet
            exact ⟨_, rfl, rd_old HXA2.out f9 hvx hshx⟩
        case rest =>
          obtain ⟨⟨ka2, na2, sa2, Aa2, ca2, la2, ra2⟩, rfl, rd⟩ := hcut
          obtain ⟨wC, rfl⟩ : ∃ wC : World, wC = wc := ⟨_, rfl⟩
          have hszC := rd.f.size
          have Pc := HPB.out.fr rd.f (fun i hi h => by have h' : i = ga := h; omega)
          have F6C : Fr No w6 wC := HF6B.out.trans' rd.f fun i hi h => by have h' : i = ga := h; omega
          have xb := HXB2.out.fr rd.f (fun h => by have h' : gb = ga := h; omega)
          have xc := HXC2.out.fr rd.f (fun h => by have h' : wz.heap.size = ga := h; omega)
          clear x0 x1 x2 x3 x4 y0 y1 y2 y3 y4 q1 q2
          obtain ⟨x0, x1, x2, x3, x4, -⟩ := Blk.cells5 Pc.bo
          obtain ⟨y0, y1, y2, y3, y4, -⟩ := Blk.cells5 Pc.bp
          have q1 := Pc.bo.lt
          have q2 := Pc.bp.lt
          have hcw2 := fun w' (f : Fr No wC w') => HCW.out w' (F6C.trans f)
          have HCW3 := hide hcw2
          have HPC2 := hide Pc
          have HF6C := hide F6C
          have HXB3 := hide xb
          have HXC3 := hide xc
          have HRD := hide rd
          clear Pc F6C xb xc hcw2 rd HCW2 HPB HF6B HXA2 HXB2 HXC2
          go_upto_region 11 with (fail)
          go_cut [13] from 89 to 97 (fun q wx => ∃ tt, q = .int .i64 er2 ∧ Rd wC wx X2 gb tt)
          case first =>
            go_region_with (first
              | (go_at_call 70; (with_reducible refine (HCW3.out _ (Fr.drew (Fr.refl No wC))).mono ?_); rintro e w9 ⟨⟨k9, n9, s9, A9, c9, l9, r9⟩, rfl, hvx, hshx, f9⟩; rw [T.val_mk]; have bz9 := Blk.fr (a := wC.drew) HXB3.out f9 fun h => h; obtain ⟨d0, d1, d2, d3, d4, df⟩ := Blk.cells5 bz9; have qz := bz9.lt)
              | fail)
            all_goals
              go_simp
              go_wp2_with fail
              go_meet
              exact ⟨_, rfl, rd_old HXB3.out f9 hvx hshx⟩
          case rest =>
            obtain ⟨⟨kb2, nb2, sb2, Ab2, cb3, lb2, rb2⟩, rfl, rd2⟩ := hcut
            obtain ⟨wD, rfl⟩ : ∃ wD : World, wD = wc := ⟨_, rfl⟩
            have hszD := rd2.f.size
            have Pd := HPC2.out.fr rd2.f (fun i hi h => by have h' : i = gb := h; omega)
            have F6D : Fr No w6 wD := HF6C.out.trans' rd2.f fun i hi h => by have h' : i = gb := h; omega
            have xa := HRD.out.b.fr rd2.f (fun h => by have h' : ga = gb := h; omega)
            have sha := HRD.out.sh
            have shaD := sha.fr rd2.f (fun b hb h => by have h' : b = gb := h; have := T.In.blocks _ sha.inn b hb; omega)
            have xc := HXC3.out.fr rd2.f (fun h => by have h' : wz.heap.size = gb := h; omega)
            clear x0 x1 x2 x3 x4 y0 y1 y2 y3 y4 q1 q2
            obtain ⟨x0, x1, x2, x3, x4, -⟩ := Blk.cells5 Pd.bv
            obtain ⟨y0, y1, y2, y3, y4, -⟩ := Blk.cells5 Pd.bx
            have q1 := Pd.bv.lt
            have q2 := Pd.bx.lt
            have hrr := refWith_any (T.mk k n s B cb l r) (T.mk kx nx sx Bx cx lx rx) wD 0 w.heap.size Pd.iv Pd.f.size 0 w.heap.size Pd.ix Pd.f.size A cap p 0 w.heap.size (HP.out.no Pd.f (Nat.le_refl _)) Pd.f.size
            rw [T.val_mk, T.val_mk, HV.out, HU.out, HER2.out, HXX2.out] at hrr
            have HRR := hide hrr
            have HPD := hide Pd
            have HF6D := hide F6D
            have HXA4 := hide xa
            have HXC4 := hide xc
            have HSHA := hide shaD
            have HRD2 := hide rd2
            clear hrr Pd F6D xa sha shaD xc rd2 HCW3 HPC2 HF6C HXB3 HXC3
            go_wp2_with fail
            refine HRR.out.mono ?_
            rintro e wE ⟨⟨ke, ne, se, Ae, ce, le, re⟩, rfl, hve, hine, hble, fE⟩
            rw [T.val_mk]
            have hszE := fE.size
            have xcE := HXC4.out.fr fE fun h => h
            obtain ⟨z0, z1, z2, z3, z4, zf⟩ := Blk.cells5 xcE
            have zq := xcE.lt
            have FE := five_fr wE wz.heap.size 0 ke ne se Ae le.length ce re
            have hcz : Blk (five wE wz.heap.size 0 ke ne se Ae le.length ce re) wz.heap.size 27 (T.mk ke ne se Ae ce le re).cells.toArray := (sets5v wE wz.heap.size 27 _ _ _ _ _ (.int .u8 ke) (.int .i64 ne) (.string se) (.slice Ae le.length ce) (.int .i64 re) xcE).1
            have xaE := (HXA4.out.fr fE fun h => h).fr FE (fun h => by have h' : ga = wz.heap.size := h; omega)
            have xbE := (HRD2.out.b.fr fE fun h => h).fr FE (fun h => by have h' : gb = wz.heap.size := h; omega)
            have PE := (HPD.out.no fE).fr FE (fun i hi h => by have h' : i = wz.heap.size := h; omega)
            have F6E : Fr No w6 (five wE wz.heap.size 0 ke ne se Ae le.length ce re) := (HF6D.out.trans fE).trans' FE fun i hi h => by have h' : i = wz.heap.size := h; omega
            have shaE := (HSHA.out.no fE).fr FE (fun b hb h => by have h' : b = wz.heap.size := h; have := T.In.blocks _ HSHA.out.inn b hb; omega)
            have shbE := (HRD2.out.sh.no fE).fr FE (fun b hb h => by have h' : b = wz.heap.size := h; have := T.In.blocks _ HRD2.out.sh.inn b hb; omega)
            have hbe : ∀ b ∈ (T.mk ke ne se Ae ce le re).blocks, b < w.heap.size ∨ wD.heap.size ≤ b := fun b hb => by rcases hble b hb with h | h <;> omega
            have hineE := In.fr_blocks FE (Nat.le_refl _) _ (fun b hb h => by have h' : b = wz.heap.size := h; rcases hbe b hb with h | h <;> omega) hine
            have HS9 := hide (show (five wE wz.heap.size 0 ke ne se Ae le.length ce re).heap.size = wE.heap.size by simp [five])
            have HCZ := hide hcz
            have HXAE := hide xaE
            have HXBE := hide xbE
            have HPE := hide PE
            have HF6E := hide F6E
            have HSHAE := hide shaE
            have HSHBE := hide shbE
            have HBE := hide hbe
            have HINE := hide hineE
            have HVE := hide hve
            clear hcz xaE xbE PE F6E shaE shbE hbe hineE hve hine hble fE FE xcE HRR HXA4 HXC4 HPD HF6D HSHA x0 x1 x2 x3 x4 y0 y1 y2 y3 y4 q1 q2
            go_upto_region 13 with (fail)
            have hW : (((((wE.setCell ⟨wz.heap.size, 0, none⟩ (.int .u8 ke)).setCell ⟨wz.heap.size, 1, none⟩ (.int .i64 ne)).setCell ⟨wz.heap.size, 2, none⟩ (.string se)).setCell ⟨wz.heap.size, 3, none⟩ (.slice Ae le.length ce)).setCell ⟨wz.heap.size, 4, none⟩ (.int .i64 re)) = five wE wz.heap.size 0 ke ne se Ae le.length ce re := rfl
            rw [hW]
            clear hW
            have hs9 := HS9.out
            have hcz := HCZ.out
            have xaE := HXAE.out
            have xbE := HXBE.out
            have PE := HPE.out
            have F6E := HF6E.out
            have shaE := HSHAE.out
            have shbE := HSHBE.out
            have hine := HINE.out
            clear HS9 HCZ HXAE HXBE HPE HF6E HSHAE HSHBE HINE z0 z1 z2 z3 z4 zf zq
            generalize five wE wz.heap.size 0 ke ne se Ae le.length ce re = wF at *
            have hbl : ∀ i ∈ (T.mk ka2 na2 sa2 Aa2 ca2 la2 ra2).blocks, wB.heap.size ≤ i ∧ i < wC.heap.size := fun i hi => T.In.blocks _ shaE.inn i hi
            have hh := heldB_any (T.mk ka2 na2 sa2 Aa2 ca2 la2 ra2) (T.mk kb2 nb2 sb2 Ab2 cb3 lb2 rb2) (T.mk ke ne se Ae ce le re) X2 wF wB.heap.size wC.heap.size wC.heap.size wD.heap.size 0 wE.heap.size shaE (by omega) (by omega) shbE.inn (by omega) (fun i h0 _ hi => by have := hbl i hi; omega) (T.In.more (Nat.le_refl _) (by omega) _ hine) (by omega) (fun i hi h => by have := hbl i h; rcases HBE.out i hi with h | h <;> omega) HRD.out.v HRD2.out.v HVE.out (by have := withOf_may v u p; rw [HXX2.out] at this; exact this)
            rw [T.val_mk, T.val_mk, T.val_mk] at hh
            have HH := hide hh
            have HBL := hide hbl
            have HPE := hide PE
            have HF6E := hide F6E
            obtain ⟨a0, a1, a2, a3, a4, -⟩ := Blk.cells5 xaE
            obtain ⟨b0, b1, b2, b3, b4, -⟩ := Blk.cells5 xbE
            obtain ⟨z0, z1, z2, z3, z4, -⟩ := Blk.cells5 hcz
            have aq := xaE.lt
            have bq := xbE.lt
            have zq := hcz.lt
            clear hh hbl PE F6E xaE xbE hcz shaE shbE hine HRD HRD2 HVE HBE
            go_wp2_with fail
            refine HH.out.mono ?_
            rintro e wG ⟨rfl, fG⟩
            have hnb : ∀ i, i < wB.heap.size → ¬ i ∈ (T.mk ka2 na2 sa2 Aa2 ca2 la2 ra2).blocks := fun i hi h => by have := HBL.out i h; omega
            have hszG := fG.size
            have Pg := HPE.out.fr fG (fun i hi h => hnb i (by omega) h)
            have F6G : Fr No w6 wG := HF6E.out.trans' fG fun i hi h => (hnb i (by omega) h).elim
            have OF := owns_fr HOF6.out F6G (fun _ _ h => h)
            have hPF := ints_of_front3 OF hpl HIP.out.rng
            have hcf : ∀ wr, Fr No wG wr → ∀ i x, p[i]? = some x → wr.cell? ⟨gf, i, none⟩ = some (.int .i64 x) := fun wr f i x hx => (f.cell hPF.2.2.2.2.1 (fun h => h)).trans (hPF.2.2.1 i x hx)
            have hm77 : ∀ wr, Fr No wG wr → wr.cell? ⟨gf, p.length, none⟩ = some (.int .i64 77) := fun wr f => (f.cell hPF.2.2.2.2.1 (fun h => h)).trans hPF.2.1
            have hgf2 := hPF.2.2.2.2.1
            have HCF := hide hcf
            have HM77 := hide hm77
            have HPG := hide Pg
            have HGB := hide Pg.f
            have hszGG := Pg.f.size
            clear hnb Pg F6G OF hPF hcf hm77 HBL HPE HF6E fG HH a0 a1 a2 a3 a4 b0 b1 b2 b3 b4 z0 z1 z2 z3 z4 aq bq zq
            go_wp2_with fail
            go_loopw [16] (fun i wr => ∃ j : Nat, j ≤ p.length ∧ i = .int .i64 j ∧ Fr No wG wr) (fun i _ => p.length - (intOf i).toNat)
            case atStart => exact ⟨0, Nat.zero_le _, rfl, Fr.refl _ _⟩
            case round =>
              obtain ⟨j, hj, rfl, fr⟩ := hrel
              by_cases hjl : j < p.length
              · obtain ⟨bf, off, rfl, hbf0, hbf1, hcf⟩ := (HP.out.no (HGB.out.trans fr) (Nat.le_refl _)).elem hjl
                have hx : p[j]? = some p[j] := List.getElem?_eq_getElem hjl
                have hco := HCF.out wr fr j _ hx
                have hsr := (HGB.out.trans fr).size
                have g0 : bf < wr.heap.size := by omega
                have g1 : gf < wr.heap.size := by have := fr.size; omega
                generalize p[j] = x at *
                have HF := hide fr
                clear hx fr
                go_wp2_with fail
                go_quiet (fail)
                go_wp2
                go_roundw
                case rel => exact ⟨j + 1, hjl, by go_num, HF.out.drewN _⟩
                case measure => simp [intOf]; omega
              · obtain rfl : j = p.length := by omega
                have Pe := HPG.out.no fr
                have hm := HM77.out wr fr
                have g1 : gf < wr.heap.size := by have := fr.size; omega
                obtain ⟨c0, c1, c2, c3, c4, -⟩ := Blk.cells5 Pe.bv
                obtain ⟨x0, x1, x2, x3, x4, -⟩ := Blk.cells5 Pe.bo
                have q0 := Pe.bv.lt
                have q1 := Pe.bo.lt
                have hke := kept_any (T.mk ko no so Ao co lo ro) (T.mk k n s B cb l r) wr 0 tp 0 w.heap.size Pe.io Pe.t3 Pe.mo Pe.iv Pe.f.size (HEO.out.trans HV.out.symm)
                have hke2 := fun w' (f : Fr No wr w') => kept_any (T.mk kp np sp Ap cp lp rp) (T.mk kx nx sx Bx cx lx rx) w' 0 tp 0 w.heap.size (Pe.no f).ip (Pe.no f).t3 (Pe.no f).mp (Pe.no f).ix (Pe.no f).f.size (HEP.out.trans HU.out.symm)
                rw [T.val_mk, T.val_mk] at hke hke2
                have HKE := hide hke
                have HKE2 := hide hke2
                have HPEE := hide Pe
                clear hke hke2 Pe fr hj hjl
                go_wp2_with fail
                refine HKE.out.mono ?_
                rintro e wf ⟨rfl, ff⟩
                have Pf := HPEE.out.no ff
                clear c0 c1 c2 c3 c4 x0 x1 x2 x3 x4 q0 q1 hm
                obtain ⟨c0, c1, c2, c3, c4, -⟩ := Blk.cells5 Pf.bx
                obtain ⟨x0, x1, x2, x3, x4, -⟩ := Blk.cells5 Pf.bp
                have q0 := Pf.bx.lt
                have q1 := Pf.bp.lt
                have hk2 := HKE2.out wf ff
                have HK2 := hide hk2
                have HGF := hide Pf.f
                clear hk2 Pf ff HKE HKE2 HPEE
                go_wp2_with fail
                refine HK2.out.mono ?_
                rintro e wh ⟨rfl, fh⟩
                have HGH := hide (HGF.out.trans fh)
                clear fh
                go_wp2_with fail
                refine (awake_any _).mono ?_
                rintro e wl ⟨rfl, fl⟩
                go_wp2
                go_ret
                exact ⟨rfl, HGH.out.trans fl⟩



end Go.Proofs.Ytihjmipmjogpoaa

/- An argument that is a row of whole numbers. -/
namespace Go.Proofs.Ytihjmipmjogpoaa
open Go.Joins Go.ChangeShapes Go.WideShapes Go.RowKit Go.Deep

section
variable {H : Type} {enc : TypeId × Value → H}

set_option maxRecDepth 100000 in
theorem open_ints {ty el : TypeId} (hty : Try.prog.underlying ty = some (.slice el)) (hel0 : Try.prog.underlying el = some (.int .i64)) (hcells : Try.prog.cellsOf el = 1) (hbytes : Try.prog.bytesOf el = 8)
    {W : World} {b0 : Nat} {v : Value} {d : DataW H} {p : List MemPlace} (hv : Value.okWide Try.prog W .any b0 ty v) (h : DataW.Trod enc Try.prog W 0 (fun _ => true) true ty v d p) (hw : ∀ m ∈ d.weights Try.prog ty, m ≤ reachBytes) :
    ∃ A cap l, v = .slice A l.length cap ∧ Ints W 0 W.heap.size A cap l := by
  obtain ⟨A, len, cap, rfl⟩ := okWide_slice hty hv
  obtain ⟨fuel, hf⟩ := h
  have hcs : Value.cells (.slice A len cap) = #[.slice A len cap] := rfl
  rw [hcs] at hf
  rcases DataW.trod_slice hty hf with ⟨e3, -⟩ | ⟨a, len', cap', elems, rest, n', rfl, e3, e5, -, hcap, hmax, hel, hat, hsp, -⟩
  · simp at e3
    obtain ⟨rfl, rfl, rfl⟩ := e3
    exact ⟨none, 0, [], rfl, by simp, Nat.le_refl _, fun h => absurd rfl h, by simp⟩
  · simp at e3
    obtain ⟨rfl, rfl, rfl⟩ := e3
    simp only [Prod.mk.injEq] at e5
    obtain ⟨rfl, -⟩ := e5
    have hlen1 : len * 8 ≤ 140737488351232 := by
      have := hw ((elems.length + rest.length) * 8) (by rw [DataW.weights, hty]; simp [hbytes])
      rw [reach_eq, hel] at this
      omega
    rw [hcells] at hat
    have hone : ∀ i, i < len → ∃ x : Int, W.cell? (a.add i) = some (.int .i64 x) ∧ -9223372036854775808 ≤ x ∧ x ≤ 9223372036854775807 := by
      intro i hi
      have h1 := hat i hi
      rw [Nat.mul_one] at h1
      have h2 : elems[i]? = some (elems[i]'(by omega)) := List.getElem?_eq_getElem (by omega)
      rw [h2] at h1
      obtain ⟨cs', hc, ht'⟩ := Option.bind_eq_some_iff.1 h1
      obtain ⟨r, rfl, -, wr⟩ := DataW.trod_int hel0 ht'
      obtain ⟨-, -, hcell⟩ := World.cells?_some hc
      have hc0 := hcell 0 (by omega)
      refine ⟨r, ?_, wf_i64 wr⟩
      have e0 : (a.add i).add 0 = a.add i := by unfold Addr.add; split <;> simp_all
      rw [e0] at hc0
      simpa using hc0
    obtain ⟨l, hl, hq⟩ := choose_list len hone
    subst hl
    obtain ⟨b, o, sp⟩ := a
    refine ⟨some ⟨b, o, sp⟩, cap, l, rfl, hlen1, hcap, fun hne => ?_, fun x hx => ?_⟩
    · have hlp : 0 < l.length := List.length_pos_iff.2 hne
      obtain ⟨hcc, -⟩ := hq 0 _ (List.getElem?_eq_getElem hlp)
      have hspot : sp = none := by simpa [Addr.add] using World.cell?_spot hcc
      subst hspot
      have hlt := cell_lt hcc
      refine ⟨b, o, rfl, Nat.zero_le _, by simpa [Addr.add] using hlt, fun i x hx => ?_⟩
      have := (hq i x hx).1
      rw [add_at] at this
      exact this
    · obtain ⟨i, hi, rfl⟩ := List.mem_iff_getElem.1 hx
      exact (hq i _ (List.getElem?_eq_getElem hi)).2

set_option maxRecDepth 100000 in
theorem open_refs {W : World} {b0 : Nat} {v : Value} {d : DataW H} {p : List MemPlace} (hv : Value.okWide Try.prog W .any b0 100 v) (h : DataW.Trod enc Try.prog W 0 (fun _ => true) true 100 v d p) (hw : ∀ m ∈ d.weights Try.prog 100, m ≤ reachBytes) :
    ∃ A cap l, v = .slice A l.length cap ∧ Ints W 0 W.heap.size A cap l :=
  open_ints Try.underlying100 Try.underlying25 (by kernel_rfl) (by kernel_rfl) hv h hw

set_option maxRecDepth 100000 in
theorem open_place {W : World} {b0 : Nat} {v : Value} {d : DataW H} {p : List MemPlace} (hv : Value.okWide Try.prog W .any b0 77 v) (h : DataW.Trod enc Try.prog W 0 (fun _ => true) true 77 v d p) (hw : ∀ m ∈ d.weights Try.prog 77, m ≤ reachBytes) :
    ∃ A cap l, v = .slice A l.length cap ∧ Ints W 0 W.heap.size A cap l :=
  open_ints Try.underlying77 Try.underlying3 (by kernel_rfl) (by kernel_rfl) hv h hw
end

end Go.Proofs.Ytihjmipmjogpoaa

/- Two closed facts for the lifts. -/
namespace Go.Proofs.Ytihjmipmjogpoaa
theorem knob0 : ownKnob Try.prog.godebug = none := by kernel_rfl
theorem laidOut0 : laidOutB Try.prog = true := by kernel_rfl
end Go.Proofs.Ytihjmipmjogpoaa

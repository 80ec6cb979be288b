/- Texts joined: S20, H0. -/
import Derived.Test.YtihjmipmjogpoaaJn16
import Derived.Deep.RegionLaw
import Derived.Deep.CutRange
import Derived.Test.YtihjmipmjogpoaaRows
import Derived.ProofKit
import Derived.OpenShut
import Derived.ChangeOld
/- Chapter 2: ValueOrders: what it computes. -/
namespace Go.Proofs.Ytihjmipmjogpoaa
open Go.RowKit

section
variable {w3 w w' : World} {v x : T} {f : Nat → Bool} {x7 x8 x31 x32 x33 x34 : Value} {t4 t5 : T} {g7 g8 : Nat}
theorem J2.up {k : Nat} (h : J2 w3 v x (upd (fun j => f (mp j)) k) x7 x8 x31 x32 x33 x34 t4 t5 g7 g8 w) : J2 w3 v x (fun j => upd f (mp k) (mp j)) x7 x8 x31 x32 x33 x34 t4 t5 g7 g8 w := by
  rw [upd_mp]; exact h
theorem J2.off {i : Nat} (hi : i = 4 ∨ i = 5 ∨ i = 10) (h : J2 w3 v x (fun j => f (mp j)) x7 x8 x31 x32 x33 x34 t4 t5 g7 g8 w) : J2 w3 v x (fun j => upd f i (mp j)) x7 x8 x31 x32 x33 x34 t4 t5 g7 g8 w := by
  rw [upd_off f hi]; exact h
theorem J2.no (h : J2 w3 v x f x7 x8 x31 x32 x33 x34 t4 t5 g7 g8 w) (fr : Fr No w w') : J2 w3 v x f x7 x8 x31 x32 x33 x34 t4 t5 g7 g8 w' :=
  ⟨h.fr.trans fr, h.l31, h.l33, fun h' => ⟨(h.c4 h').1, (h.c4 h').2.1, (h.c4 h').2.2.fr fr fun _ _ h => h⟩, fun h' => ⟨(h.c5 h').1, (h.c5 h').2.1, (h.c5 h').2.2.fr fr fun _ _ h => h⟩, fun h' => ⟨(h.a7 h').1, (h.a7 h').2.1, (h.a7 h').2.2.fr fr fun h => h⟩, fun h' => ⟨(h.a8 h').1, (h.a8 h').2.1, (h.a8 h').2.2.fr fr fun h => h⟩,
    fun h' => ⟨(h.s7 h').1, (h.s7 h').2.1, (h.s7 h').2.2.fr fr fun h => h⟩, fun h' => ⟨(h.s8 h').1, (h.s8 h').2.1, (h.s8 h').2.2.fr fr fun h => h⟩, h.n74, h.n75, h.n84, h.n85, h.n78⟩
end

theorem LAX.base {w w3 wi : World} {l : List T} {g c : Nat} {l' : List T} (h : LAX w3 wi l g c l') (hs : w.heap.size ≤ w3.heap.size) : LAX w wi l g c l' :=
  ⟨T.In.more hs (Nat.le_refl _) _ h.inn, h.mks, Nat.le_trans hs h.g0, h.g1, h.len, h.vs, h.cap, h.mark⟩

set_option maxRecDepth 100000 in
set_option maxHeartbeats 16000000 in
theorem valueOrders_any (t x : T) (Al : Option Addr) (capl : Nat) (L : List T) (w : World) (ht : t.In w 0 w.heap.size) (hx : x.In w 0 w.heap.size) (hp : (T.row Al capl L).In w 0 w.heap.size) :
    Calls Try.prog 17 #[t.val, x.val, .slice Al L.length capl] w fun e w' => e = .returned (.bool true) ∧ Fr No w w' := by
  obtain ⟨k, n, s, B, cb, l, r⟩ := t
  obtain ⟨kx, nx, sx, Bx, cx, lx, rx⟩ := x
  rw [T.val_mk, T.val_mk]
  have hplen := (T.in_mk.1 hp).1.len1
  have fr1 := ((Fr.refl No w).alloc (.cells #[.int .u8 k, .int .i64 n, .string s, .slice B l.length cb, .int .i64 r] 27)).alloc (.cells #[.int .u8 kx, .int .i64 nx, .string sx, .slice Bx lx.length cx, .int .i64 rx] 27)
  have bv1 : Blk ((w.alloc (.cells #[.int .u8 k, .int .i64 n, .string s, .slice B l.length cb, .int .i64 r] 27)).alloc (.cells #[.int .u8 kx, .int .i64 nx, .string sx, .slice Bx lx.length cx, .int .i64 rx] 27)) w.heap.size 27 (T.mk k n s B cb l r).cells.toArray := (Blk.new' w 27 _ rfl).alloc _
  have bx1 : Blk ((w.alloc (.cells #[.int .u8 k, .int .i64 n, .string s, .slice B l.length cb, .int .i64 r] 27)).alloc (.cells #[.int .u8 kx, .int .i64 nx, .string sx, .slice Bx lx.length cx, .int .i64 rx] 27)) (w.heap.size + 1) 27 (T.mk kx nx sx Bx cx lx rx).cells.toArray := Blk.new' (w.alloc _) 27 _ (by simp)
  have hsm1 := fun w' (f : Fr No w w') => small_any (T.mk k n s B cb l r) 1200 40 w' 0 w.heap.size (ht.no f (Nat.le_refl _)) f.size (by omega) (by omega) (by omega) (by omega)
  have hsm2 := fun w' (f : Fr No w w') => small_any (T.mk kx nx sx Bx cx lx rx) 1200 40 w' 0 w.heap.size (hx.no f (Nat.le_refl _)) f.size (by omega) (by omega) (by omega) (by omega)
  rw [T.val_mk] at hsm1 hsm2
  generalize hv : (T.mk k n s B cb l r).v = v at *
  generalize hu : (T.mk kx nx sx Bx cx lx rx).v = u at *
  have HV := hide hv
  have HU := hide hu
  have HT := hide ht
  have HX := hide hx
  have HP := hide hp
  have HF1 := hide fr1
  have HBV := hide bv1
  have HBX := hide bx1
  have HS1 := hide hsm1
  have HS2 := hide hsm2
  clear hv hu ht hx hp fr1 bv1 bx1 hsm1 hsm2
  by_cases hfit : ¬ ((v.size : Int) ≤ 1200 ∧ (v.ht : Int) ≤ 40)
  · have HZ := hide (smallOf_no hfit)
    clear hfit
    go_enter Try.func17, Try.ntmps17
    go_wp2_with fail
    generalize World.alloc (World.alloc w _) _ = w1 at *
    have hc := HS1.out w1 HF1.out
    rw [HZ.out] at hc
    refine hc.mono ?_
    rintro e w2 ⟨rfl, f2⟩
    have G := hide (HF1.out.trans f2)
    clear f2 hc
    go_wp2_with fail
    refine (awake_any _).mono ?_
    rintro e w3 ⟨rfl, f3⟩
    go_wp2
    go_ret
    exact ⟨rfl, G.out.trans f3⟩
  have HZ1 := hide (smallOf_yes (Classical.byContradiction hfit))
  have hn1 : decide ((v.size : Int) < 0) = false := by simp
  clear hfit
  by_cases hfit : ¬ ((u.size : Int) ≤ 1200 ∧ (u.ht : Int) ≤ 40)
  · have HZ := hide (smallOf_no hfit)
    clear hfit
    go_enter Try.func17, Try.ntmps17
    go_wp2_with fail
    generalize World.alloc (World.alloc w _) _ = w1 at *
    have hc := HS1.out w1 HF1.out
    rw [HZ1.out] at hc
    refine hc.mono ?_
    rintro e w2 ⟨rfl, f2⟩
    obtain ⟨x0, x1, x2, x3, x4, -⟩ := Blk.cells5 (HBX.out.fr f2 fun h => h)
    have q1 := (HBX.out.fr f2 fun h => h).lt
    have G := hide (HF1.out.trans f2)
    clear f2 hc
    go_wp2_with fail
    have hc := HS2.out w2 G.out
    rw [HZ.out] at hc
    refine hc.mono ?_
    rintro e w3 ⟨rfl, f3⟩
    have G3 := hide (G.out.trans f3)
    clear f3 hc
    go_wp2_with fail
    refine (awake_any _).mono ?_
    rintro e w4 ⟨rfl, f4⟩
    go_wp2
    go_ret
    exact ⟨rfl, G3.out.trans f4⟩
  have HZ2 := hide (smallOf_yes (Classical.byContradiction hfit))
  have hn2 : decide ((u.size : Int) < 0) = false := by simp
  clear hfit
  go_enter Try.func17, Try.ntmps17
  go_wp2_with fail
  generalize World.alloc (World.alloc w _) _ = w1 at *
  have hc := HS1.out w1 HF1.out
  rw [HZ1.out] at hc
  refine hc.mono ?_
  rintro e w2 ⟨rfl, f2⟩
  obtain ⟨x0, x1, x2, x3, x4, -⟩ := Blk.cells5 (HBX.out.fr f2 fun h => h)
  have q1 := (HBX.out.fr f2 fun h => h).lt
  have G2 := hide (HF1.out.trans f2)
  have HBV2 := hide (HBV.out.fr f2 fun h => h)
  have HBX2 := hide (HBX.out.fr f2 fun h => h)
  clear f2 hc HF1 HBV HBX
  go_wp2_with fail
  have hc := HS2.out w2 G2.out
  rw [HZ2.out] at hc
  refine hc.mono ?_
  rintro e w3 ⟨rfl, f3⟩
  have G3 := hide (G2.out.trans f3)
  have BV3 := HBV2.out.fr f3 fun h => h
  have BX3 := HBX2.out.fr f3 fun h => h
  have HBV3 := hide BV3
  have HBX3 := hide BX3
  clear f3 hc G2 HBV2 HBX2 HS1 HS2 HZ1 HZ2 x0 x1 x2 x3 x4 q1
  obtain ⟨i0, hi0, hz0, hz1, hz2⟩ := info_parts value_info
  have hsa := fun w' (f : Fr No w3 w') => smallAll_any Al capl L w' 0 w.heap.size (HP.out.no (G3.out.trans f) (Nat.le_refl _)) (G3.out.trans f).size
  have HSA := hide hsa
  clear hsa
  go_wp2_with fail
  refine (HSA.out _ (Fr.refl No w3)).mono ?_
  rintro e w3' ⟨⟨q, rfl, hq⟩, f3⟩
  have G3' := hide (G3.out.trans f3)
  have HBV3' := hide (HBV3.out.fr f3 fun h => h)
  have HBX3' := hide (HBX3.out.fr f3 fun h => h)
  clear f3 HSA G3 HBV3 HBX3
  have G3 := G3'
  have HBV3 := HBV3'
  have HBX3 := HBX3'
  clear G3' HBV3' HBX3'
  generalize w3' = w3 at *
  cases q with
  | false =>
    clear hq
    go_wp2_with fail
    refine (awake_any _).mono ?_
    rintro e w4 ⟨rfl, f4⟩
    go_wp2
    go_ret
    exact ⟨rfl, G3.out.trans f4⟩
  | true =>
  have hsmall := hq rfl
  have HSM := hide hsmall
  clear hq hsmall
  generalize v.size = qv at *
  generalize u.size = qu at *
  have BV3 := HBV3.out
  have BX3 := HBX3.out
  obtain ⟨c0, c1, c2, c3, c4, -⟩ := Blk.cells5 BV3
  obtain ⟨x0, x1, x2, x3, x4, -⟩ := Blk.cells5 BX3
  have q0 := BV3.lt
  have q1 := BX3.lt
  have hl1 : ∀ w', Fr No w3 w' → Calls Try.prog 40 #[(T.mk k n s B cb l r).val] w' (LentP (T.mk k n s B cb l r).v w') := fun w' f => lent_any _ w' 0 w.heap.size (HT.out.no (G3.out.trans f) (Nat.le_refl _)) (G3.out.trans f).size
  have hl2 : ∀ w', Fr No w3 w' → Calls Try.prog 40 #[(T.mk kx nx sx Bx cx lx rx).val] w' (LentP (T.mk kx nx sx Bx cx lx rx).v w') := fun w' f => lent_any _ w' 0 w.heap.size (HX.out.no (G3.out.trans f) (Nat.le_refl _)) (G3.out.trans f).size
  have hl3 : ∀ w', Fr No w3 w' → Calls Try.prog 64 #[.slice Al L.length capl] w' fun e w'' => ∃ g c l', LentAllP L w' e w'' g c l' := fun w' f => lentAll_any Al capl L w' 0 w.heap.size (HP.out.no (G3.out.trans f) (Nat.le_refl _)) (G3.out.trans f).size
  rw [T.val_mk] at hl1 hl2
  have HL1 := hide hl1
  have HL2 := hide hl2
  have HLL := hide hl3
  clear hl1 hl2 hl3 BV3 BX3
  go_upto_region 3 with (fail)
  go_cut [7, 8, 9] from 34 to 39 (fun p q rr wx => OLP w Al capl L (T.mk k n s B cb l r) (T.mk kx nx sx Bx cx lx rx) p q rr wx)
  case first =>
    refine wp_region_inv (I := fun a0 f a w' => ∃ x7 x8 x9 x34 x35 x36 x37 x38 x39 t4 t5 g7 g8 g c l', a = (((((((((a0.put (some 7) x7).put (some 8) x8).put (some 9) x9).put (some 34) x34).put (some 35) x35).put (some 36) x36).put (some 37) x37).put (some 38) x38).put (some 39) x39) ∧ J2 w3 (T.mk k n s B cb l r) (T.mk kx nx sx Bx cx lx rx) (fun j => f (mp j)) x7 x8 x34 x35 x36 x37 t4 t5 g7 g8 w' ∧ L3 w3 Al capl L f x38 x39 x9 g c l' g7 g8 w') (by kernel_rfl) (by kernel_rfl) ?st ?step ?en
    case st => exact ⟨_, _, _, _, _, _, _, _, _, _, _, _, _, _, _, _, rfl, J2.begin, L3.begin⟩
    case step =>
      rintro i o f a w' ho hf hd ⟨x7, x8, x9, x34, x35, x36, x37, x38, x39, t4, t5, g7, g8, g, c, l', rfl, J, Q⟩ K' hK
      have hi := (Array.getElem?_eq_some_iff.1 ho).1
      simp only [List.size_toArray, List.length_cons, List.length_nil] at hi
      have hcs := J.fr.cells
      have hsz := J.fr.size
      have hid : i = 0 ∨ i = 1 ∨ i = 2 ∨ i = 3 ∨ i = 4 ∨ i = 5 ∨ i = 6 ∨ i = 7 ∨ i = 8 ∨ i = 9 ∨ i = 10 := by omega
      simp only [Act.put, List.setIfInBounds_toArray, List.set_cons_zero, List.set_cons_succ]
      rcases hid with rfl | rfl | rfl | rfl | rfl | rfl | rfl | rfl | rfl | rfl | rfl
      · simp only [List.getElem?_toArray, List.getElem?_cons_succ, List.getElem?_cons_zero, Option.some.injEq] at ho; subst ho
        have hg : w.heap.size < w'.heap.size := by omega
        have HJ := hide J
        have HL3 := hide Q
        clear J Q hd
        go_simp
        exact hK.out _ _ ⟨_, _, _, _, _, _, _, _, _, _, _, _, _, _, _, _, by simp only [Act.put, List.setIfInBounds_toArray, List.set_cons_zero, List.set_cons_succ] <;> rfl, (HJ.out.load31).up (k := 0), HL3.out.no (Fr.refl No _) (by omega)⟩
      · simp only [List.getElem?_toArray, List.getElem?_cons_succ, List.getElem?_cons_zero, Option.some.injEq] at ho; subst ho
        have h0 := J.l31 (hd ⟨0, .data⟩ (by simp) (by rfl))
        rw [T.val_mk] at h0
        subst h0
        have HJ := hide J
        have HL3 := hide Q
        clear J Q hd
        go_simp
        go_at_call 40
        refine (HL1.out _ HJ.out.fr).mono ?_
        rintro e w4 ⟨t', rfl, ev, ein, emk, f4⟩
        exact hK.out _ _ ⟨_, _, _, _, _, _, _, _, _, _, _, _, _, _, _, _, by simp only [Act.put, List.setIfInBounds_toArray, List.set_cons_zero, List.set_cons_succ] <;> rfl, (HJ.out.call4 hf ev ein emk f4).up (k := 1), HL3.out.no f4 (by omega)⟩
      · simp only [List.getElem?_toArray, List.getElem?_cons_succ, List.getElem?_cons_zero, Option.some.injEq] at ho; subst ho
        have hg : w.heap.size + 1 < w'.heap.size := by omega
        have HJ := hide J
        have HL3 := hide Q
        clear J Q hd
        go_simp
        exact hK.out _ _ ⟨_, _, _, _, _, _, _, _, _, _, _, _, _, _, _, _, by simp only [Act.put, List.setIfInBounds_toArray, List.set_cons_zero, List.set_cons_succ] <;> rfl, (HJ.out.load33).up (k := 2), HL3.out.no (Fr.refl No _) (by omega)⟩
      · simp only [List.getElem?_toArray, List.getElem?_cons_succ, List.getElem?_cons_zero, Option.some.injEq] at ho; subst ho
        have h0 := J.l33 (hd ⟨2, .data⟩ (by simp) (by rfl))
        rw [T.val_mk] at h0
        subst h0
        have HJ := hide J
        have HL3 := hide Q
        clear J Q hd
        go_simp
        go_at_call 40
        refine (HL2.out _ HJ.out.fr).mono ?_
        rintro e w4 ⟨t', rfl, ev, ein, emk, f4⟩
        exact hK.out _ _ ⟨_, _, _, _, _, _, _, _, _, _, _, _, _, _, _, _, by simp only [Act.put, List.setIfInBounds_toArray, List.set_cons_zero, List.set_cons_succ] <;> rfl, (HJ.out.call5 hf ev ein emk f4).up (k := 3), HL3.out.no f4 (by omega)⟩
      · simp only [List.getElem?_toArray, List.getElem?_cons_succ, List.getElem?_cons_zero, Option.some.injEq] at ho; subst ho
        have HJ := hide J
        have HL3 := hide Q
        clear J Q hd
        go_simp
        exact hK.out _ _ ⟨_, _, _, _, _, _, _, _, _, _, _, _, _, _, _, _, by simp only [Act.put, List.setIfInBounds_toArray, List.set_cons_zero, List.set_cons_succ] <;> rfl, (HJ.out).off (.inl rfl), HL3.out.move⟩
      · simp only [List.getElem?_toArray, List.getElem?_cons_succ, List.getElem?_cons_zero, Option.some.injEq] at ho; subst ho
        have h0 := Q.m (hd ⟨4, .data⟩ (by simp) (by rfl))
        subst h0
        have h7 : f 6 = true → g7 < w'.heap.size := fun h6 => (J.a7 h6).2.2.lt
        have h8 : f 7 = true → g8 < w'.heap.size := fun h6 => (J.a8 h6).2.2.lt
        have H7 := hide h7
        have H8 := hide h8
        clear h7 h8
        have HJ := hide J
        have HL3 := hide Q
        clear J Q hd
        go_simp
        go_at_call 64
        refine (HLL.out _ HJ.out.fr).mono ?_
        rintro e w4 ⟨g', c', l2, LL⟩
        have hee := LL.e
        subst hee
        exact hK.out _ _ ⟨_, _, _, _, _, _, _, _, _, _, _, _, _, _, _, _, by simp only [Act.put, List.setIfInBounds_toArray, List.set_cons_zero, List.set_cons_succ] <;> rfl, (HJ.out.no LL.fr).off (.inr (.inl rfl)), HL3.out.call hf LL HJ.out.fr.size H7.out H8.out⟩
      · simp only [List.getElem?_toArray, List.getElem?_cons_succ, List.getElem?_cons_zero, Option.some.injEq] at ho; subst ho
        have HJ := hide J
        have HL3 := hide Q
        clear J Q hd
        go_simp
        exact hK.out _ _ ⟨_, _, _, _, _, _, _, _, _, _, _, _, _, _, _, _, by simp only [Act.put, List.setIfInBounds_toArray, List.set_cons_zero, List.set_cons_succ] <;> rfl, (HJ.out.alloc7 hf _ _ _ _ _).up (k := 4), HL3.out.alloc7 _⟩
      · simp only [List.getElem?_toArray, List.getElem?_cons_succ, List.getElem?_cons_zero, Option.some.injEq] at ho; subst ho
        have HJ := hide J
        have HL3 := hide Q
        clear J Q hd
        go_simp
        exact hK.out _ _ ⟨_, _, _, _, _, _, _, _, _, _, _, _, _, _, _, _, by simp only [Act.put, List.setIfInBounds_toArray, List.set_cons_zero, List.set_cons_succ] <;> rfl, (HJ.out.alloc8 hf _ _ _ _ _).up (k := 5), HL3.out.alloc8 _⟩
      · simp only [List.getElem?_toArray, List.getElem?_cons_succ, List.getElem?_cons_zero, Option.some.injEq] at ho; subst ho
        have h4 := hd ⟨6, .data⟩ (by simp) (by rfl)
        have h1 := hd ⟨1, .data⟩ (by simp) (by rfl)
        obtain ⟨rfl, -, z0, z1, z2, z3, z4, hb⟩ := J.a7 h4
        have e1 := (J.c4 h1).1
        obtain ⟨k4, n4, s4, A4, cap4, l4, r4⟩ := t4
        rw [T.val_mk] at e1
        subst e1
        obtain ⟨d0, d1, d2, d3, d4, df⟩ := hb.cells5
        have HH4 := hide h4
        have HH1 := hide h1
        clear hb h4 h1
        have HJ := hide J
        have HL3 := hide Q
        clear J Q hd
        go_simp
        exact hK.out _ _ ⟨_, _, _, _, _, _, _, _, _, _, _, _, _, _, _, _, by simp only [Act.put, List.setIfInBounds_toArray, List.set_cons_zero, List.set_cons_succ] <;> rfl, (HJ.out.store7 HH4.out HH1.out).up (k := 6), HL3.out.keep (five_fr _ _ 0 _ _ _ _ _ _ _) (fun h5 => ⟨fun e => (HL3.out.n7 HH4.out h5).1 e.symm, fun x hx b hb e => (HL3.out.n7 HH4.out h5).2 x hx (e ▸ hb)⟩) (by omega)⟩
      · simp only [List.getElem?_toArray, List.getElem?_cons_succ, List.getElem?_cons_zero, Option.some.injEq] at ho; subst ho
        have h4 := hd ⟨7, .data⟩ (by simp) (by rfl)
        have h1 := hd ⟨3, .data⟩ (by simp) (by rfl)
        obtain ⟨rfl, -, z0, z1, z2, z3, z4, hb⟩ := J.a8 h4
        have e1 := (J.c5 h1).1
        obtain ⟨k4, n4, s4, A4, cap4, l4, r4⟩ := t5
        rw [T.val_mk] at e1
        subst e1
        obtain ⟨d0, d1, d2, d3, d4, df⟩ := hb.cells5
        have HH4 := hide h4
        have HH1 := hide h1
        clear hb h4 h1
        have HJ := hide J
        have HL3 := hide Q
        clear J Q hd
        go_simp
        exact hK.out _ _ ⟨_, _, _, _, _, _, _, _, _, _, _, _, _, _, _, _, by simp only [Act.put, List.setIfInBounds_toArray, List.set_cons_zero, List.set_cons_succ] <;> rfl, (HJ.out.store8 HH4.out HH1.out).up (k := 7), HL3.out.keep (five_fr _ _ 0 _ _ _ _ _ _ _) (fun h5 => ⟨fun e => (HL3.out.n8 HH4.out h5).1 e.symm, fun x hx b hb e => (HL3.out.n8 HH4.out h5).2 x hx (e ▸ hb)⟩) (by omega)⟩
      · simp only [List.getElem?_toArray, List.getElem?_cons_succ, List.getElem?_cons_zero, Option.some.injEq] at ho; subst ho
        have h5 := hd ⟨5, .data⟩ (by simp) (by rfl)
        have h0 := (Q.c_ h5).1
        subst h0
        have HH5 := hide h5
        clear h5
        have HJ := hide J
        have HL3 := hide Q
        clear J Q hd
        go_simp
        exact hK.out _ _ ⟨_, _, _, _, _, _, _, _, _, _, _, _, _, _, _, _, by simp only [Act.put, List.setIfInBounds_toArray, List.set_cons_zero, List.set_cons_succ] <;> rfl, (HJ.out).off (.inr (.inr rfl)), HL3.out.assign HH5.out⟩
    case en =>
      rintro f a w' hall ⟨x7, x8, x9, x34, x35, x36, x37, x38, x39, t4, t5, g7, g8, g, c, l', rfl, J, Q⟩
      have h1 : f 1 = true := hall 1 (by simp)
      have h3 : f 3 = true := hall 3 (by simp)
      have h6 : f 8 = true := hall 8 (by simp)
      have h7 : f 9 = true := hall 9 (by simp)
      have h10 : f 10 = true := hall 10 (by simp)
      have h5' : f 5 = true := hall 5 (by simp)
      obtain ⟨h4, -, s7⟩ := J.s7 h6
      obtain ⟨h5, -, s8⟩ := J.s8 h7
      obtain ⟨rfl, -, -⟩ := J.a7 h4
      obtain ⟨rfl, -, -⟩ := J.a8 h5
      obtain ⟨-, ev4, b4⟩ := J.c4 h1
      obtain ⟨-, ev5, b5⟩ := J.c5 h3
      obtain ⟨-, rfl⟩ := Q.a_ h10
      obtain ⟨rfl, lax⟩ := Q.c_ h5'
      have hp : OLP w Al capl L (T.mk k n s B cb l r) (T.mk kx nx sx Bx cx lx rx) (.pointer (some ⟨g7, 0, none⟩)) (.pointer (some ⟨g8, 0, none⟩)) (.slice (some ⟨g, 0, none⟩) L.length c) w' :=
        ⟨g7, g8, g, c, w'.heap.size, t4, t5, l', rfl, rfl, rfl, ev4, ev5, HBV3.out.fr J.fr fun h => h, HBX3.out.fr J.fr fun h => h, s7, s8, HT.out.no (G3.out.trans J.fr) (Nat.le_refl _), HX.out.no (G3.out.trans J.fr) (Nat.le_refl _), HP.out.no (G3.out.trans J.fr) (Nat.le_refl _),
          T.In.more (Nat.zero_le _) (Nat.le_refl _) _ b4.inn, T.In.more (Nat.zero_le _) (Nat.le_refl _) _ b5.inn, b4.mrk, b5.mrk, lax.base G3.out.size, fun x hx => T.In.more (Nat.zero_le _) (Nat.le_refl _) _ ((T.in_mk.1 lax.inn).2.2 x hx), G3.out.trans J.fr, by have := (HBX3.out.fr J.fr fun h => h).lt; omega, s7.lt, s8.lt, lax.g1, Nat.le_refl _⟩
      have HPP := hide hp
      clear J Q s7 s8 ev4 ev5 b4 b5 hp lax h1 h3 h4 h5 h6 h7 h10 h5' hall c0 c1 c2 c3 c4 x0 x1 x2 x3 x4 q0 q1
      simp only [Act.put, List.setIfInBounds_toArray, List.set_cons_zero, List.set_cons_succ]
      go_wp2_with fail
      go_meet
      exact HPP.out
  case rest =>
    obtain ⟨ga, gb, gl, c, tp, ⟨ko, no, so, Ao, co, lo, ro⟩, ⟨kp, np, sp, Ap, cp, lp, rp⟩, l', rfl, rfl, rfl, evo, evp, O⟩ := hcut
    obtain ⟨wA, rfl⟩ : ∃ wA : World, wA = wc := ⟨_, rfl⟩
    have HEO := hide (evo.trans HV.out)
    have HEP := hide (evp.trans HU.out)
    have hsA := O.f.size
    have ht4 := O.t4
    have hor1 := fun w' (f : Fr No wA w') => vorder_any (T.mk ko no so Ao co lo ro) (T.mk kp np sp Ap cp lp rp) w' 0 tp ((O.no f).ja) ((O.no f).jb) (by have := f.size; omega)
    have hor2 := fun w' (f : Fr No wA w') => refOrder_any (T.mk k n s B cb l r) (T.mk kx nx sx Bx cx lx rx) w' 0 w.heap.size ((O.no f).ia) ((O.no f).ib) (O.f.trans f).size
    have hsx := fun w' (f : Fr No wA w') => vsame_any (T.mk ko no so Ao co lo ro) (T.mk kp np sp Ap cp lp rp) w' 0 tp ((O.no f).ja) ((O.no f).jb) (by have := f.size; omega)
    have hsr := fun w' (f : Fr No wA w') => refSame_any (T.mk k n s B cb l r) (T.mk kx nx sx Bx cx lx rx) w' 0 w.heap.size ((O.no f).ia) ((O.no f).ib) (O.f.trans f).size
    have hka := fun w' (f : Fr No wA w') => kept_any (T.mk ko no so Ao co lo ro) (T.mk k n s B cb l r) w' 0 tp 0 w.heap.size ((O.no f).ja) (by have := f.size; omega) ((O.no f).ma) ((O.no f).ia) (O.f.trans f).size evo
    have hkb := fun w' (f : Fr No wA w') => kept_any (T.mk kp np sp Ap cp lp rp) (T.mk kx nx sx Bx cx lx rx) w' 0 tp 0 w.heap.size ((O.no f).jb) (by have := f.size; omega) ((O.no f).mb) ((O.no f).ib) (O.f.trans f).size evp
    rw [evo, evp] at hor1 hsx
    rw [T.val_mk, T.val_mk] at hor1 hor2 hsx hsr hka hkb
    have hcell : ∀ w', Fr No wA w' → (w'.cell? ⟨ga, 0, none⟩ = some (.int .u8 ko) ∧ w'.cell? ⟨ga, 1, none⟩ = some (.int .i64 no) ∧ w'.cell? ⟨ga, 2, none⟩ = some (.string so) ∧ w'.cell? ⟨ga, 3, none⟩ = some (.slice Ao lo.length co) ∧ w'.cell? ⟨ga, 4, none⟩ = some (.int .i64 ro)) ∧
        (w'.cell? ⟨gb, 0, none⟩ = some (.int .u8 kp) ∧ w'.cell? ⟨gb, 1, none⟩ = some (.int .i64 np) ∧ w'.cell? ⟨gb, 2, none⟩ = some (.string sp) ∧ w'.cell? ⟨gb, 3, none⟩ = some (.slice Ap lp.length cp) ∧ w'.cell? ⟨gb, 4, none⟩ = some (.int .i64 rp)) ∧
        (w'.cell? ⟨w.heap.size, 0, none⟩ = some (.int .u8 k) ∧ w'.cell? ⟨w.heap.size, 1, none⟩ = some (.int .i64 n) ∧ w'.cell? ⟨w.heap.size, 2, none⟩ = some (.string s) ∧ w'.cell? ⟨w.heap.size, 3, none⟩ = some (.slice B l.length cb) ∧ w'.cell? ⟨w.heap.size, 4, none⟩ = some (.int .i64 r)) ∧
        (w'.cell? ⟨w.heap.size + 1, 0, none⟩ = some (.int .u8 kx) ∧ w'.cell? ⟨w.heap.size + 1, 1, none⟩ = some (.int .i64 nx) ∧ w'.cell? ⟨w.heap.size + 1, 2, none⟩ = some (.string sx) ∧ w'.cell? ⟨w.heap.size + 1, 3, none⟩ = some (.slice Bx lx.length cx) ∧ w'.cell? ⟨w.heap.size + 1, 4, none⟩ = some (.int .i64 rx)) ∧
        ga < w'.heap.size ∧ gb < w'.heap.size ∧ w.heap.size < w'.heap.size ∧ w.heap.size + 1 < w'.heap.size := fun w' f =>
      ⟨blk5 (O.no f).ca, blk5 (O.no f).cb, blk5 (O.no f).ba, blk5 (O.no f).bb, (O.no f).ca.lt, (O.no f).cb.lt, (O.no f).ba.lt, (O.no f).bb.lt⟩
    generalize hcv : (if ((T.mk k n s B cb l r).v.may && (T.mk kx nx sx Bx cx lx rx).v.may) = true then (T.mk k n s B cb l r).v.ord (T.mk kx nx sx Bx cx lx rx).v else 0) = cv at hor1 hor2
    generalize hce : (if ((T.mk k n s B cb l r).v.may && (T.mk kx nx sx Bx cx lx rx).v.may) = true then (0 : Int) else 2) = ce at hor1 hor2
    generalize (T.mk k n s B cb l r).v.same2 (T.mk kx nx sx Bx cx lx rx).v = sv at hsx hsr
    have HO := hide O
    have H1 := hide hor1
    have H2 := hide hor2
    have H3 := hide hsx
    have H4 := hide hsr
    have H5 := hide hka
    have H6 := hide hkb
    have HCELL := hide hcell
    clear hcv hce O hor1 hor2 hsx hsr hka hkb evo evp HBV3 HBX3 G3 HL1 HL2 HLL c0 c1 c2 c3 c4 x0 x1 x2 x3 x4 q0 q1 hcell
    obtain ⟨⟨a0, a1, a2, a3, a4⟩, ⟨b0, b1, b2, b3, b4⟩, -, -, l1, l2, -, -⟩ := HCELL.out wA (Fr.refl No wA)
    go_wp2_with fail
    refine (H1.out wA (Fr.refl No wA)).mono ?_
    rintro e w4 ⟨rfl, f4⟩
    have HF4 := hide f4
    clear a0 a1 a2 a3 a4 b0 b1 b2 b3 b4 l1 l2 f4
    obtain ⟨-, -, ⟨c0, c1, c2, c3, c4⟩, ⟨d0, d1, d2, d3, d4⟩, -, -, l3, l4⟩ := HCELL.out w4 HF4.out
    go_wp2_with fail
    refine (H2.out w4 HF4.out).mono ?_
    rintro e w5 ⟨rfl, f5⟩
    have HF5 := hide (HF4.out.trans f5)
    clear c0 c1 c2 c3 c4 d0 d1 d2 d3 d4 l3 l4 f5 HF4 H1 H2
    obtain ⟨⟨a0, a1, a2, a3, a4⟩, ⟨b0, b1, b2, b3, b4⟩, ⟨c0, c1, c2, c3, c4⟩, ⟨d0, d1, d2, d3, d4⟩, l1, l2, l3, l4⟩ := HCELL.out w5 HF5.out
    go_upto_region 6 with (fail)
    go_cut [80] from 52 to 79 (fun s80 wx => s80 = Value.bool false ∧ Fr No w5 wx)
    case first =>
      cases sv
      all_goals
        go_region_held3 (fun w' => (∀ c i, c < w5.heap.size → w'.cell? ⟨c, i, none⟩ = w5.cell? ⟨c, i, none⟩) ∧ Fr No w5 w')
          (first | exact ⟨fun _ _ _ => rfl, Fr.drew (Fr.refl No w5)⟩ | (have hq : Fr No w5 _ := (‹_ ∧ Fr No w5 _›).2.trans ‹Fr No _ _›; exact ⟨hq.cells, hq⟩))
          (first
            | (go_at_call 54; have hs0 := (‹_ ∧ Fr No w5 _›).2; ((with_reducible refine (H3.out _ (HF5.out.trans hs0)).mono ?_); rintro e w8 ⟨rfl, fr8⟩))
            | (go_at_call 43; have hs0 := (‹_ ∧ Fr No w5 _›).2; ((with_reducible refine (H4.out _ (HF5.out.trans hs0)).mono ?_); rintro e w8 ⟨rfl, fr8⟩))
            | (go_at_call 45; have hs0 := (‹_ ∧ Fr No w5 _›).2; ((with_reducible refine (H5.out _ (HF5.out.trans hs0)).mono ?_); rintro e w8 ⟨rfl, fr8⟩))
            | (go_at_call 45; have hs0 := (‹_ ∧ Fr No w5 _›).2; ((with_reducible refine (H6.out _ (HF5.out.trans hs0)).mono ?_); rintro e w8 ⟨rfl, fr8⟩)))
        all_goals
          have F8 := hide (‹_ ∧ Fr No w5 _›).2
          go_simp
          go_wp2_with fail
          go_meet
          exact ⟨rfl, F8.out⟩
    case rest =>
      obtain ⟨rfl, f6⟩ := hcut
      obtain ⟨w7, rfl⟩ : ∃ w7 : World, w7 = wc := ⟨_, rfl⟩
      have HF7 := hide (HF5.out.trans f6)
      have HO7 := hide (HO.out.no HF7.out)
      clear a0 a1 a2 a3 a4 b0 b1 b2 b3 b4 c0 c1 c2 c3 c4 d0 d1 d2 d3 d4 l1 l2 l3 l4 f6 H3 H4 H5 H6 HCELL HF5 HO
      have hL6 : L.length ≤ 600 := by have := HSM.out.1; simpa using this
      have hsz : ∀ u ∈ L.map T.v, u.size ≤ 1000000 := fun u hu => by have := (HSM.out.2.1 u hu).1; omega
      have HSZ := hide hsz
      have hO7 := HO7.out
      have hLl := hO7.lx.len
      have hLv := hO7.lx.vs
      have hst := fun w' (f : Fr No w7 w') => sort_any (some ⟨gl, 0, none⟩) c l' (by omega) w' w.heap.size w7.heap.size (hO7.lx.inn.no f (Nat.le_refl _)) f.size
      have hrs := fun w' (f : Fr No w7 w') => refSort_any Al capl L (by omega) w' 0 w.heap.size (hO7.il.no f hO7.f.size) (hO7.f.trans f).size
      rw [hLl, hLv] at hst
      have HST := hide hst
      have HRS := hide hrs
      clear hsz hLl hLv hst hrs hO7
      go_wp2_with fail
      refine (HST.out w7 (Fr.refl No w7)).mono ?_
      rintro e w8 hs8
      obtain ⟨As, cs, Cs, rfl, R8⟩ := hs8.one
      have HR8 := hide R8
      clear hs8 R8
      go_wp2_with fail
      refine (HST.out w8 HR8.out.fr).mono ?_
      rintro e w9 hs9
      obtain ⟨At, ct, Ct, rfl, R9⟩ := hs9.one
      have HR9 := hide R9
      clear hs9 R9
      go_wp2_with fail
      refine (HRS.out w9 (HR8.out.fr.trans HR9.out.fr)).mono ?_
      rintro e w10 hs10
      obtain ⟨Ar, cr, Cr, rfl, R10⟩ := hs10.one
      have HR10 := hide R10
      have F810 := hide (HR9.out.fr.trans R10.fr)
      clear hs10 R10 HST HRS
      have hvm := valsOf_may (L.map T.v)
      have hvl : (valsOf (L.map T.v)).length ≤ 600 := by
        unfold valsOf
        split
        · simpa using hL6
        · simp
      have eCs : Cs.map T.v = Cr.map T.v := sorted_one hvm HR8.out.perm HR10.out.perm HR8.out.srt HR10.out.srt
      have eCt : Ct.map T.v = Cr.map T.v := sorted_one hvm HR9.out.perm HR10.out.perm HR9.out.srt HR10.out.srt
      have lCs : Cs.length ≤ 600 := by have := HR8.out.perm.length_eq; simp at this; omega
      have lCt : Ct.length ≤ 600 := by have := HR9.out.perm.length_eq; simp at this; omega
      have lCr : Cr.length ≤ 600 := by have := HR10.out.perm.length_eq; simp at this; omega
      have mCs : (Cs.map T.v).all V.may = true := by rw [List.all_eq_true] at hvm ⊢; exact fun v hv => hvm v (HR8.out.perm.mem_iff.1 hv)
      have mCt : (Ct.map T.v).all V.may = true := by rw [List.all_eq_true] at hvm ⊢; exact fun v hv => hvm v (HR9.out.perm.mem_iff.1 hv)
      have s78 := HR8.out.fr.size
      have s89 := HR9.out.fr.size
      have s910 := HR10.out.fr.size
      have s7 := HF7.out.size
      have hrowR : ∀ w' (S : Nat → Prop), Fr S w10 w' → (∀ i, S i → w7.heap.size ≤ i ∧ i < w8.heap.size) → (T.row Ar cr Cr).In w' 0 w'.heap.size := fun w' S f hS => by
        have hsf := f.size
        refine T.In.more (Nat.zero_le _) (Nat.le_refl _) _ (owns_row (lo := 0) (hi := w.heap.size) (base := w9.heap.size) ?_ (fun x hx => ?_) (by omega) (Nat.zero_le _) (by have := HO7.out.f.size; omega))
        · exact owns_fr HR10.out.own f (fun g hg h => by have := owns_lt HR10.out.own g hg; have := hS g h; omega)
        · have h1 := (T.in_mk.1 (HO7.out.il)).2.2 x (HR10.out.mem x hx)
          have h2 := h1.no (HR8.out.fr.trans F810.out) HO7.out.f.size
          exact h2.fr f (by have := HO7.out.f.size; omega) (fun i _ hi h => by have := hS i h; have := HO7.out.f.size; omega)
      have hrowS : (T.row As cs Cs).In w10 0 w10.heap.size :=
        T.In.more (Nat.zero_le _) (Nat.le_refl _) _ (owns_row (lo := 0) (hi := w8.heap.size) (base := w7.heap.size) (owns_fr HR8.out.own F810.out (fun _ _ h => h)) (fun x hx => T.In.more (Nat.zero_le _) (Nat.le_refl _) _ ((T.Sp.inn x (HR8.out.sp x hx)).no F810.out (Nat.le_refl _))) (by omega) (Nat.zero_le _) (by omega))
      have hrowT : ∀ w' (S : Nat → Prop), Fr S w10 w' → (∀ i, S i → w7.heap.size ≤ i ∧ i < w8.heap.size) → (T.row At ct Ct).In w' 0 w'.heap.size := fun w' S f hS => by
        have hsf := f.size
        have o9 := owns_fr HR9.out.own HR10.out.fr (fun _ _ h => h)
        refine T.In.more (Nat.zero_le _) (Nat.le_refl _) _ (owns_row (lo := 0) (hi := w9.heap.size) (base := w8.heap.size) ?_ (fun x hx => ?_) (by omega) (Nat.zero_le _) (by omega))
        · exact owns_fr o9 f (fun g hg h => by have := owns_lt o9 g hg; have := hS g h; omega)
        · have h1 := (T.Sp.inn x (HR9.out.sp x hx)).no HR10.out.fr (Nat.le_refl _)
          exact T.In.more (Nat.zero_le _) (Nat.le_refl _) _ (h1.fr f (by omega) (fun i h0 hi h => by have := hS i h; omega))
      have hc1 := sameAll_any As cs Cs Ar cr Cr w10 w10.heap.size hrowS (hrowR w10 No (Fr.refl No w10) (fun _ h => h.elim)) (Nat.le_refl _) eCs mCs (by omega)
      have HC1 := hide hc1
      have HRR := hide hrowR
      have HRT := hide hrowT
      have HECT := hide eCt
      have HMCT := hide mCt
      have hsp := SpL.begin HR8.out F810.out
      have HSP := hide hsp
      have hszC : ∀ x ∈ Cs, x.v.size ≤ 1000000 := fun x hx => HSZ.out _ (valsOf_mem (HR8.out.perm.mem_iff.1 (List.mem_map_of_mem hx)))
      have HSZC := hide hszC
      generalize errOf (L.map T.v) = er at *
      clear hvm hvl eCs eCt mCs mCt hrowR hrowS hrowT hc1 hsp hszC
      go_wp2_with fail
      refine HC1.out.mono ?_
      rintro e w11 ⟨rfl, f11⟩
      have HF11 := hide f11
      clear f11 HC1
      go_wp2_with fail
      go_loopw [19] (fun sv wr => ∃ i : Nat, sv = .int .i64 i ∧ i ≤ Cs.length ∧ SpL w10 w7.heap.size w8.heap.size As cs Cs i wr) (fun sv _ => Cs.length - (intOf sv).toNat)
      case atStart =>
        refine ⟨0, rfl, Nat.zero_le _, ?_⟩
        have h := HSP.out
        exact ⟨owns_fr h.own HF11.out (fun _ _ h => h), fun j x hx hj => T.Sp.fr HF11.out x (fun _ _ h => h) (h.sp j x hx hj), HF11.out.no⟩
      case round =>
        obtain ⟨i, rfl, hi, sl⟩ := hrel
        have hsf := sl.fr.size
        by_cases hlt : i < Cs.length
        · obtain ⟨g, c0, hvv, -⟩ := HR8.out.own.form (by omega)
          simp only [Value.slice.injEq, true_and] at hvv
          obtain ⟨rfl, rfl⟩ := hvv
          obtain ⟨x, hx⟩ : ∃ x, Cs[i]? = some x := ⟨_, List.getElem?_eq_getElem hlt⟩
          have hxm : x ∈ Cs := List.mem_of_getElem? hx
          have hsh : x.Sh wr w7.heap.size w8.heap.size := ⟨sl.sp i x hx (Nat.le_refl _), nodup_one HR8.out.nd hxm⟩
          have hcall := spoil_any x wr w7.heap.size w8.heap.size hsh (by omega) (by omega) (HSZC.out x hxm)
          have hgx : g ∉ x.blocks := fun hg => HR8.out.sep x hxm g hg rfl
          have hat := rep_at hx
          have hii : (i : Int) ≤ 1000000 := by omega
          have HX := hide hx
          have HGX := hide hgx
          have HSL := hide sl
          have HAT := hide hat
          have own1 := sl.own
          obtain ⟨k1, n1, s1, A1, c1, l1, r1⟩ := x
          obtain ⟨p0, p1, p2, p3, p4, pf, pl⟩ := owns_five own1 hat.1
          rw [T.val_mk] at hcall
          have HCALL := hide hcall
          clear hx hxm hsh hcall hgx sl hat own1
          go_wp2_with fail
          refine HCALL.out.mono ?_
          rintro e wa ⟨⟨z, rfl, -, -⟩, fa⟩
          have HFA := hide fa
          clear fa p0 p1 p2 p3 p4 pf pl
          go_wp2_with fail
          refine (num2_any (-9) wa).mono ?_
          rintro e wb ⟨rfl, fb⟩
          have fab := HFA.out.thenNo fb
          have own2 := owns_fr HSL.out.own fab (fun b hb hb' => by simp [Value.ownBlock] at hb; subst hb; exact HGX.out hb')
          obtain ⟨p0, p1, p2, p3, p4, pf, pl⟩ := owns_five own2 HAT.out.1
          have HNX := hide (SpL.next HR8.out HSL.out HX.out rfl fab)
          clear fb fab own2
          go_wp2
          go_roundw
          case rel => exact ⟨i + 1, by go_num, hlt, HNX.out⟩
          case measure => simp [intOf]; omega
        · obtain rfl : Cs.length = i := by omega
          have hS : ∀ b, ((Value.slice As Cs.length cs).ownBlock = some b ∨ ∃ x ∈ Cs, b ∈ x.blocks) → w7.heap.size ≤ b ∧ b < w8.heap.size := fun b hb => by
            rcases hb with hb | ⟨x, hx, hb⟩
            · exact owns_lt HR8.out.own b hb
            · exact T.In.blocks x (T.Sp.inn x (HR8.out.sp x hx)) b hb
          have f := sl.fr
          have hOr := HO7.out.no (HR8.out.fr.trans F810.out)
          have ht4' := HO7.out.t4
          have hOw := hOr.fr f (fun i hi h => by have := hS i h; omega)
          have hc2 := sameAll_any At ct Ct Ar cr Cr wr wr.heap.size (HRT.out wr _ f hS) (HRR.out wr _ f hS) (Nat.le_refl _) HECT.out HMCT.out (by omega)
          have hka := fun w' (f : Fr No wr w') => keptAll_any gl c capl Al l' L w' w.heap.size wr.heap.size 0 w.heap.size (hOw.lx.inn.no f (Nat.le_refl _)) f.size (fun x hx => T.Mk.no f (Nat.le_refl _) ((T.in_mk.1 hOw.lx.inn).2.2 x hx) (hOw.lx.mks x hx)) (hOw.il.no f hOw.f.size) (hOw.f.trans f).size hOw.lx.g1 hOw.lx.len hOw.lx.vs hOw.lx.cap (by rw [f.cell (b := gl) hOw.lx.g1 (fun h => h)]; exact hOw.lx.mark)
          have HC2 := hide hc2
          have HKA := hide hka
          have HOW := hide hOw
          clear hS f hOr hOw hc2 hka sl
          go_wp2_with fail
          refine HC2.out.mono ?_
          rintro e wa ⟨rfl, fa⟩
          have HFA := hide fa
          clear fa
          go_wp2_with fail
          refine (HKA.out _ HFA.out).mono ?_
          rintro e wb ⟨rfl, fb⟩
          have HFB := hide (HFA.out.trans fb)
          clear fb
          go_wp2_with fail
          refine (awake_any _).mono ?_
          rintro e wz ⟨rfl, fz⟩
          go_wp2
          go_ret
          exact ⟨rfl, (HOW.out.f.trans HFB.out).trans fz⟩


end Go.Proofs.Ytihjmipmjogpoaa

/- Two closed facts for the lifts. -/
namespace Go.Proofs.Ytihjmipmjogpoaa
theorem knob0 : ownKnob Try.prog.godebug = none := by kernel_rfl
theorem laidOut0 : laidOutB Try.prog = true := by kernel_rfl
end Go.Proofs.Ytihjmipmjogpoaa

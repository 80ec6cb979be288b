/- Texts joined: J7, B7, B8, P5, J8, P13. -/
import Derived.Test.YtihjmipmjogpoaaJn10
import Derived.Deep.RegionHeld3
import Derived.WalkLawsBesides
import Derived.Outline
/- Chapter 2: the document's answer: With. -/
namespace Go.Proofs.Ytihjmipmjogpoaa
open Go.RowKit

/-- What the document's With answers. -/
def RWithP (z : V) (m : Int) (lu hu : Nat) (w : World) (e : Ending) (w' : World) : Prop :=
  ∃ t' : T, e = .returned (.tuple #[t'.val, .int .i64 m]) ∧ t'.v = z ∧ t'.In w' 0 w'.heap.size ∧ (∀ b ∈ t'.blocks, (lu ≤ b ∧ b < hu) ∨ w.heap.size ≤ b) ∧ Fr No w w'

theorem T.zero_blocks : T.zero.blocks = [] := by rw [T.zero, T.blocks_mk]; simp

set_option maxRecDepth 100000 in
set_option maxHeartbeats 8000000 in
theorem refWith_any (t x : T) (w : World) (lo hi : Nat) (ht : t.In w lo hi) (hh : hi ≤ w.heap.size) (lo2 hi2 : Nat) (hx : x.In w lo2 hi2) (hh2 : hi2 ≤ w.heap.size) (A : Option Addr) (cap : Nat) (p : List Int) (lo' hi' : Nat) (hp : Ints w lo' hi' A cap p) (hh' : hi' ≤ w.heap.size) :
    Calls Try.prog 71 #[t.val, x.val, .slice A p.length cap] w (RWithP (withOf t.v x.v p).1 (withOf t.v x.v p).2 lo2 hi2 w) := by
  have hM1 := fun w' h h' => refMay_any t w' lo hi h h'
  have hM2 := fun w' h h' => refMay_any x w' lo2 hi2 h h'
  have hF := fun w' h h' h1 h2 => refAt_any t w' lo hi h h' A cap p lo' hi' h1 h2
  have hO := fun hs w' h h' h2 h2' h3 h3' => laid_any p t x w' lo hi h h' lo2 hi2 h2 h2' A cap lo' hi' h3 h3' hs
  cases t with
  | mk k n s B cb l r =>
  cases x with
  | mk kx nx sx Bx cx lx rx =>
    have W1 := WI.begin ht hh hx hh2 hp hh'
    rw [T.val_mk] at hM1 hM2 hF
    rw [T.val_mk, T.val_mk] at hO
    rw [T.val_mk, T.val_mk]
    generalize hv : (T.mk k n s B cb l r).v = v at *
    generalize hu : (T.mk kx nx sx Bx cx lx rx).v = u at *
    have hbad : ∀ (W W' : World) (m : Int), Fr No w W → withOf v u p = (V.zero, m) → Fr (fun i => i = w.heap.size + 2) W W' → RWithP (withOf v u p).1 (withOf v u p).2 lo2 hi2 w (.returned (.tuple #[.agg #[.int .u8 0, .int .i64 0, .string ⟨#[]⟩, .slice none 0 0, .int .i64 0], .int .i64 m])) W' := fun W W' m f e f' => by
      rw [e]
      exact ⟨T.zero, rfl, T.zero_v, (T.zero_sh _ _ _).inn, fun b hb => (by rw [T.zero_blocks] at hb; cases hb), f.trans' f' fun i hi h => by have h' : i = w.heap.size + 2 := h; omega⟩
    have HBAD := hide hbad
    have hs1 := W1.f.size
    clear hbad ht hx hp
    have HM1 := hide hM1
    have HM2 := hide hM2
    have HF := hide hF
    have HO := hide hO
    have HV := hide hv
    have HU := hide hu
    have HW1 := hide W1
    clear hM1 hM2 hF hO hv hu W1
    go_enter Try.func71, Try.ntmps71
    go_wp2_with fail
    generalize World.alloc (World.alloc (World.alloc w _) _) _ = w1 at *
    refine (HM1.out w1 HW1.out.iv (by omega)).mono ?_
    rintro e w2 ⟨rfl, f2⟩
    have W2 := HW1.out.no f2
    have hs2 := W2.f.size
    have HW2 := hide W2
    obtain ⟨x0, x1, x2, x3, x4, -⟩ := Blk.cells5 W2.bx
    have q1 := W2.bx.lt
    obtain ⟨d0, d1, d2, d3, d4, df⟩ := W2.bz.cells5
    have q2 := W2.bz.lt
    clear HW1 f2 W2 HM1
    cases hm : v.may with
    | false =>
      have HE := hide (show withOf v u p = (V.zero, 2) by simp [withOf, hm])
      clear hm
      go_wp2
      refine bodyPost_ret (v := .tuple #[.agg #[.int .u8 0, .int .i64 0, .string ⟨#[]⟩, .slice none 0 0, .int .i64 0], .int .i64 2]) (by simp [results, Try.results71, go_sem, *]) rfl ?_
      refine HBAD.out _ _ 2 HW2.out.f HE.out ?_
      repeat (first | with_reducible exact Fr.refl _ _ | with_reducible refine Fr.set ?_ (by simp) _)
    | true =>
    have HMV := hide hm
    clear hm
    go_wp2_with fail
    refine (HM2.out w2 HW2.out.ix (by omega)).mono ?_
    rintro e w3 ⟨rfl, f3⟩
    have W3 := HW2.out.no f3
    have hs3 := W3.f.size
    have HW3 := hide W3
    clear x0 x1 x2 x3 x4 q1 d0 d1 d2 d3 d4 df q2
    obtain ⟨c0, c1, c2, c3, c4, -⟩ := Blk.cells5 W3.bv
    have q0 := W3.bv.lt
    obtain ⟨d0, d1, d2, d3, d4, df⟩ := W3.bz.cells5
    have q2 := W3.bz.lt
    clear HW2 f3 W3 HM2
    cases hm : u.may with
    | false =>
      have HE := hide (show withOf v u p = (V.zero, 2) by simp [withOf, hm])
      clear hm
      go_wp2
      refine bodyPost_ret (v := .tuple #[.agg #[.int .u8 0, .int .i64 0, .string ⟨#[]⟩, .slice none 0 0, .int .i64 0], .int .i64 2]) (by simp [results, Try.results71, go_sem, *]) rfl ?_
      refine HBAD.out _ _ 2 HW3.out.f HE.out ?_
      repeat (first | with_reducible exact Fr.refl _ _ | with_reducible refine Fr.set ?_ (by simp) _)
    | true =>
    have HMU := hide hm
    clear hm d0 d1 d2 d3 d4 df q2
    go_wp2_with fail
    refine (HF.out w3 HW3.out.iv (by omega) HW3.out.ip (by omega)).mono ?_
    rintro e w4 ⟨f4, ⟨kf, nf, sf, Af, cf, lf, rf⟩, rfl, hat, -⟩
    rw [T.val_mk]
    have W4 := HW3.out.no f4
    have hs4 := W4.f.size
    have HW4 := hide W4
    clear HW3 f4 HF c0 c1 c2 c3 c4 q0 W4 hat
    have W5 := HW4.out.no ((Fr.refl No w4).alloc (.cells #[.int .u8 kf, .int .i64 nf, .string sf, .slice Af lf.length cf, .int .i64 rf] 27))
    have hs5 := W5.f.size
    have HW5 := hide W5
    cases hat : vAt p v with
    | none =>
      have HE := hide (show withOf v u p = (V.zero, 22) by simp only [withOf]; rw [if_pos ⟨HMV.out, HMU.out⟩, hat]; rfl)
      have e2 : (atOf v p).2 = 22 := by simp [atOf, HMV.out, hat]
      rw [e2]
      obtain ⟨d0, d1, d2, d3, d4, df⟩ := W5.bz.cells5
      have q2 := W5.bz.lt
      clear hat e2 W5 HW4
      go_wp2
      refine bodyPost_ret (v := .tuple #[.agg #[.int .u8 0, .int .i64 0, .string ⟨#[]⟩, .slice none 0 0, .int .i64 0], .int .i64 22]) (by simp [results, Try.results71, go_sem, *]) rfl ?_
      refine HBAD.out _ _ 22 HW5.out.f HE.out ?_
      repeat (first | with_reducible exact Fr.refl _ _ | with_reducible refine Fr.set ?_ (by simp) _)
    | some y =>
      have e2 : (atOf v p).2 = 0 := by simp [atOf, HMV.out, hat]
      have hsome : (vAt p v).isSome = true := by rw [hat]; rfl
      rw [e2]
      obtain ⟨c0, c1, c2, c3, c4, -⟩ := Blk.cells5 W5.bv
      obtain ⟨x0, x1, x2, x3, x4, -⟩ := Blk.cells5 W5.bx
      have q0 := W5.bv.lt
      have q1 := W5.bx.lt
      have HSO := hide hsome
      clear hat e2 W5 HW4 hsome
      go_wp2_with fail
      generalize World.alloc w4 _ = w5 at *
      refine (HO.out HSO.out w5 HW5.out.iv (by omega) HW5.out.ix (by omega) HW5.out.ip (by omega)).mono ?_
      rintro e w6 ⟨⟨k3, n3, s3, B3, cb3, l3, r3⟩, rfl, ev3, in3, bl3, f6⟩
      rw [T.val_mk]
      have f7 := (Fr.refl No w6).alloc (.cells #[.int .u8 k3, .int .i64 n3, .string s3, .slice B3 l3.length cb3, .int .i64 r3] 27)
      have W7 := (HW5.out.no f6).no f7
      have BX7 := Blk.new w6 27 #[.int .u8 k3, .int .i64 n3, .string s3, .slice B3 l3.length cb3, .int .i64 r3]
      have in7 := in3.no f7 (Nat.le_refl _)
      have hs6 := f6.size
      have hs7 : w6.heap.size < (w6.alloc (.cells #[.int .u8 k3, .int .i64 n3, .string s3, .slice B3 l3.length cb3, .int .i64 r3] 27)).heap.size := BX7.lt
      have hM3 := refMay_any (T.mk k3 n3 s3 B3 cb3 l3 r3) _ 0 w6.heap.size in7 (Nat.le_of_lt hs7)
      rw [T.val_mk, ev3] at hM3
      have HM3 := hide hM3
      have HW7 := hide W7
      have HBX := hide BX7
      have HIN := hide in7
      have HEV := hide ev3
      have hb3 : ∀ b ∈ (T.mk k3 n3 s3 B3 cb3 l3 r3).blocks, (lo2 ≤ b ∧ b < hi2) ∨ w.heap.size + 3 ≤ b := fun b hb => by
        have hz := HW5.out.bz.lt
        rcases bl3 b hb with h | h
        · exact .inl h
        · right; omega
      have HB3 := hide hb3
      clear hM3 W7 BX7 in7 ev3 bl3 f6 f7 in3 hb3 HO c0 c1 c2 c3 c4 x0 x1 x2 x3 x4 q0 q1
      go_wp2_with fail
      generalize World.alloc w6 _ = w7 at *
      refine HM3.out.mono ?_
      rintro e w8 ⟨rfl, f8⟩
      have W8 := HW7.out.no f8
      have BX8 := HBX.out.fr f8 fun h => h
      obtain ⟨y0, y1, y2, y3, y4, -⟩ := BX8.cells5
      have qy := BX8.lt
      obtain ⟨d0, d1, d2, d3, d4, df⟩ := W8.bz.cells5
      have q2 := W8.bz.lt
      have HW8 := hide W8
      have HIN8 := hide (HIN.out.no f8 (by omega))
      have hs8 := f8.size
      clear W8 BX8 HM3 HW7 HBX HIN f8
      cases hm : (V.put p u v).may with
      | false =>
        have HE := hide (show withOf v u p = (V.zero, 4) by simp only [withOf]; rw [if_pos ⟨HMV.out, HMU.out⟩, if_pos HSO.out, hm]; rfl)
        clear hm
        go_wp2
        refine bodyPost_ret (v := .tuple #[.agg #[.int .u8 0, .int .i64 0, .string ⟨#[]⟩, .slice none 0 0, .int .i64 0], .int .i64 4]) (by simp [results, Try.results71, go_sem, *]) rfl ?_
        refine HBAD.out _ _ 4 HW8.out.f HE.out ?_
        repeat (first | with_reducible exact Fr.refl _ _ | with_reducible refine Fr.set ?_ (by simp) _)
      | true =>
        have HE := hide (show withOf v u p = (V.put p u v, 0) by simp only [withOf]; rw [if_pos ⟨HMV.out, HMU.out⟩, if_pos HSO.out, hm]; rfl)
        clear hm
        go_wp2
        refine bodyPost_ret (v := .tuple #[.agg #[.int .u8 k3, .int .i64 n3, .string s3, .slice B3 l3.length cb3, .int .i64 r3], .int .i64 0]) (by simp [results, Try.results71, go_sem, *]) rfl ?_
        rw [HE.out]
        generalize hW : World.setCell _ _ _ = W
        have hfr : Fr (fun i => i = w.heap.size + 2) w8 W := by
          rw [← hW]
          repeat (first | with_reducible exact Fr.refl _ w8 | with_reducible refine Fr.set ?_ (by simp) _)
        have hbb := HB3.out
        refine ⟨T.mk k3 n3 s3 B3 cb3 l3 r3, rfl, HEV.out, ?_, fun b hb => ?_, HW8.out.f.trans' hfr (fun i hi h => by have h' : i = w.heap.size + 2 := h; omega)⟩
        · refine T.In.more (Nat.le_refl _) (by have := hfr.size; omega) _ (In.fr_blocks hfr (by omega) _ (fun b hb h => ?_) HIN8.out)
          have h' : b = w.heap.size + 2 := h
          rcases hbb b hb with h | h <;> omega
        · rcases hbb b hb with h | h
          · exact .inl h
          · right; omega

end Go.Proofs.Ytihjmipmjogpoaa

/- Chapter 2: the document's answer: order, Order, Same. -/
namespace Go.Proofs.Ytihjmipmjogpoaa
open Go.RowKit

theorem less_total : ∀ (a b : List UInt8), Op.bytesLess a b = false → Op.bytesLess b a = false → a = b
  | [], [], _, _ => rfl
  | [], y :: b, h, _ => by simp [Op.bytesLess] at h
  | x :: a, [], _, h => by simp [Op.bytesLess] at h
  | x :: a, y :: b, h, h' => by
    simp only [Op.bytesLess, Bool.or_eq_false_iff, Bool.and_eq_false_iff, decide_eq_false_iff_not, beq_eq_false_iff_ne] at h h'
    have hxy : x = y := by
      have q1 := h.1
      have q2 := h'.1
      rw [UInt8.lt_iff_toNat_lt] at q1 q2
      exact UInt8.toNat_inj.1 (by omega)
    subst hxy
    rw [less_total a b (h.2.resolve_left (fun h => h rfl)) (h'.2.resolve_left (fun h => h rfl))]

theorem less_asymm : ∀ (a b : List UInt8), Op.bytesLess a b = true → Op.bytesLess b a = false
  | [], [], h => by simp [Op.bytesLess] at h
  | [], y :: b, _ => rfl
  | x :: a, [], h => by simp [Op.bytesLess] at h
  | x :: a, y :: b, h => by
    simp only [Op.bytesLess, Bool.or_eq_true, Bool.and_eq_true, decide_eq_true_eq, beq_iff_eq] at h
    simp only [Op.bytesLess, Bool.or_eq_false_iff, Bool.and_eq_false_iff, decide_eq_false_iff_not, beq_eq_false_iff_ne]
    rcases h with h | ⟨rfl, h⟩
    · exact ⟨UInt8.lt_asymm h, .inl fun e => by subst e; exact absurd h (UInt8.lt_irrefl _)⟩
    · exact ⟨UInt8.lt_irrefl _, .inr (less_asymm a b h)⟩

theorem fok_n {k n : Int} {s : ByteArray} {len : Nat} {r : Int} (h : fok k n s len r = true) (hk : k ≠ 1) : n = 0 := by
  rcases fok_kind h with rfl | rfl | rfl | rfl | rfl
  · simp [fok] at h; exact h.1.1.1
  · exact absurd rfl hk
  · simp [fok] at h; exact h.1.1.2
  · simp [fok] at h; exact h.1.1
  · simp [fok] at h; exact h.1.1.2
theorem fok_s {k n : Int} {s : ByteArray} {len : Nat} {r : Int} (h : fok k n s len r = true) (hk : k ≠ 2) : s.toList = [] := by
  rcases fok_kind h with rfl | rfl | rfl | rfl | rfl
  · simp [fok] at h; exact h.1.1.2
  · simp [fok] at h; exact h.1.1
  · exact absurd rfl hk
  · simp [fok] at h; exact h.1.2
  · simp [fok] at h; exact h.1.2
theorem fok_r {k n : Int} {s : ByteArray} {len : Nat} {r : Int} (h : fok k n s len r = true) (hk : k ≠ 4) : r = 0 := by
  rcases fok_kind h with rfl | rfl | rfl | rfl | rfl
  · simp [fok] at h; exact h.1.2
  · simp [fok] at h; exact h.1.2
  · simp [fok] at h; exact h.1.2
  · simp [fok] at h; exact h.2
  · exact absurd rfl hk

section
variable {k n n' : Int} {s s' : ByteArray} {l l' : List V} {r r' : Int} (hu : fok k n s l.length r = true) (hv : fok k n' s' l'.length r' = true)
include hu hv
theorem ord_part (a b : Bool) (ha : a = (decide (n < n') || Op.bytesLess s.toList s'.toList || decide (r < r'))) (hb : b = (decide (n' < n) || Op.bytesLess s'.toList s.toList || decide (r' < r))) :
    (k = 0 ∨ k = 3 → a = false ∧ b = false) ∧ (k = 1 → a = decide (n < n') ∧ b = decide (n' < n)) ∧ (k = 2 → a = Op.bytesLess s.toList s'.toList ∧ b = Op.bytesLess s'.toList s.toList) ∧ (k = 4 → a = decide (r < r') ∧ b = decide (r' < r)) := by
  subst ha hb
  have hn : k ≠ 1 → n = 0 ∧ n' = 0 := fun h => ⟨fok_n hu h, fok_n hv h⟩
  have hs : k ≠ 2 → s.toList = [] ∧ s'.toList = [] := fun h => ⟨fok_s hu h, fok_s hv h⟩
  have hr : k ≠ 4 → r = 0 ∧ r' = 0 := fun h => ⟨fok_r hu h, fok_r hv h⟩
  refine ⟨fun h => ?_, fun h => ?_, fun h => ?_, fun h => ?_⟩
  · obtain ⟨e1, e2⟩ := hn (by omega)
    obtain ⟨e3, e4⟩ := hs (by omega)
    obtain ⟨e5, e6⟩ := hr (by omega)
    rw [e1, e2, e3, e4, e5, e6]; exact ⟨rfl, rfl⟩
  · obtain ⟨e3, e4⟩ := hs (by omega)
    obtain ⟨e5, e6⟩ := hr (by omega)
    rw [e3, e4, e5, e6]; simp [Op.bytesLess]
  · obtain ⟨e1, e2⟩ := hn (by omega)
    obtain ⟨e5, e6⟩ := hr (by omega)
    rw [e1, e2, e5, e6]; simp
  · obtain ⟨e1, e2⟩ := hn (by omega)
    obtain ⟨e3, e4⟩ := hs (by omega)
    rw [e1, e2, e3, e4]; simp [Op.bytesLess]

theorem ord_low (h : n < n' ∨ Op.bytesLess s.toList s'.toList = true ∨ r < r') : (V.mk k n s l r).ord (V.mk k n' s' l' r') = -1 := by
  obtain ⟨p0, p1, p2, p4⟩ := ord_part hu hv true _ (by rcases h with h | h | h <;> simp [h]) rfl
  rw [V.ord_mk, ordOf, if_pos rfl]
  rcases fok_kind hu with rfl | rfl | rfl | rfl | rfl
  · exact absurd (p0 (.inl rfl)).1 (by decide)
  · have := (p1 rfl).1; rw [if_pos rfl, cmpI, if_pos (by simpa using this.symm)]
  · have := (p2 rfl).1; rw [if_neg (by decide), if_pos rfl, cmpS, if_pos this.symm]
  · exact absurd (p0 (.inr rfl)).1 (by decide)
  · have := (p4 rfl).1; rw [if_neg (by decide), if_neg (by decide), if_pos rfl, cmpI, if_pos (by simpa using this.symm)]

theorem ord_high (h : n' < n ∨ Op.bytesLess s'.toList s.toList = true ∨ r' < r) : (V.mk k n s l r).ord (V.mk k n' s' l' r') = 1 := by
  obtain ⟨p0, p1, p2, p4⟩ := ord_part hu hv _ true rfl (by rcases h with h | h | h <;> simp [h])
  rw [V.ord_mk, ordOf, if_pos rfl]
  rcases fok_kind hu with rfl | rfl | rfl | rfl | rfl
  · exact absurd (p0 (.inl rfl)).2 (by decide)
  · have h1 : n' < n := by simpa using (p1 rfl).2.symm
    rw [if_pos rfl, cmpI, if_neg (by omega), if_pos h1]
  · have h1 := (p2 rfl).2.symm
    have h2 := less_asymm _ _ h1
    rw [if_neg (by decide), if_pos rfl, cmpS, h2, if_neg (by decide), if_neg]
    intro h3
    rw [beq_iff_eq] at h3
    rw [h3, less_self] at h1
    cases h1
  · exact absurd (p0 (.inr rfl)).2 (by decide)
  · have h1 : r' < r := by simpa using (p4 rfl).2.symm
    rw [if_neg (by decide), if_neg (by decide), if_pos rfl, cmpI, if_neg (by omega), if_pos h1]

theorem ord_list (h1 : ¬ (n < n' ∨ Op.bytesLess s.toList s'.toList = true ∨ r < r')) (h2 : ¬ (n' < n ∨ Op.bytesLess s'.toList s.toList = true ∨ r' < r)) : (V.mk k n s l r).ord (V.mk k n' s' l' r') = ordL (l.map V.ord) l' := by
  rw [V.ord_mk, ordOf, if_pos rfl]
  have hl0 : k ≠ 3 → l = [] ∧ l' = [] := fun h => ⟨List.eq_nil_of_length_eq_zero (fok_len h hu), List.eq_nil_of_length_eq_zero (fok_len h hv)⟩
  rcases fok_kind hu with rfl | rfl | rfl | rfl | rfl
  · rw [if_neg (by decide), if_neg (by decide), if_neg (by decide)]
  · obtain ⟨rfl, rfl⟩ := hl0 (by decide)
    rw [if_pos rfl, cmpI, if_neg (by omega), if_neg (by omega)]; rfl
  · obtain ⟨rfl, rfl⟩ := hl0 (by decide)
    have e : s.toList = s'.toList := less_total _ _ (by simpa using fun h => h1 (.inr (.inl h))) (by simpa using fun h => h2 (.inr (.inl h)))
    rw [if_neg (by decide), if_pos rfl, cmpS, e, less_self]; simp [ordL]
  · rw [if_neg (by decide), if_neg (by decide), if_neg (by decide)]
  · obtain ⟨rfl, rfl⟩ := hl0 (by decide)
    rw [if_neg (by decide), if_neg (by decide), if_pos rfl, cmpI, if_neg (by omega), if_neg (by omega)]; rfl
end

theorem ordL_end {fs : List (V → Int)} {vs : List V} {j : Nat} (hj : j = fs.length ∨ j = vs.length) (hz : EqTo fs vs j) : ordL fs vs = if fs.length < vs.length then -1 else if vs.length < fs.length then 1 else 0 := by
  rcases Nat.lt_trichotomy fs.length vs.length with h | h | h
  · rw [if_pos h]
    rw [ordL_done (by omega) (fun i f v hi => hz i f v (by rcases hj with rfl | rfl <;> omega)), if_pos h]
  · rw [if_neg (by omega), if_neg (by omega)]
    rw [ordL_done (by omega) (fun i f v hi => hz i f v (by rcases hj with rfl | rfl <;> omega)), if_neg (by omega)]
  · rw [if_neg (by omega), if_pos h]
    exact ordL_more h (fun i f v hi => hz i f v (by rcases hj with rfl | rfl <;> omega))

set_option maxRecDepth 100000 in
set_option maxHeartbeats 8000000 in
theorem reforder_any (t : T) : ∀ (t' : T) (w : World) (lo hi lo' hi' : Nat), t.In w lo hi → hi ≤ w.heap.size → t'.In w lo' hi' → hi' ≤ w.heap.size → t.v.ok = true → t'.v.ok = true →
    Calls Try.prog 131 #[t.val, t'.val] w fun e w' => e = .returned (.int .i64 (t.v.ord t'.v)) ∧ Fr No w w' := by
  induction t using T.ind with
  | h k n s A cap l r ih =>
    intro t' w lo hi lo' hi' ht hh ht' hh' hok hok'
    cases t' with
    | mk k' n' s' A' cap' l' r' =>
      rw [T.val_mk, T.val_mk]
      have fr2 := ((Fr.refl No w).alloc (.cells #[.int .u8 k, .int .i64 n, .string s, .slice A l.length cap, .int .i64 r] 27)).alloc (.cells #[.int .u8 k', .int .i64 n', .string s', .slice A' l'.length cap', .int .i64 r'] 27)
      rw [T.v_mk] at hok hok' ⊢
      rw [T.v_mk]
      rw [V.ok_mk, Bool.and_eq_true, List.all_eq_true] at hok hok'
      have hlen := (T.in_mk.1 ht).1.len1
      have hlen' := (T.in_mk.1 ht').1.len1
      by_cases hk : k = k'
      case neg =>
        have hk' : (k != k') = true := by simpa using hk
        have e : (V.mk k n s (l.map T.v) r).ord (V.mk k' n' s' (l'.map T.v) r') = if k < k' then -1 else 1 := by
          rw [V.ord_mk, ordOf, if_neg hk, cmpI]
          split
          · rfl
          · rw [if_pos (by omega)]
        rw [e]
        clear ih hok hok' e ht ht'
        by_cases hlt : k < k'
        · rw [if_pos hlt]
          go_enter Try.func131, Try.ntmps131
          go_wp2
          go_ret
          exact ⟨rfl, fr2⟩
        · rw [if_neg hlt]
          go_enter Try.func131, Try.ntmps131
          go_wp2
          go_ret
          exact ⟨rfl, fr2⟩
      subst hk
      by_cases h1 : n < n' ∨ Op.bytesLess s.toList s'.toList = true ∨ r < r'
      · rw [ord_low hok.1 hok'.1 h1]
        clear ih hok hok' ht ht'
        by_cases a1 : n < n'
        · go_enter Try.func131, Try.ntmps131
          go_wp2
          go_ret
          exact ⟨rfl, fr2⟩
        cases a2 : Op.bytesLess s.toList s'.toList with
        | true =>
          clear h1
          go_enter Try.func131, Try.ntmps131
          go_wp2
          go_ret
          exact ⟨rfl, fr2⟩
        | false =>
          have a3 : r < r' := by rcases h1 with h | h | h; exact absurd h a1; rw [a2] at h; cases h; exact h
          clear h1
          go_enter Try.func131, Try.ntmps131
          go_wp2
          go_ret
          exact ⟨rfl, fr2⟩
      have b1 : ¬ n < n' := fun h => h1 (.inl h)
      have b2 : Op.bytesLess s.toList s'.toList = false := by simpa using fun h => h1 (.inr (.inl h))
      have b3 : ¬ r < r' := fun h => h1 (.inr (.inr h))
      by_cases h2 : n' < n ∨ Op.bytesLess s'.toList s.toList = true ∨ r' < r
      · rw [ord_high hok.1 hok'.1 h2]
        clear ih hok hok' ht ht' h1
        by_cases a1 : n' < n
        · go_enter Try.func131, Try.ntmps131
          go_wp2
          go_ret
          exact ⟨rfl, fr2⟩
        cases a2 : Op.bytesLess s'.toList s.toList with
        | true =>
          have a4 : (s.toList == s'.toList) = false := by
            simp only [beq_eq_false_iff_ne]
            intro h3
            rw [h3, less_self] at a2
            cases a2
          have a5 : ¬ s.toList = s'.toList := by simpa using a4
          clear h2
          go_enter Try.func131, Try.ntmps131
          go_wp2
          go_ret
          exact ⟨rfl, fr2⟩
        | false =>
          have a3 : r' < r := by rcases h2 with h | h | h; exact absurd h a1; rw [a2] at h; cases h; exact h
          obtain rfl : s = s' := bytes_ext (less_total _ _ b2 a2)
          clear h2
          go_enter Try.func131, Try.ntmps131
          go_wp2
          go_ret
          exact ⟨rfl, fr2⟩
      have d1 : ¬ n' < n := fun h => h2 (.inl h)
      have d2 : Op.bytesLess s'.toList s.toList = false := by simpa using fun h => h2 (.inr (.inl h))
      have d3 : ¬ r' < r := fun h => h2 (.inr (.inr h))
      have hE := ord_list hok.1 hok'.1 h1 h2
      obtain rfl : s = s' := bytes_ext (less_total _ _ b2 d2)
      have HE := hide hE
      have HOK := hide hok.2
      have HOK' := hide hok'.2
      clear h1 h2 hE hok hok'
      have hK0 := (Blk.new' w 27 #[.int .u8 k, .int .i64 n, .string s, .slice A l.length cap, .int .i64 r] rfl).alloc (.cells #[.int .u8 k, .int .i64 n', .string s, .slice A' l'.length cap', .int .i64 r'] 27)
      have hV0 := Blk.new' (w.alloc (.cells #[.int .u8 k, .int .i64 n, .string s, .slice A l.length cap, .int .i64 r] 27)) 27 #[.int .u8 k, .int .i64 n', .string s, .slice A' l'.length cap', .int .i64 r'] (g := w.heap.size + 1) (by simp)
      go_enter Try.func131, Try.ntmps131
      go_wp2_with fail
      go_loopw [5, 6] (fun i _ wr => ∃ j : Nat, j ≤ l.length ∧ j ≤ l'.length ∧ i = .int .i64 j ∧ Fr No ((w.alloc (.cells #[.int .u8 k, .int .i64 n, .string s, .slice A l.length cap, .int .i64 r] 27)).alloc (.cells #[.int .u8 k, .int .i64 n', .string s, .slice A' l'.length cap', .int .i64 r'] 27)) wr ∧ EqTo ((l.map T.v).map V.ord) (l'.map T.v) j) (fun i _ _ => l.length - (intOf i).toNat)
      case atStart =>
        exact ⟨0, Nat.zero_le _, Nat.zero_le _, rfl, Fr.refl _ _, EqTo.zero _ _⟩
      case round =>
        obtain ⟨j, hj, hj', rfl, fr, hsame⟩ := hrel
        have hK := hK0.fr fr fun h => h
        have hV := hV0.fr fr fun h => h
        have frw := fr2.trans fr
        have hszr := fr.size
        simp at hszr
        obtain ⟨c0, c1, c2, c3, c4, cf⟩ := hK.cells5
        obtain ⟨f0, f1, f2, f3, f4, ff⟩ := hV.cells5
        have g2 : w.heap.size < wr.heap.size := by omega
        have g3 : w.heap.size + 1 < wr.heap.size := by omega
        by_cases hboth : j < l.length ∧ j < l'.length
        · obtain ⟨hlt, hlt'⟩ := hboth
          obtain ⟨b, o, k1, n1, s1, A1, cap1, l1, r1, rfl, hb0, hb1, hx, hin, e0, e1, e2, e3, e4⟩ := T.elem (ht.no frw hh) hlt
          obtain ⟨b', o', k2, n2, s2, A2, cap2, l2, r2, rfl, hb0', hb1', hx', hin', m0, m1, m2, m3, m4⟩ := T.elem (ht'.no frw hh') hlt'
          have IH := ih l[j] (List.getElem_mem hlt) l'[j]
          rw [hx, hx', T.val_mk, T.val_mk] at IH
          have hr := ord_range (T.mk k1 n1 s1 A1 cap1 l1 r1).v (T.mk k2 n2 s2 A2 cap2 l2 r2).v
          have hok1 : (T.mk k1 n1 s1 A1 cap1 l1 r1).v.ok = true := by rw [← hx]; exact HOK.out _ (List.mem_map_of_mem (List.getElem_mem hlt))
          have hok2 : (T.mk k2 n2 s2 A2 cap2 l2 r2).v.ok = true := by rw [← hx']; exact HOK'.out _ (List.mem_map_of_mem (List.getElem_mem hlt'))
          have hfj : ((l.map T.v).map V.ord)[j]? = some (T.mk k1 n1 s1 A1 cap1 l1 r1).v.ord := by
            rw [List.getElem?_map, List.getElem?_map, List.getElem?_eq_getElem hlt, hx]; rfl
          have hvj : (l'.map T.v)[j]? = some (T.mk k2 n2 s2 A2 cap2 l2 r2).v := by
            rw [List.getElem?_map, List.getElem?_eq_getElem hlt', hx']; rfl
          generalize (T.mk k1 n1 s1 A1 cap1 l1 r1).v = u1 at *
          generalize (T.mk k2 n2 s2 A2 cap2 l2 r2).v = u2 at *
          have g0 : b < wr.heap.size := by omega
          have g1 : b' < wr.heap.size := by omega
          have hh0 : hi ≤ wr.heap.size := by omega
          have hh1 : hi' ≤ wr.heap.size := by omega
          have IH2 := fun w1 (f : Fr No wr w1) => IH w1 lo hi lo' hi' (hin.no f hh0) (Nat.le_trans hh0 f.size) (hin'.no f hh1) (Nat.le_trans hh1 f.size) hok1 hok2
          have HIH := hide IH2
          have HFJ := hide hfj
          have HVJ := hide hvj
          have HF := hide fr
          have HW := hide frw
          have HS := hide hsame
          clear hx hx' ih hK hV fr frw fr2 hsame IH IH2 hfj hvj hok1 hok2 hin hin' ht ht' hK0 hV0
          generalize hcc : u1.ord u2 = c at *
          have HCC := hide hcc
          clear hcc
          go_wp2_with fail
          go_region_held3 (fun w' => (∀ c i, c < wr.heap.size → w'.cell? ⟨c, i, none⟩ = wr.cell? ⟨c, i, none⟩) ∧ Fr No wr w')
            (first | exact ⟨fun _ _ _ => rfl, Fr.drew (Fr.refl No wr)⟩ | (have hq : Fr No wr _ := (‹_ ∧ Fr No wr _›).2.trans ‹Fr No _ _›; exact ⟨hq.cells, hq⟩))
            (first
              | (go_at_call 131; have hs0 := (‹_ ∧ Fr No wr _›).2; ((with_reducible refine (HIH.out _ ?_).mono ?_); (exact hs0); rintro e w2 ⟨rfl, fr1⟩)))
          have hF2 := (‹_ ∧ Fr No wr _›).2
          have HF2 := hide hF2
          rcases hr with rfl | rfl | rfl
          · have hP := ordL_at HS.out HFJ.out HVJ.out (by rw [HCC.out]; decide)
            rw [HCC.out] at hP
            have HP := hide hP
            clear hP
            go_wp2
            go_ret
            exact ⟨by rw [HE.out, HP.out]; rfl, HW.out.trans HF2.out⟩
          · go_wp2
            go_roundw
            case rel => exact ⟨j + 1, hlt, hlt', by go_num, HF.out.trans HF2.out, HS.out.succ HFJ.out HVJ.out HCC.out⟩
            case measure => simp [intOf]; omega
          · have hP := ordL_at HS.out HFJ.out HVJ.out (by rw [HCC.out]; decide)
            rw [HCC.out] at hP
            have HP := hide hP
            clear hP
            go_wp2
            go_ret
            exact ⟨by rw [HE.out, HP.out]; rfl, HW.out.trans HF2.out⟩
        · have hend : ordL ((l.map T.v).map V.ord) (l'.map T.v) = if l.length < l'.length then -1 else if l'.length < l.length then 1 else 0 := by
            have := ordL_end (fs := (l.map T.v).map V.ord) (vs := l'.map T.v) (j := j) (by simp; omega) hsame
            simpa using this
          have HN := hide hend
          have HW := hide frw
          clear hend ih frw fr fr2 hsame hK hV
          rcases Nat.lt_trichotomy l.length l'.length with h | h | h
          · obtain rfl : j = l.length := by omega
            clear hboth
            go_wp2
            go_ret
            exact ⟨by rw [HE.out, HN.out, if_pos h]; rfl, HW.out⟩
          · obtain rfl : j = l.length := by omega
            have h3 : ¬ l.length < l'.length := by omega
            have h4 : ¬ l'.length < l.length := by omega
            have HH := hide h
            clear h hboth
            go_wp2
            go_ret
            exact ⟨by rw [HE.out, HN.out, if_neg h3, if_neg h4]; rfl, HW.out⟩
          · obtain rfl : j = l'.length := by omega
            have h3 : ¬ l.length < l'.length := by omega
            clear hboth
            go_wp2
            go_ret
            exact ⟨by rw [HE.out, HN.out, if_neg h3, if_pos h]; rfl, HW.out⟩

end Go.Proofs.Ytihjmipmjogpoaa

/- Chapter 2: the document's answer: Order, Same. -/
namespace Go.Proofs.Ytihjmipmjogpoaa
open Go.RowKit

set_option maxRecDepth 100000 in
set_option maxHeartbeats 4000000 in
/-- The document's Order. -/
theorem refOrder_any (a b : T) (w : World) (lo hi : Nat) (ha : a.In w lo hi) (hb : b.In w lo hi) (hh : hi ≤ w.heap.size) :
    Calls Try.prog 75 #[a.val, b.val] w fun e w' => e = .returned (.tuple #[.int .i64 (if (a.v.may && b.v.may) = true then a.v.ord b.v else 0), .int .i64 (if (a.v.may && b.v.may) = true then 0 else 2)]) ∧ Fr No w w' := by
  have hMa := fun w' h h' => refMay_any a w' lo hi h h'
  have hMb := fun w' h h' => refMay_any b w' lo hi h h'
  have hO := fun w' h h' h'' o o' => reforder_any a b w' lo hi lo hi h h'' h' h'' o o'
  cases a with
  | mk k n s A cap l r =>
  cases b with
  | mk k' n' s' A' cap' l' r' =>
    rw [T.val_mk] at *
    rw [T.val_mk] at *
    generalize hu : (T.mk k n s A cap l r).v = u at *
    generalize hv : (T.mk k' n' s' A' cap' l' r').v = v at *
    have fr1 := ((Fr.refl No w).alloc (.cells #[.int .u8 k, .int .i64 n, .string s, .slice A l.length cap, .int .i64 r] 27)).alloc (.cells #[.int .u8 k', .int .i64 n', .string s', .slice A' l'.length cap', .int .i64 r'] 27)
    have hK := (Blk.new' w 27 #[.int .u8 k, .int .i64 n, .string s, .slice A l.length cap, .int .i64 r] rfl).alloc (.cells #[.int .u8 k', .int .i64 n', .string s', .slice A' l'.length cap', .int .i64 r'] 27)
    have hV := Blk.new' (w.alloc (.cells #[.int .u8 k, .int .i64 n, .string s, .slice A l.length cap, .int .i64 r] 27)) 27 #[.int .u8 k', .int .i64 n', .string s', .slice A' l'.length cap', .int .i64 r'] (g := w.heap.size + 1) (by simp)
    have ha1 := ha.no fr1 hh
    have hb1 := hb.no fr1 hh
    have hs1 := Nat.le_trans hh fr1.size
    have HU := hide hu
    have HV := hide hv
    clear hu hv ha hb
    cases hma : u.may with
    | false =>
      rw [hma] at hMa
      simp only [Bool.false_and, Bool.false_eq_true, if_false]
      clear hma
      go_enter Try.func75, Try.ntmps75
      go_wp2_with fail
      refine (hMa _ ha1 hs1).mono ?_
      rintro e w2 ⟨rfl, fr2⟩
      go_wp2
      go_ret2
      exact ⟨rfl, fr1.trans fr2⟩
    | true =>
      rw [hma] at hMa
      cases hmb : v.may with
      | false =>
        rw [hmb] at hMb
        simp only [Bool.and_false, Bool.false_eq_true, if_false]
        clear hma hmb
        go_enter Try.func75, Try.ntmps75
        go_wp2_with fail
        generalize World.alloc _ _ = W0 at *
        refine (hMa _ ha1 hs1).mono ?_
        rintro e w2 ⟨rfl, fr2⟩
        obtain ⟨v0, v1, v2, v3, v4, -⟩ := (hV.fr fr2 fun h => h).cells5
        have hb2 := hb1.no fr2 hs1
        have hs2 := Nat.le_trans hs1 fr2.size
        have HF := hide (fr1.trans fr2)
        clear fr1 fr2 hK hV
        go_wp2_with fail
        refine (hMb _ hb2 hs2).mono ?_
        rintro e w3 ⟨rfl, fr3⟩
        go_wp2
        go_ret2
        exact ⟨rfl, HF.out.trans fr3⟩
      | true =>
        rw [hmb] at hMb
        simp only [Bool.and_true, if_true]
        have hO := fun w' h h' h'' => hO w' h h' h'' (may_ok hma) (may_ok hmb)
        generalize u.ord v = c at *
        clear hma hmb
        go_enter Try.func75, Try.ntmps75
        go_wp2_with fail
        generalize World.alloc _ _ = W0 at *
        refine (hMa _ ha1 hs1).mono ?_
        rintro e w2 ⟨rfl, fr2⟩
        have hK2 := hK.fr fr2 fun h => h
        have hV2 := hV.fr fr2 fun h => h
        obtain ⟨v0, v1, v2, v3, v4, -⟩ := hV2.cells5
        have ha2 := ha1.no fr2 hs1
        have hb2 := hb1.no fr2 hs1
        have hs2 := Nat.le_trans hs1 fr2.size
        have HF := hide (fr1.trans fr2)
        clear fr1 fr2 hK hV
        go_wp2_with fail
        refine (hMb _ hb2 hs2).mono ?_
        rintro e w3 ⟨rfl, fr3⟩
        clear v0 v1 v2 v3 v4
        obtain ⟨v0, v1, v2, v3, v4, -⟩ := (hV2.fr fr3 fun h => h).cells5
        obtain ⟨c0, c1, c2, c3, c4, -⟩ := (hK2.fr fr3 fun h => h).cells5
        have ha3 := ha2.no fr3 hs2
        have hb3 := hb2.no fr3 hs2
        have hs3 := Nat.le_trans hs2 fr3.size
        have HF3 := hide (HF.out.trans fr3)
        clear fr3 hK2 hV2
        go_wp2_with fail
        refine (hO _ ha3 hb3 hs3).mono ?_
        rintro e w4 ⟨rfl, fr4⟩
        go_wp2
        go_ret2
        exact ⟨rfl, HF3.out.trans fr4⟩

/-- The document's Same. -/
theorem refSame_any (a b : T) (w : World) (lo hi : Nat) (ha : a.In w lo hi) (hb : b.In w lo hi) (hh : hi ≤ w.heap.size) : Calls Try.prog 43 #[a.val, b.val] w fun e w' => e = .returned (.bool (a.v.same2 b.v)) ∧ Fr No w w' := by
  have hO := fun w' h h' h'' => refOrder_any a b w' lo hi h h' h''
  have hr := ord_range a.v b.v
  cases a with
  | mk k n s A cap l r =>
  cases b with
  | mk k' n' s' A' cap' l' r' =>
    rw [T.val_mk] at *
    rw [T.val_mk] at *
    generalize hu : (T.mk k n s A cap l r).v = u at *
    generalize hv : (T.mk k' n' s' A' cap' l' r').v = v at *
    have fr1 := ((Fr.refl No w).alloc (.cells #[.int .u8 k, .int .i64 n, .string s, .slice A l.length cap, .int .i64 r] 27)).alloc (.cells #[.int .u8 k', .int .i64 n', .string s', .slice A' l'.length cap', .int .i64 r'] 27)
    have ha1 := ha.no fr1 hh
    have hb1 := hb.no fr1 hh
    have hs1 := Nat.le_trans hh fr1.size
    have HU := hide hu
    have HV := hide hv
    clear hu hv ha hb
    have hcase : ∃ (c d : Int) (q : Bool), (if (u.may && v.may) = true then u.ord v else 0) = c ∧ (if (u.may && v.may) = true then (0 : Int) else 2) = d ∧ u.same2 v = q ∧ ((d = 2 ∧ q = false) ∨ (d = 0 ∧ c = 0 ∧ q = true) ∨ (d = 0 ∧ (c = -1 ∨ c = 1) ∧ q = false)) := by
      refine ⟨_, _, _, rfl, rfl, rfl, ?_⟩
      unfold V.same2
      cases u.may
      · simp
      cases v.may
      · simp
      simp
      omega
    obtain ⟨c, d, q, h1, h2, h3, h4⟩ := hcase
    rw [h1, h2] at hO
    rw [h3]
    clear h1 h2 h3 hr
    rcases h4 with ⟨rfl, rfl⟩ | ⟨rfl, rfl, rfl⟩ | ⟨rfl, rfl | rfl, rfl⟩
    all_goals
      go_enter Try.func43, Try.ntmps43
      go_wp2_with fail
      refine (hO _ ha1 hb1 hs1).mono ?_
      rintro e w2 ⟨rfl, fr2⟩
      go_wp2
      go_ret
      exact ⟨rfl, fr1.trans fr2⟩

end Go.Proofs.Ytihjmipmjogpoaa

/- Chapter 2: the law's own held: are both answers the value that it must be? Then the one is written over. -/
namespace Go.Proofs.Ytihjmipmjogpoaa
open Go.RowKit

set_option maxRecDepth 100000 in
set_option maxHeartbeats 8000000 in
theorem held_any (a b c : T) (u : V) (w : World) (lo hi lb hb lc hc : Nat) (ha : a.Sh w lo hi) (hh : hi ≤ w.heap.size) (hl : lo ≤ w.heap.size) (ib : b.In w lb hb) (hhb : hb ≤ w.heap.size) (db : ∀ i, lb ≤ i → i < hb → i ∉ a.blocks) (ic : c.In w lc hc) (hhc : hc ≤ w.heap.size) (dc : ∀ i, lc ≤ i → i < hc → i ∉ a.blocks)
    (ea : a.v = u) (eb : b.v = u) (ec : c.v = u) (hm : u.may = true) : Calls Try.prog 50 #[a.val, b.val, c.val] w fun e w' => e = .returned (.bool true) ∧ Fr (fun i => i ∈ a.blocks) w w' := by
  have hsz : u.size ≤ 512 := by simp [V.may, V.fits] at hm; omega
  have hbl : ∀ i ∈ a.blocks, i < w.heap.size := fun i hi => by have := T.In.blocks a ha.inn i hi; omega
  generalize hBL : a.blocks = bl at *
  cases a with
  | mk k n s A cap l r =>
  cases b with
  | mk k' n' s' A' cap' l' r' =>
  cases c with
  | mk k2 n2 s2 A2 cap2 l2 r2 =>
    rw [T.val_mk, T.val_mk, T.val_mk]
    have fr0 := (((Fr.refl No w).alloc (.cells #[.int .u8 k, .int .i64 n, .string s, .slice A l.length cap, .int .i64 r] 27)).alloc (.cells #[.int .u8 k', .int .i64 n', .string s', .slice A' l'.length cap', .int .i64 r'] 27)).alloc (.cells #[.int .u8 k2, .int .i64 n2, .string s2, .slice A2 l2.length cap2, .int .i64 r2] 27)
    have ba := ((Blk.new w 27 #[.int .u8 k, .int .i64 n, .string s, .slice A l.length cap, .int .i64 r]).alloc (.cells #[.int .u8 k', .int .i64 n', .string s', .slice A' l'.length cap', .int .i64 r'] 27)).alloc (.cells #[.int .u8 k2, .int .i64 n2, .string s2, .slice A2 l2.length cap2, .int .i64 r2] 27)
    have bb := (Blk.new' (w.alloc (.cells #[.int .u8 k, .int .i64 n, .string s, .slice A l.length cap, .int .i64 r] 27)) 27 #[.int .u8 k', .int .i64 n', .string s', .slice A' l'.length cap', .int .i64 r'] (g := w.heap.size + 1) (by simp)).alloc (.cells #[.int .u8 k2, .int .i64 n2, .string s2, .slice A2 l2.length cap2, .int .i64 r2] 27)
    have bc := Blk.new' ((w.alloc (.cells #[.int .u8 k, .int .i64 n, .string s, .slice A l.length cap, .int .i64 r] 27)).alloc (.cells #[.int .u8 k', .int .i64 n', .string s', .slice A' l'.length cap', .int .i64 r'] 27)) 27 #[.int .u8 k2, .int .i64 n2, .string s2, .slice A2 l2.length cap2, .int .i64 r2] (g := w.heap.size + 1 + 1) (by simp)
    obtain ⟨z0, z1, z2, z3, z4, -⟩ := bc.cells5
    have zq := bc.lt
    have ha0 := ha.no fr0
    have ib0 := ib.no fr0 hhb
    have ic0 := ic.no fr0 hhc
    have hs0 := fr0.size
    have HBL := hide hBL
    have HEA := hide ea
    have HEB := hide eb
    have HEC := hide ec
    have HBLT := hide hbl
    have HDB := hide db
    have HDC := hide dc
    have hself := same2_self hm
    have HM := hide hm
    have HSELF := hide hself
    clear hBL ea eb ec hbl db dc hm hself ha ib ic
    have hgoal : ∀ (w1 : World), Fr No ((((w.alloc (.cells #[.int .u8 k, .int .i64 n, .string s, .slice A l.length cap, .int .i64 r] 27)).alloc (.cells #[.int .u8 k', .int .i64 n', .string s', .slice A' l'.length cap', .int .i64 r'] 27)).alloc (.cells #[.int .u8 k2, .int .i64 n2, .string s2, .slice A2 l2.length cap2, .int .i64 r2] 27))) w1 →
        (Blk w1 w.heap.size 27 #[.int .u8 k, .int .i64 n, .string s, .slice A l.length cap, .int .i64 r] ∧ Blk w1 (w.heap.size + 1) 27 #[.int .u8 k', .int .i64 n', .string s', .slice A' l'.length cap', .int .i64 r'] ∧ Blk w1 (w.heap.size + 1 + 1) 27 #[.int .u8 k2, .int .i64 n2, .string s2, .slice A2 l2.length cap2, .int .i64 r2] ∧
          (T.mk k n s A cap l r).Sh w1 lo hi ∧ (T.mk k' n' s' A' cap' l' r').In w1 lb hb ∧ (T.mk k2 n2 s2 A2 cap2 l2 r2).In w1 lc hc ∧ Fr No w w1 ∧ w.heap.size ≤ w1.heap.size) := fun w1 f =>
      ⟨ba.fr f fun h => h, bb.fr f fun h => h, bc.fr f fun h => h, ha0.no f, ib0.no f (by omega), ic0.no f (by omega), fr0.trans f, (fr0.trans f).size⟩
    have HG := hide hgoal
    have fr00 := Fr.refl No ((((w.alloc (.cells #[.int .u8 k, .int .i64 n, .string s, .slice A l.length cap, .int .i64 r] 27)).alloc (.cells #[.int .u8 k', .int .i64 n', .string s', .slice A' l'.length cap', .int .i64 r'] 27)).alloc (.cells #[.int .u8 k2, .int .i64 n2, .string s2, .slice A2 l2.length cap2, .int .i64 r2] 27)))
    obtain ⟨a0, a1, a2, a3, a4, -⟩ := ba.cells5
    obtain ⟨b0, b1, b2, b3, b4, -⟩ := bb.cells5
    have aq := ba.lt
    have bq := bb.lt
    clear hgoal ba bb bc ha0 ib0 ic0 fr0
    by_cases hk : k2 = 0
    · subst hk
      go_enter Try.func50, Try.ntmps50
      go_wp2_with fail
      obtain ⟨-, -, -, s0, -, -, g0, h0⟩ := HG.out _ fr00
      have hmy := refMay_any (T.mk k n s A cap l r) _ lo hi s0.inn (Nat.le_trans hh h0)
      rw [T.val_mk, HEA.out, HM.out] at hmy
      refine hmy.mono ?_
      rintro e w1 ⟨rfl, f1⟩
      clear hmy s0 g0 h0 z0 z1 z2 z3 z4 zq a0 a1 a2 a3 a4 b0 b1 b2 b3 b4 aq bq
      obtain ⟨ba1, bb1, bc1, -⟩ := HG.out w1 f1
      obtain ⟨z0, z1, z2, z3, z4, -⟩ := bc1.cells5
      obtain ⟨a0, a1, a2, a3, a4, -⟩ := ba1.cells5
      have zq := bc1.lt
      have aq := ba1.lt
      clear ba1 bb1 bc1
      go_wp2_with fail
      obtain ⟨-, -, -, s1, i1b, i1c, g1, h1⟩ := HG.out _ f1
      have hsm := refSame_any (T.mk k n s A cap l r) (T.mk 0 n2 s2 A2 cap2 l2 r2) w1 0 (w1).heap.size (T.In.more (Nat.zero_le _) (Nat.le_trans hh h1) _ s1.inn) (T.In.more (Nat.zero_le _) (Nat.le_trans hhc h1) _ i1c) (Nat.le_refl _)
      rw [T.val_mk, T.val_mk, HEA.out, HEC.out, HSELF.out] at hsm
      refine hsm.mono ?_
      rintro e w2 ⟨rfl, f2⟩
      obtain ⟨ba2, bb2, bc2, s2', i2b, i2c, g2, h2⟩ := HG.out w2 ((f1).trans f2)
      clear hsm s1 i1b i1c g1 h1 f2 z0 z1 z2 z3 z4 zq a0 a1 a2 a3 a4 aq
      obtain ⟨a0, a1, a2, a3, a4, -⟩ := ba2.cells5
      have aq := ba2.lt
      have hsp := spoil_any (T.mk k n s A cap l r) w2 lo hi s2' (Nat.le_trans hh h2) (Nat.le_trans hl h2) (by rw [HEA.out]; omega)
      rw [T.val_mk, HBL.out] at hsp
      have HSP := hide hsp
      have HB2 := hide bb2
      have HC2 := hide bc2
      have HIB := hide i2b
      have HIC := hide i2c
      have HG2 := hide g2
      clear hsp ba2 bb2 bc2 s2' i2b i2c g2
      go_wp2_with fail
      refine HSP.out.mono ?_
      rintro e w3 ⟨⟨z, rfl, hz, -⟩, f3⟩
      have hz' : (0 : Int) < (z : Int) := by omega
      clear a0 a1 a2 a3 a4 aq
      have hnb : ∀ i, w.heap.size ≤ i → ¬ i ∈ bl := fun i hi h => by have := HBLT.out i h; omega
      have bb3 := HB2.out.fr f3 (hnb _ (by omega))
      have bc3 := HC2.out.fr f3 (hnb _ (by omega))
      have i3b := HIB.out.fr f3 (Nat.le_trans hhb h2) HDB.out
      have i3c := HIC.out.fr f3 (Nat.le_trans hhc h2) HDC.out
      have hs3 := f3.size
      have HF3 := hide ((HG2.out.no (S := fun i => i ∈ bl)).trans f3)
      obtain ⟨b0, b1, b2, b3, b4, -⟩ := bb3.cells5
      obtain ⟨z0, z1, z2, z3, z4, -⟩ := bc3.cells5
      have bq := bb3.lt
      have zq := bc3.lt
      clear hnb bb3 bc3 f3
      go_wp2_with fail
      have hsm := refSame_any (T.mk k' n' s' A' cap' l' r') (T.mk 0 n2 s2 A2 cap2 l2 r2) w3 0 w3.heap.size (T.In.more (Nat.zero_le _) (by omega) _ i3b) (T.In.more (Nat.zero_le _) (by omega) _ i3c) (Nat.le_refl _)
      rw [T.val_mk, T.val_mk, HEB.out, HEC.out, HSELF.out] at hsm
      refine hsm.mono ?_
      rintro e w4 ⟨rfl, f4⟩
      go_wp2
      go_ret
      exact ⟨rfl, HF3.out.thenNo f4⟩
    · have hk' : (k2 == 0) = false := by simpa using hk
      go_enter Try.func50, Try.ntmps50
      go_wp2_with fail
      clear z0 z1 z2 z3 z4 zq a0 a1 a2 a3 a4 aq b0 b1 b2 b3 b4 bq
      generalize World.alloc (World.alloc (World.alloc w _) _) _ = W0 at *
      obtain ⟨-, -, -, s1, i1b, i1c, g1, h1⟩ := HG.out _ fr00
      have hsm := refSame_any (T.mk k n s A cap l r) (T.mk k2 n2 s2 A2 cap2 l2 r2) W0 0 (W0).heap.size (T.In.more (Nat.zero_le _) (Nat.le_trans hh h1) _ s1.inn) (T.In.more (Nat.zero_le _) (Nat.le_trans hhc h1) _ i1c) (Nat.le_refl _)
      rw [T.val_mk, T.val_mk, HEA.out, HEC.out, HSELF.out] at hsm
      refine hsm.mono ?_
      rintro e w2 ⟨rfl, f2⟩
      obtain ⟨ba2, bb2, bc2, s2', i2b, i2c, g2, h2⟩ := HG.out w2 ((fr00).trans f2)
      clear hsm s1 i1b i1c g1 h1 f2 fr00
      obtain ⟨a0, a1, a2, a3, a4, -⟩ := ba2.cells5
      have aq := ba2.lt
      have hsp := spoil_any (T.mk k n s A cap l r) w2 lo hi s2' (Nat.le_trans hh h2) (Nat.le_trans hl h2) (by rw [HEA.out]; omega)
      rw [T.val_mk, HBL.out] at hsp
      have HSP := hide hsp
      have HB2 := hide bb2
      have HC2 := hide bc2
      have HIB := hide i2b
      have HIC := hide i2c
      have HG2 := hide g2
      clear hsp ba2 bb2 bc2 s2' i2b i2c g2
      go_wp2_with fail
      refine HSP.out.mono ?_
      rintro e w3 ⟨⟨z, rfl, hz, -⟩, f3⟩
      have hz' : (0 : Int) < (z : Int) := by omega
      clear a0 a1 a2 a3 a4 aq
      have hnb : ∀ i, w.heap.size ≤ i → ¬ i ∈ bl := fun i hi h => by have := HBLT.out i h; omega
      have bb3 := HB2.out.fr f3 (hnb _ (by omega))
      have bc3 := HC2.out.fr f3 (hnb _ (by omega))
      have i3b := HIB.out.fr f3 (Nat.le_trans hhb h2) HDB.out
      have i3c := HIC.out.fr f3 (Nat.le_trans hhc h2) HDC.out
      have hs3 := f3.size
      have HF3 := hide ((HG2.out.no (S := fun i => i ∈ bl)).trans f3)
      obtain ⟨b0, b1, b2, b3, b4, -⟩ := bb3.cells5
      obtain ⟨z0, z1, z2, z3, z4, -⟩ := bc3.cells5
      have bq := bb3.lt
      have zq := bc3.lt
      clear hnb bb3 bc3 f3
      go_wp2_with fail
      have hsm := refSame_any (T.mk k' n' s' A' cap' l' r') (T.mk k2 n2 s2 A2 cap2 l2 r2) w3 0 w3.heap.size (T.In.more (Nat.zero_le _) (by omega) _ i3b) (T.In.more (Nat.zero_le _) (by omega) _ i3c) (Nat.le_refl _)
      rw [T.val_mk, T.val_mk, HEB.out, HEC.out, HSELF.out] at hsm
      refine hsm.mono ?_
      rintro e w4 ⟨rfl, f4⟩
      go_wp2
      go_ret
      exact ⟨rfl, HF3.out.thenNo f4⟩

end Go.Proofs.Ytihjmipmjogpoaa

/- Chapter 2: the law's own held, where the value that it must be lies anywhere. -/
namespace Go.Proofs.Ytihjmipmjogpoaa
open Go.RowKit

set_option maxRecDepth 100000 in
set_option maxHeartbeats 8000000 in
theorem heldB_any (a b c : T) (u : V) (w : World) (lo hi lb hb lc hc : Nat) (ha : a.Sh w lo hi) (hh : hi ≤ w.heap.size) (hl : lo ≤ w.heap.size) (ib : b.In w lb hb) (hhb : hb ≤ w.heap.size) (db : ∀ i, lb ≤ i → i < hb → i ∉ a.blocks) (ic : c.In w lc hc) (hhc : hc ≤ w.heap.size) (dc : ∀ i ∈ c.blocks, i ∉ a.blocks)
    (ea : a.v = u) (eb : b.v = u) (ec : c.v = u) (hm : u.may = true) : Calls Try.prog 50 #[a.val, b.val, c.val] w fun e w' => e = .returned (.bool true) ∧ Fr (fun i => i ∈ a.blocks) w w' := by
  have hsz : u.size ≤ 512 := by simp [V.may, V.fits] at hm; omega
  have hbl : ∀ i ∈ a.blocks, i < w.heap.size := fun i hi => by have := T.In.blocks a ha.inn i hi; omega
  generalize hBL : a.blocks = bl at *
  cases a with
  | mk k n s A cap l r =>
  cases b with
  | mk k' n' s' A' cap' l' r' =>
  cases c with
  | mk k2 n2 s2 A2 cap2 l2 r2 =>
    rw [T.val_mk, T.val_mk, T.val_mk]
    have fr0 := (((Fr.refl No w).alloc (.cells #[.int .u8 k, .int .i64 n, .string s, .slice A l.length cap, .int .i64 r] 27)).alloc (.cells #[.int .u8 k', .int .i64 n', .string s', .slice A' l'.length cap', .int .i64 r'] 27)).alloc (.cells #[.int .u8 k2, .int .i64 n2, .string s2, .slice A2 l2.length cap2, .int .i64 r2] 27)
    have ba := ((Blk.new w 27 #[.int .u8 k, .int .i64 n, .string s, .slice A l.length cap, .int .i64 r]).alloc (.cells #[.int .u8 k', .int .i64 n', .string s', .slice A' l'.length cap', .int .i64 r'] 27)).alloc (.cells #[.int .u8 k2, .int .i64 n2, .string s2, .slice A2 l2.length cap2, .int .i64 r2] 27)
    have bb := (Blk.new' (w.alloc (.cells #[.int .u8 k, .int .i64 n, .string s, .slice A l.length cap, .int .i64 r] 27)) 27 #[.int .u8 k', .int .i64 n', .string s', .slice A' l'.length cap', .int .i64 r'] (g := w.heap.size + 1) (by simp)).alloc (.cells #[.int .u8 k2, .int .i64 n2, .string s2, .slice A2 l2.length cap2, .int .i64 r2] 27)
    have bc := Blk.new' ((w.alloc (.cells #[.int .u8 k, .int .i64 n, .string s, .slice A l.length cap, .int .i64 r] 27)).alloc (.cells #[.int .u8 k', .int .i64 n', .string s', .slice A' l'.length cap', .int .i64 r'] 27)) 27 #[.int .u8 k2, .int .i64 n2, .string s2, .slice A2 l2.length cap2, .int .i64 r2] (g := w.heap.size + 1 + 1) (by simp)
    obtain ⟨z0, z1, z2, z3, z4, -⟩ := bc.cells5
    have zq := bc.lt
    have ha0 := ha.no fr0
    have ib0 := ib.no fr0 hhb
    have ic0 := ic.no fr0 hhc
    have hs0 := fr0.size
    have HBL := hide hBL
    have HEA := hide ea
    have HEB := hide eb
    have HEC := hide ec
    have HBLT := hide hbl
    have HDB := hide db
    have HDC := hide dc
    have hself := same2_self hm
    have HM := hide hm
    have HSELF := hide hself
    clear hBL ea eb ec hbl db dc hm hself ha ib ic
    have hgoal : ∀ (w1 : World), Fr No ((((w.alloc (.cells #[.int .u8 k, .int .i64 n, .string s, .slice A l.length cap, .int .i64 r] 27)).alloc (.cells #[.int .u8 k', .int .i64 n', .string s', .slice A' l'.length cap', .int .i64 r'] 27)).alloc (.cells #[.int .u8 k2, .int .i64 n2, .string s2, .slice A2 l2.length cap2, .int .i64 r2] 27))) w1 →
        (Blk w1 w.heap.size 27 #[.int .u8 k, .int .i64 n, .string s, .slice A l.length cap, .int .i64 r] ∧ Blk w1 (w.heap.size + 1) 27 #[.int .u8 k', .int .i64 n', .string s', .slice A' l'.length cap', .int .i64 r'] ∧ Blk w1 (w.heap.size + 1 + 1) 27 #[.int .u8 k2, .int .i64 n2, .string s2, .slice A2 l2.length cap2, .int .i64 r2] ∧
          (T.mk k n s A cap l r).Sh w1 lo hi ∧ (T.mk k' n' s' A' cap' l' r').In w1 lb hb ∧ (T.mk k2 n2 s2 A2 cap2 l2 r2).In w1 lc hc ∧ Fr No w w1 ∧ w.heap.size ≤ w1.heap.size) := fun w1 f =>
      ⟨ba.fr f fun h => h, bb.fr f fun h => h, bc.fr f fun h => h, ha0.no f, ib0.no f (by omega), ic0.no f (by omega), fr0.trans f, (fr0.trans f).size⟩
    have HG := hide hgoal
    have fr00 := Fr.refl No ((((w.alloc (.cells #[.int .u8 k, .int .i64 n, .string s, .slice A l.length cap, .int .i64 r] 27)).alloc (.cells #[.int .u8 k', .int .i64 n', .string s', .slice A' l'.length cap', .int .i64 r'] 27)).alloc (.cells #[.int .u8 k2, .int .i64 n2, .string s2, .slice A2 l2.length cap2, .int .i64 r2] 27)))
    obtain ⟨a0, a1, a2, a3, a4, -⟩ := ba.cells5
    obtain ⟨b0, b1, b2, b3, b4, -⟩ := bb.cells5
    have aq := ba.lt
    have bq := bb.lt
    clear hgoal ba bb bc ha0 ib0 ic0 fr0
    by_cases hk : k2 = 0
    · subst hk
      go_enter Try.func50, Try.ntmps50
      go_wp2_with fail
      obtain ⟨-, -, -, s0, -, -, g0, h0⟩ := HG.out _ fr00
      have hmy := refMay_any (T.mk k n s A cap l r) _ lo hi s0.inn (Nat.le_trans hh h0)
      rw [T.val_mk, HEA.out, HM.out] at hmy
      refine hmy.mono ?_
      rintro e w1 ⟨rfl, f1⟩
      clear hmy s0 g0 h0 z0 z1 z2 z3 z4 zq a0 a1 a2 a3 a4 b0 b1 b2 b3 b4 aq bq
      obtain ⟨ba1, bb1, bc1, -⟩ := HG.out w1 f1
      obtain ⟨z0, z1, z2, z3, z4, -⟩ := bc1.cells5
      obtain ⟨a0, a1, a2, a3, a4, -⟩ := ba1.cells5
      have zq := bc1.lt
      have aq := ba1.lt
      clear ba1 bb1 bc1
      go_wp2_with fail
      obtain ⟨-, -, -, s1, i1b, i1c, g1, h1⟩ := HG.out _ f1
      have hsm := refSame_any (T.mk k n s A cap l r) (T.mk 0 n2 s2 A2 cap2 l2 r2) w1 0 (w1).heap.size (T.In.more (Nat.zero_le _) (Nat.le_trans hh h1) _ s1.inn) (T.In.more (Nat.zero_le _) (Nat.le_trans hhc h1) _ i1c) (Nat.le_refl _)
      rw [T.val_mk, T.val_mk, HEA.out, HEC.out, HSELF.out] at hsm
      refine hsm.mono ?_
      rintro e w2 ⟨rfl, f2⟩
      obtain ⟨ba2, bb2, bc2, s2', i2b, i2c, g2, h2⟩ := HG.out w2 ((f1).trans f2)
      clear hsm s1 i1b i1c g1 h1 f2 z0 z1 z2 z3 z4 zq a0 a1 a2 a3 a4 aq
      obtain ⟨a0, a1, a2, a3, a4, -⟩ := ba2.cells5
      have aq := ba2.lt
      have hsp := spoil_any (T.mk k n s A cap l r) w2 lo hi s2' (Nat.le_trans hh h2) (Nat.le_trans hl h2) (by rw [HEA.out]; omega)
      rw [T.val_mk, HBL.out] at hsp
      have HSP := hide hsp
      have HB2 := hide bb2
      have HC2 := hide bc2
      have HIB := hide i2b
      have HIC := hide i2c
      have HG2 := hide g2
      clear hsp ba2 bb2 bc2 s2' i2b i2c g2
      go_wp2_with fail
      refine HSP.out.mono ?_
      rintro e w3 ⟨⟨z, rfl, hz, -⟩, f3⟩
      have hz' : (0 : Int) < (z : Int) := by omega
      clear a0 a1 a2 a3 a4 aq
      have hnb : ∀ i, w.heap.size ≤ i → ¬ i ∈ bl := fun i hi h => by have := HBLT.out i h; omega
      have bb3 := HB2.out.fr f3 (hnb _ (by omega))
      have bc3 := HC2.out.fr f3 (hnb _ (by omega))
      have i3b := HIB.out.fr f3 (Nat.le_trans hhb h2) HDB.out
      have i3c := In.fr_blocks f3 (Nat.le_trans hhc h2) _ (fun b hb => HDC.out b hb) HIC.out
      have hs3 := f3.size
      have HF3 := hide ((HG2.out.no (S := fun i => i ∈ bl)).trans f3)
      obtain ⟨b0, b1, b2, b3, b4, -⟩ := bb3.cells5
      obtain ⟨z0, z1, z2, z3, z4, -⟩ := bc3.cells5
      have bq := bb3.lt
      have zq := bc3.lt
      clear hnb bb3 bc3 f3
      go_wp2_with fail
      have hsm := refSame_any (T.mk k' n' s' A' cap' l' r') (T.mk 0 n2 s2 A2 cap2 l2 r2) w3 0 w3.heap.size (T.In.more (Nat.zero_le _) (by omega) _ i3b) (T.In.more (Nat.zero_le _) (by omega) _ i3c) (Nat.le_refl _)
      rw [T.val_mk, T.val_mk, HEB.out, HEC.out, HSELF.out] at hsm
      refine hsm.mono ?_
      rintro e w4 ⟨rfl, f4⟩
      go_wp2
      go_ret
      exact ⟨rfl, HF3.out.thenNo f4⟩
    · have hk' : (k2 == 0) = false := by simpa using hk
      go_enter Try.func50, Try.ntmps50
      go_wp2_with fail
      clear z0 z1 z2 z3 z4 zq a0 a1 a2 a3 a4 aq b0 b1 b2 b3 b4 bq
      generalize World.alloc (World.alloc (World.alloc w _) _) _ = W0 at *
      obtain ⟨-, -, -, s1, i1b, i1c, g1, h1⟩ := HG.out _ fr00
      have hsm := refSame_any (T.mk k n s A cap l r) (T.mk k2 n2 s2 A2 cap2 l2 r2) W0 0 (W0).heap.size (T.In.more (Nat.zero_le _) (Nat.le_trans hh h1) _ s1.inn) (T.In.more (Nat.zero_le _) (Nat.le_trans hhc h1) _ i1c) (Nat.le_refl _)
      rw [T.val_mk, T.val_mk, HEA.out, HEC.out, HSELF.out] at hsm
      refine hsm.mono ?_
      rintro e w2 ⟨rfl, f2⟩
      obtain ⟨ba2, bb2, bc2, s2', i2b, i2c, g2, h2⟩ := HG.out w2 ((fr00).trans f2)
      clear hsm s1 i1b i1c g1 h1 f2 fr00
      obtain ⟨a0, a1, a2, a3, a4, -⟩ := ba2.cells5
      have aq := ba2.lt
      have hsp := spoil_any (T.mk k n s A cap l r) w2 lo hi s2' (Nat.le_trans hh h2) (Nat.le_trans hl h2) (by rw [HEA.out]; omega)
      rw [T.val_mk, HBL.out] at hsp
      have HSP := hide hsp
      have HB2 := hide bb2
      have HC2 := hide bc2
      have HIB := hide i2b
      have HIC := hide i2c
      have HG2 := hide g2
      clear hsp ba2 bb2 bc2 s2' i2b i2c g2
      go_wp2_with fail
      refine HSP.out.mono ?_
      rintro e w3 ⟨⟨z, rfl, hz, -⟩, f3⟩
      have hz' : (0 : Int) < (z : Int) := by omega
      clear a0 a1 a2 a3 a4 aq
      have hnb : ∀ i, w.heap.size ≤ i → ¬ i ∈ bl := fun i hi h => by have := HBLT.out i h; omega
      have bb3 := HB2.out.fr f3 (hnb _ (by omega))
      have bc3 := HC2.out.fr f3 (hnb _ (by omega))
      have i3b := HIB.out.fr f3 (Nat.le_trans hhb h2) HDB.out
      have i3c := In.fr_blocks f3 (Nat.le_trans hhc h2) _ (fun b hb => HDC.out b hb) HIC.out
      have hs3 := f3.size
      have HF3 := hide ((HG2.out.no (S := fun i => i ∈ bl)).trans f3)
      obtain ⟨b0, b1, b2, b3, b4, -⟩ := bb3.cells5
      obtain ⟨z0, z1, z2, z3, z4, -⟩ := bc3.cells5
      have bq := bb3.lt
      have zq := bc3.lt
      clear hnb bb3 bc3 f3
      go_wp2_with fail
      have hsm := refSame_any (T.mk k' n' s' A' cap' l' r') (T.mk k2 n2 s2 A2 cap2 l2 r2) w3 0 w3.heap.size (T.In.more (Nat.zero_le _) (by omega) _ i3b) (T.In.more (Nat.zero_le _) (by omega) _ i3c) (Nat.le_refl _)
      rw [T.val_mk, T.val_mk, HEB.out, HEC.out, HSELF.out] at hsm
      refine hsm.mono ?_
      rintro e w4 ⟨rfl, f4⟩
      go_wp2
      go_ret
      exact ⟨rfl, HF3.out.thenNo f4⟩

end Go.Proofs.Ytihjmipmjogpoaa

/- Chapter 2: value.rename: its walk. -/
namespace Go.Proofs.Ytihjmipmjogpoaa
open Go.RowKit Go.Maps Go.ChangeMaps

theorem wf64 {r : Int} (h0 : -9223372036854775808 ≤ r) (h1 : r ≤ 9223372036854775807) : (Lit.int .i64 r).wf = true := by
  simp only [Lit.wf, Bool.and_eq_true, decide_eq_true_eq]
  exact ⟨h0, h1⟩
theorem zero25 (w : World) : (zeroValue 25).run Try.prog w = .ok (.int .i64 0) w := by kernel_rfl
theorem keyed25 : Keyed Try.prog 25 := int_keyed Try.underlying25

/-- Where rename's loop stands. -/
structure RnInv (f : Int → Option Int) (w : World) (lo hi : Nat) (k n : Int) (s : ByteArray) (A : Option Addr) (cap : Nat) (l : List T) (r : Int) (j : Nat) (wr : World) : Prop where
  fr : Fr (fun i => i ∈ (T.mk k n s A cap l r).blocks) w wr
  own : wr.ownsRow lo 27 5 (.slice A l.length cap) l.length (rowCells (renRow f l j))
  sp : ∀ i (h : i < l.length), (j ≤ i → l[i].Sp wr lo hi) ∧ (i < j → (l[i].ren f).Sp wr lo hi)

theorem rn_push {f : Int → Option Int} {w wr w2 : World} {lo hi : Nat} {k n : Int} {s : ByteArray} {g cap : Nat} {l : List T} {r : Int} {j : Nat} {e : Ending} (inv : RnInv f w lo hi k n s (some ⟨g, 0, none⟩) cap l r j wr) (hnd : (T.mk k n s (some ⟨g, 0, none⟩) cap l r).blocks.Nodup) (hj : j < l.length)
    (hlo : ∀ x ∈ l, x.In w lo hi) (hq : RenP f l[j] g (j * 5) lo hi wr e w2) (hn : l[j].v.named f = true) : RnInv f w lo hi k n s (some ⟨g, 0, none⟩) cap l r (j + 1) w2 := by
  have hmem := List.getElem_mem hj
  have hg := sp_child_ne hnd hmem
  have hgm : g ∈ (T.mk k n s (some ⟨g, 0, none⟩) cap l r).blocks := T.mem_blocks (by rintro rfl; simp at hj)
  refine ⟨inv.fr.trans' hq.fr fun i _ h => ?_, ?_, fun i hi => ⟨fun hij => ?_, fun hij => ?_⟩⟩
  · rcases h with h | h
    · rw [h]; exact hgm
    · exact T.sub_blocks hmem h
  · have hat := renRow_at (f := f) hj
    rw [← renRow_set hj]
    cases hx : l[j] with
    | mk k1 n1 s1 A1 c1 l1 r1 =>
      rw [hx] at hat hn hq hg
      obtain ⟨h4, h5⟩ := hq.one k1 n1 s1 A1 c1 l1 r1 rfl hn
      by_cases hk : k1 = 4
      · rw [h4 hk]
        have := (inv.own.stored (j * 5 + 4) (.int .i64 ((f r1).getD 0))).1
        rw [row_set_ref hat ((T.mk k1 n1 s1 A1 c1 l1 r1).ren f) _ (by rw [T.ren_cells, if_pos hk])] at this
        exact this
      · rw [row_set_same hat (by rw [T.ren_cells, if_neg hk]; rfl)]
        exact owns_fr inv.own (h5 hk) fun g' hg' h => by simp [Value.ownBlock] at hg'; subst hg'; exact hg h
  · refine T.Sp.fr hq.fr _ (fun b hb h => ?_) ((inv.sp i hi).1 (by omega))
    rcases h with h | h
    · subst h; exact sp_child_ne hnd (List.getElem_mem hi) hb
    · exact sp_child_far hnd hj hi (by omega) hb h
  · by_cases hij' : i = j
    · subst hij'; exact hq.sp hn
    · refine T.Sp.fr hq.fr _ (fun b hb h => ?_) ((inv.sp i hi).2 (by omega))
      rw [T.ren_blocks] at hb
      rcases h with h | h
      · subst h; exact sp_child_ne hnd (List.getElem_mem hi) hb
      · exact sp_child_far hnd hi hj (by omega) h hb

set_option maxRecDepth 100000 in
set_option maxHeartbeats 8000000 in
theorem rename_any (f : Int → Option Int) (m : Nat) (x : T) : ∀ (b o lo hi : Nat) (w : World), (∀ j u, x.cells[j]? = some u → w.cell? ⟨b, o + j, none⟩ = some u) → (∀ i, w.frozen? ⟨b, i, none⟩ = false) → b < w.heap.size → x.Sp w lo hi → x.blocks.Nodup → b ∉ x.blocks → hi ≤ w.heap.size → Names w m f → m ≠ b → m ∉ x.blocks →
    Calls Try.prog 129 #[.pointer (some ⟨b, o, none⟩), .map (some m)] w (RenP f x b o lo hi w) := by
  induction x using T.ind with
  | h k n s A cap l r ih =>
    intro b o lo hi w hc hfz hb hsp hnd hbx hh hnm hmb hmx
    have fit := (T.sp_mk.1 hsp).1
    have hlen := fit.len1
    have c0 : w.cell? ⟨b, o, none⟩ = some (.int .u8 k) := hc 0 _ rfl
    have c3 : w.cell? ⟨b, o + 3, none⟩ = some (.slice A l.length cap) := hc 3 _ rfl
    have c4 : w.cell? ⟨b, o + 4, none⟩ = some (.int .i64 r) := hc 4 _ rfl
    have f4 := hfz (o + 4)
    by_cases hk : k = 4
    · subst hk
      have hr0 := fit.r0
      have hr1 := fit.r1
      have hnamed : (T.mk 4 n s A cap l r).v.named f = (f r).isSome := by rw [T.v_mk, V.named_mk, if_pos rfl]
      have hsp' : ((T.mk 4 n s A cap l r).ren f) = T.mk 4 n s A cap l ((f r).getD 0) := by rw [T.ren_mk, if_pos rfl]
      obtain ⟨nn, D, hown, hlook⟩ := hnm
      obtain ⟨hl1, hl2⟩ := hlook r hr0 hr1
      have hkey : keyOf Try.prog 25 (.int .i64 r) = some (.int .i64 r) := keyOf_int_mk Try.underlying25 (wf64 hr0 hr1)
      have hP : ∀ c : Int, D.atKey (.int .i64 r) (.lit (.int .i64 0)) = .lit (.int .i64 c) → (Lit.int .i64 c).wf = true → c = (f r).getD 0 ∧ RenP f (T.mk 4 n s A cap l r) b o lo hi w (.returned (.bool (Maps.has D (.int .i64 r)))) (w.setCell ⟨b, o + 4, none⟩ (.int .i64 c)) := by
        intro c h1 h2
        rw [hl2] at h1
        simp only [DataW.lit.injEq, Lit.int.injEq, true_and] at h1
        subst h1
        have hF := (Fr.refl (fun i => i = b ∨ i ∈ (T.mk 4 n s A cap l r).blocks) w).set (p := ⟨b, o + 4, none⟩) (fun _ => .inl rfl) (.int .i64 ((f r).getD 0))
        refine ⟨rfl, ?_, hF, fun k' n' s' A' cap' l' r' hx _ => ?_, fun _ => ?_⟩
        · rw [hnamed, hl1]
        · injection hx with e1 e2 e3 e4 e5 e6 e7
          subst e1 e7
          exact ⟨fun _ => rfl, fun h => absurd rfl h⟩
        · rw [hsp']
          have h3 := T.Sp.fr ((Fr.refl (fun i => i = b) w).set (p := ⟨b, o + 4, none⟩) (fun _ => rfl) (.int .i64 ((f r).getD 0))) _ (fun i hi h => by have h' : i = b := h; subst h'; exact hbx hi) hsp
          rw [T.sp_mk] at h3 ⊢
          simp only [Lit.wf, Bool.and_eq_true, decide_eq_true_eq] at h2
          exact ⟨⟨fit.k0, fit.k1, fit.n0, fit.n1, fit.s1, fit.len1, fit.cap1, h2.1, h2.2⟩, h3.2⟩
      have HP := hide hP
      clear hP hlook hl1 hl2 hnamed hsp' ih hc hfz
      go_enter Try.func129, Try.ntmps129
      go_wp2_with (at_lookup; refine wpList_lookup_own_ok_int _ rfl _ _ 167 rfl 25 25 .i64 keyed25 Try.underlying167 Try.underlying25 (zero25 _) m nn D rfl hown _ _ rfl hkey ?_; intro c hat hwf; have HQ := hide (HP.out c hat hwf); clear hat hwf)
      go_ret
      exact HQ.out.2
    · have hk4 : (k == 4) = false := by simpa using hk
      have hnamed : (T.mk k n s A cap l r).v.named f = (l.map T.v).all (V.named f) := by rw [T.v_mk, V.named_mk, if_neg hk]
      have hren : ((T.mk k n s A cap l r).ren f) = T.mk k n s A cap (l.map (T.ren f)) r := by rw [T.ren_mk, if_neg hk]
      have hin := T.Sp.inn _ hsp
      have hlo : ∀ x ∈ l, x.In w lo hi := (T.in_mk.1 hin).2.2
      have hspm := T.sp_mk.1 hsp
      have hAg : l ≠ [] → ∃ g, A = some ⟨g, 0, none⟩ ∧ g < hi := fun hl => (hspm.2.2.1 hl).2
      have hbl : ∀ i ∈ (T.mk k n s A cap l r).blocks, i < w.heap.size := fun i hi => by have := T.In.blocks _ hin i hi; omega
      have hinv0 : RnInv f w lo hi k n s A cap l r 0 w := by
        refine ⟨Fr.refl _ w, ?_, fun i h => ⟨fun _ => hspm.2.2.2 _ (List.getElem_mem h), fun h => by omega⟩⟩
        rw [renRow_zero]
        by_cases hl : l = []
        · obtain ⟨h1, h2⟩ := hspm.2.1 hl
          subst hl h1 h2
          exact World.ownsRow_nil _ _ _ _
        · exact (hspm.2.2.1 hl).1
      have HNM := hide hnm
      have HFZ := hide hfz
      have HBX := hide hbx
      have HMX := hide hmx
      have HREN := hide hren
      have HND := hide hnd
      have HNA := hide hnamed
      have HSM := hide hspm
      clear hc hfz hren hnamed hsp hspm hnm
      go_enter Try.func129, Try.ntmps129
      go_wp2_with fail
      go_loopw [7, 32] (fun _ i wr => ∃ j : Nat, j ≤ l.length ∧ i = .int .i64 j ∧ RnInv f w lo hi k n s A cap l r j wr ∧ ∀ v ∈ (l.map T.v).take j, v.named f = true) (fun _ i _ => l.length - (intOf i).toNat)
      case atStart => exact ⟨0, Nat.zero_le _, rfl, hinv0, by simp⟩
      case round =>
        obtain ⟨j, hj, rfl, inv, hall⟩ := hrel
        have hsz := inv.fr.size
        have c0' := (inv.fr.cell (b := b) (o := o) (s := none) hb HBX.out).trans c0
        have c3' := (inv.fr.cell (b := b) (o := o + 3) (s := none) hb HBX.out).trans c3
        have hbr : b < wr.heap.size := by omega
        have HALL := hide hall
        clear hall
        by_cases hlt : j < l.length
        · obtain ⟨g, rfl, hg⟩ := hAg (by rintro rfl; simp at hlt)
          have hmem := List.getElem_mem hlt
          have hj' : j < (l.map T.v).length := by simpa using hlt
          have htk : (l.map T.v).take (j + 1) = (l.map T.v).take j ++ [l[j].v] := by rw [List.take_succ_eq_append_getElem hj', List.getElem_map]
          have hgb : g ∈ (T.mk k n s (some ⟨g, 0, none⟩) cap l r).blocks := T.mem_blocks (by rintro rfl; simp at hlt)
          have hcl : ∀ c u, l[j].cells[c]? = some u → wr.cell? ⟨g, j * 5 + c, none⟩ = some u := fun c u hu => by
            have := World.ownsRow.cells inv.own (g := g) rfl _ _ (rowCells_get _ j c _ u (renRow_at hlt) hu)
            rwa [add_at, Nat.zero_add] at this
          have hcase := ih l[j] hmem g (j * 5) lo hi wr hcl (fun i => inv.own.frozenAt i) (owns_lt inv.own g rfl).2 ((inv.sp j hlt).1 (Nat.le_refl _)) (sp_child_nodup HND.out hmem) (sp_child_ne HND.out hmem) (by omega)
            (HNM.out.fr inv.fr HMX.out) (fun h => by subst h; exact HMX.out hgb) (fun h => HMX.out (T.sub_blocks hmem h))
          have HC := hide hcase
          have hpush := fun e w2 hq hn => rn_push (e := e) (w2 := w2) inv HND.out hlt hlo hq hn
          have hno : l[j].v.named f = false → ∀ e w2, RenP f l[j] g (j * 5) lo hi wr e w2 → RenP f (T.mk k n s (some ⟨g, 0, none⟩) cap l r) b o lo hi w (.returned (.bool false)) w2 := fun hn e w2 hq => by
            have hnn : (T.mk k n s (some ⟨g, 0, none⟩) cap l r).v.named f = false := by
              rw [HNA.out, Bool.eq_false_iff]
              intro h
              have := List.all_eq_true.1 h _ (List.mem_map_of_mem hmem)
              rw [hn] at this
              cases this
            have hF : Fr (fun i => i = b ∨ i ∈ (T.mk k n s (some ⟨g, 0, none⟩) cap l r).blocks) w w2 := (inv.fr.mono fun i _ h => Or.inr h).trans' hq.fr fun i _ h => by
              rcases h with h | h
              · rw [h]; exact Or.inr hgb
              · exact Or.inr (T.sub_blocks hmem h)
            exact ⟨by rw [hnn], hF, fun _ _ _ _ _ _ _ _ h => absurd (hnn.symm.trans h) (by decide), fun h => absurd (hnn.symm.trans h) (by decide)⟩
          have HPU := hide hpush
          have HNO := hide hno
          have HTK := hide htk
          generalize hxx : l[j] = x at *
          clear hpush hno htk hcase hcl ih inv hinv0 hmem hxx
          go_wp2_with fail
          refine HC.out.mono ?_
          rintro e w2 hq
          have he := hq.e
          subst he
          have HQ := hide hq
          clear hq
          cases hn : x.v.named f with
          | false =>
            have HP := hide (HNO.out hn _ _ HQ.out)
            clear hn
            go_wp2
            go_ret
            exact HP.out
          | true =>
            have HP := hide (HPU.out _ _ HQ.out hn)
            have HN := hide hn
            clear hn
            go_wp2
            go_roundw
            case rel =>
              refine ⟨j + 1, hlt, by go_num, HP.out, fun v hv => ?_⟩
              rw [HTK.out] at hv
              rcases List.mem_append.1 hv with hv | hv
              · exact HALL.out v hv
              · simp at hv; subst hv; exact HN.out
            case measure => simp [intOf]; omega
        · obtain rfl : l.length = j := by omega
          have hnn : (T.mk k n s A cap l r).v.named f = true := by
            rw [HNA.out]
            exact List.all_eq_true.2 fun v hv => HALL.out v (by rw [List.take_of_length_le (by simp)]; exact hv)
          have hP : RenP f (T.mk k n s A cap l r) b o lo hi w (.returned (.bool true)) wr := by
            refine ⟨by rw [hnn], inv.fr.mono fun i _ h => .inr h, fun k' n' s' A' cap' l' r' hx _ => ?_, fun _ => ?_⟩
            · injection hx with e1
              subst e1
              exact ⟨fun h => absurd h hk, fun _ => inv.fr⟩
            · rw [HREN.out, T.sp_mk]
              have hown := inv.own
              rw [renRow_all] at hown
              refine ⟨by simpa using HSM.out.1, fun h => HSM.out.2.1 (by simpa using h), fun h => ⟨by simpa using hown, (HSM.out.2.2.1 (by simpa using h)).2⟩, fun y hy => ?_⟩
              obtain ⟨z, hz, rfl⟩ := List.mem_map.1 hy
              obtain ⟨i, hi', rfl⟩ := List.mem_iff_getElem.1 hz
              exact (inv.sp i hi').2 hi'
          have HP := hide hP
          clear hP inv ih hinv0 hAg hlo hin hbl
          go_wp2
          go_ret
          exact HP.out

end Go.Proofs.Ytihjmipmjogpoaa

/- Texts joined: Bt20, Bt21. -/
import Derived.Test.YtihjmipmjogpoaaJn16
/- BrandTables: one step, by both. -/
namespace Go.Proofs.Ytihjmipmjogpoaa
open Go.RowKit
attribute [local go_sem ↓] Go.wp_at_zero Go.wp_at_succ

theorem Blk.cells13 {w : World} {g : Nat} {t : TypeId} {x0 x1 x2 a b c d e a' b' c' d' e' : Value} (h : Blk w g t #[x0, x1, x2, a, b, c, d, e, a', b', c', d', e']) :
    w.cell? ⟨g, 0, none⟩ = some x0 ∧ w.cell? ⟨g, 1, none⟩ = some x1 ∧ w.cell? ⟨g, 2, none⟩ = some x2 ∧ w.cell? ⟨g, 3, none⟩ = some a ∧ w.cell? ⟨g, 4, none⟩ = some b ∧ w.cell? ⟨g, 5, none⟩ = some c ∧ w.cell? ⟨g, 6, none⟩ = some d ∧ w.cell? ⟨g, 7, none⟩ = some e ∧
      w.cell? ⟨g, 8, none⟩ = some a' ∧ w.cell? ⟨g, 9, none⟩ = some b' ∧ w.cell? ⟨g, 10, none⟩ = some c' ∧ w.cell? ⟨g, 11, none⟩ = some d' ∧ w.cell? ⟨g, 12, none⟩ = some e' :=
  ⟨h.cell 0, h.cell 1, h.cell 2, h.cell 3, h.cell 4, h.cell 5, h.cell 6, h.cell 7, h.cell 8, h.cell 9, h.cell 10, h.cell 11, h.cell 12⟩

/-- Where the key and the value lie. -/
def TwoAt (w0 : World) (X Y : Array Value) (s7 s8 : Value) (wx : World) : Prop :=
  ∃ g7 g8 : Nat, s7 = .pointer (some ⟨g7, 0, none⟩) ∧ s8 = .pointer (some ⟨g8, 0, none⟩) ∧ g7 ≠ g8 ∧ w0.heap.size ≤ g7 ∧ w0.heap.size ≤ g8 ∧ Blk wx g7 27 X ∧ Blk wx g8 27 Y ∧ Fr No w0 wx

theorem two_at1 (w0 : World) (X Y : Array Value) : TwoAt w0 X Y (.pointer (some ⟨w0.heap.size, 0, none⟩)) (.pointer (some ⟨w0.heap.size + 1, 0, none⟩)) ((w0.alloc (.cells X 27)).alloc (.cells Y 27)).drew :=
  ⟨_, _, rfl, rfl, by omega, Nat.le_refl _, Nat.le_succ _, ((Blk.new' w0 27 X rfl).alloc _).drew, (Blk.new' (w0.alloc _) 27 Y (by simp)).drew, (((Fr.refl No w0).alloc _).alloc _).drew⟩

theorem two_at2 (w0 : World) (X Y : Array Value) : TwoAt w0 X Y (.pointer (some ⟨w0.heap.size + 1, 0, none⟩)) (.pointer (some ⟨w0.heap.size, 0, none⟩)) ((w0.alloc (.cells Y 27)).alloc (.cells X 27)).drew :=
  ⟨_, _, rfl, rfl, by omega, Nat.le_succ _, Nat.le_refl _, (Blk.new' (w0.alloc _) 27 X (by simp)).drew, ((Blk.new' w0 27 Y rfl).alloc _).drew, (((Fr.refl No w0).alloc _).alloc _).drew⟩

/-- What lies in a box behind 'own, if it may be'. -/
structure KeyAt (hi0 lo1 : Nat) (u : V) (g : Nat) (W1 : World) (t : T) (wx : World) : Prop where
  v : t.v = u
  ow : u.may = true → t.Ow wx lo1 wx.heap.size
  inn : t.In wx 0 wx.heap.size
  bl : ∀ b ∈ t.blocks, b < hi0 ∨ lo1 ≤ b
  box : Blk wx g 27 t.cells.toArray
  fr : Fr (fun i => i = g) W1 wx

theorem key_own {hi0 g : Nat} {u : V} {w1 w2 w3 : World} {k n : Int} {s : ByteArray} {A : Option Addr} {cap : Nat} {l : List T} {r : Int} {a b c d e : Value} (hv : (T.mk k n s A cap l r).v = u) (sh : (T.mk k n s A cap l r).Sh w3 w2.heap.size w3.heap.size) (hb : Blk w3 g 27 #[a, b, c, d, e]) (f : Fr No w1 w3) (f12 : Fr No w1 w2) (hg : g < w1.heap.size) :
    KeyAt hi0 w1.heap.size u g w1 (T.mk k n s A cap l r) (((((w3.setCell ⟨g, 0, none⟩ (.int .u8 k)).setCell ⟨g, 1, none⟩ (.int .i64 n)).setCell ⟨g, 2, none⟩ (.string s)).setCell ⟨g, 3, none⟩ (.slice A l.length cap)).setCell ⟨g, 4, none⟩ (.int .i64 r)) := by
  have hs := f12.size
  have fx := (sets5 w3 g 27 a b c d e (.int .u8 k) (.int .i64 n) (.string s) (.slice A l.length cap) (.int .i64 r) hb).2
  have hbl : ∀ b ∈ (T.mk k n s A cap l r).blocks, w2.heap.size ≤ b ∧ b < w3.heap.size := fun b hb => T.In.blocks _ sh.inn b hb
  have hns : ∀ b ∈ (T.mk k n s A cap l r).blocks, ¬ b = g := fun b hb h => by have := hbl b hb; omega
  have ow := ((sh.ow.frB fx (Nat.le_refl _) hns).more (lo' := w1.heap.size) hs fx.size)
  exact ⟨hv, fun _ => ow, T.In.more (Nat.zero_le _) (Nat.le_refl _) _ ow.inn, fun b hb => .inr (by have := hbl b hb; omega), (sets5 w3 g 27 _ _ _ _ _ _ _ _ _ _ hb).1, f.no.trans fx⟩

theorem key_old {hi0 g : Nat} {u : V} {w1 w2 : World} {t : T} (hv : t.v = u) (hm : u.may = false) (hin : t.In w2 0 hi0) (hh : hi0 ≤ w2.heap.size) (hb : Blk w2 g 27 t.cells.toArray) (f : Fr No w1 w2) : KeyAt hi0 w1.heap.size u g w1 t w2 :=
  ⟨hv, fun h => (by rw [hm] at h; cases h), T.In.more (Nat.le_refl _) hh _ hin, fun b hb => .inl (T.In.blocks _ hin b hb).2, hb, f.no⟩

theorem KeyAt.fr' {hi0 lo1 g g' : Nat} {u : V} {W1 W2 wx : World} {t : T} (h : KeyAt hi0 lo1 u g W1 t W2) (f : Fr (fun i => i = g') W2 wx) (hg : hi0 ≤ g') (hg1 : g' < lo1) (hne : g ≠ g') : t.v = u ∧ (u.may = true → t.Ow wx lo1 wx.heap.size) ∧ t.In wx 0 wx.heap.size ∧ Blk wx g 27 t.cells.toArray :=
  ⟨h.v, fun hm => ((h.ow hm).frB f (Nat.le_refl _) fun b hb => by have := h.bl b hb; omega).more (Nat.le_refl _) f.size, T.In.more (Nat.le_refl _) f.size _ (h.inn.frB f (Nat.le_refl _) fun b hb => by have := h.bl b hb; omega), h.box.fr f hne⟩

set_option maxRecDepth 100000 in
set_option maxHeartbeats 8000000 in
theorem step_any (p : PT) (s : Stp) (w : World) (lo hi0 n : Nat) (h : p.Ok lo hi0 n w) (hn : n < 1000) (hk : s.k.In w 0 hi0) (hv : s.v.In w 0 hi0) (hl : I64 s.leave) :
    Calls Try.prog 33 #[.pointer (some ⟨p.tb, 0, none⟩), .pointer (some ⟨p.rb, 0, none⟩), s.val] w fun e w' => e = .returned (.bool true) ∧ ∃ p', p.Next p' lo hi0 n w w' := by
  have hh0 : hi0 ≤ w.heap.size := Nat.le_trans h.h0 h.hl
  obtain ⟨how, on, leave, ⟨k1, n1, s1, A1, c1, l1, r1⟩, ⟨k2, n2, s2, A2, c2, l2, r2⟩⟩ := s
  simp only at hk hv hl
  have hval : (Stp.mk how on leave (.mk k1 n1 s1 A1 c1 l1 r1) (.mk k2 n2 s2 A2 c2 l2 r2)).val = .agg #[.int .i64 how, .int .i64 on, .int .i64 leave, .int .u8 k1, .int .i64 n1, .string s1, .slice A1 l1.length c1, .int .i64 r1, .int .u8 k2, .int .i64 n2, .string s2, .slice A2 l2.length c2, .int .i64 r2] := rfl
  rw [hval]
  clear hval
  have HOK := hide h
  have HK := hide hk
  have HV := hide hv
  have HL := hide hl
  have HH0 := hide hh0
  have hb5 := Blk.new' w 58 #[.int .i64 how, .int .i64 on, .int .i64 leave, .int .u8 k1, .int .i64 n1, .string s1, .slice A1 l1.length c1, .int .i64 r1, .int .u8 k2, .int .i64 n2, .string s2, .slice A2 l2.length c2, .int .i64 r2] rfl
  have HF0 := hide ((Fr.refl No w).alloc (.cells #[.int .i64 how, .int .i64 on, .int .i64 leave, .int .u8 k1, .int .i64 n1, .string s1, .slice A1 l1.length c1, .int .i64 r1, .int .u8 k2, .int .i64 n2, .string s2, .slice A2 l2.length c2, .int .i64 r2] 58))
  obtain ⟨e0, e1, e2, e3, e4, e5, e6, e7, e8, e9, e10, e11, e12⟩ := hb5.cells13
  have q5 := hb5.lt
  have HB5 := hide hb5
  clear h hk hv hl hh0 hb5
  go_enter Try.func33, Try.ntmps33
  go_upto_region 1 with (fail)
  generalize World.alloc w _ = w0 at *
  go_cut [7, 8] from 25 to 177 (fun s7 s8 wx => TwoAt w0 #[.int .u8 k1, .int .i64 n1, .string s1, .slice A1 l1.length c1, .int .i64 r1] #[.int .u8 k2, .int .i64 n2, .string s2, .slice A2 l2.length c2, .int .i64 r2] s7 s8 wx)
  case first =>
    go_region
    all_goals
      go_simp
      go_wp2_with fail
      go_meet
      first | exact two_at1 _ _ _ | exact two_at2 _ _ _
  obtain ⟨g7, g8, rfl, rfl, hne, hg7, hg8, hb7, hb8, hfA⟩ := hcut
  obtain ⟨w1, rfl⟩ : ∃ w1 : World, w1 = wc := ⟨_, rfl⟩
  clear e0 e1 e2 e3 e4 e5 e6 e7 e8 e9 e10 e11 e12 q5
  have hM1 := fun W (f : Fr (fun i => w.heap.size ≤ i) w W) => rmay_any _ W 0 hi0 (HK.out.fr f HH0.out fun i _ hi => by have := HH0.out; omega) (Nat.le_trans HH0.out f.size)
  have hM2 := fun W (f : Fr (fun i => w.heap.size ≤ i) w W) => rmay_any _ W 0 hi0 (HV.out.fr f HH0.out fun i _ hi => by have := HH0.out; omega) (Nat.le_trans HH0.out f.size)
  have hO1 := fun W (f : Fr (fun i => w.heap.size ≤ i) w W) => own4_any _ W 0 hi0 (HK.out.fr f HH0.out fun i _ hi => by have := HH0.out; omega) (Nat.le_trans HH0.out f.size)
  have hO2 := fun W (f : Fr (fun i => w.heap.size ≤ i) w W) => own4_any _ W 0 hi0 (HV.out.fr f HH0.out fun i _ hi => by have := HH0.out; omega) (Nat.le_trans HH0.out f.size)
  have hK0 := fun b hb => (T.In.blocks _ HK.out b hb).2
  have hV0 := fun b hb => (T.In.blocks _ HV.out b hb).2
  rw [T.val_mk] at hM1 hM2 hO1 hO2
  generalize hu : (T.mk k1 n1 s1 A1 c1 l1 r1).v = u at hM1 hO1
  generalize hu2 : (T.mk k2 n2 s2 A2 c2 l2 r2).v = u2 at hM2 hO2
  have HM1 := hide hM1
  have HM2 := hide hM2
  have HO1 := hide hO1
  have HO2 := hide hO2
  have HK0 := hide hK0
  have HV0 := hide hV0
  have HU := hide hu
  have HU2 := hide hu2
  have HF1 := hide (HF0.out.trans hfA)
  have HB51 := hide (HB5.out.fr hfA fun h => h)
  have HFA := hide hfA
  have HB7 := hide hb7
  have HB8 := hide hb8
  obtain ⟨e0, e1, e2, e3, e4, ef⟩ := hb7.cells5
  have q7 := hb7.lt
  clear hM1 hM2 hO1 hO2 hK0 hV0 hu hu2 hfA hb7 hb8
  go_wp2_with fail
  refine (HM1.out w1 HF1.out.no).mono ?_
  rintro e w2 ⟨rfl, f2⟩
  go_upto_if 30 with (fail)
  have hb7 := HB7.out.fr f2 fun h => h
  clear e0 e1 e2 e3 e4 ef q7
  obtain ⟨e0, e1, e2, e3, e4, ef⟩ := hb7.cells5
  have q7 := hb7.lt
  have HB72 := hide hb7
  have F2 := hide f2
  clear hb7 f2
  go_cut [] from 25 to 177 (fun wx => ∃ t, KeyAt hi0 w1.heap.size u g7 w1 t wx)
  case first =>
    cases hm : u.may with
    | true =>
      go_wp2_with fail
      refine (HO1.out w2 (HF1.out.trans F2.out).no).mono ?_
      rintro e w3 ⟨⟨k3, n3, s3, A3, c3, l3, r3⟩, rfl, hv3, sh3, f3⟩
      rw [T.val_mk]
      have hb7 := HB72.out.fr f3 fun h => h
      clear e0 e1 e2 e3 e4 ef q7
      obtain ⟨e0, e1, e2, e3, e4, ef⟩ := hb7.cells5
      have q7 := hb7.lt
      have HV3 := hide hv3
      have HS3 := hide sh3
      have F3 := hide (F2.out.trans f3)
      have HB73 := hide hb7
      clear hv3 sh3 f3 hb7
      go_wp2_with fail
      go_meet
      exact ⟨_, key_own HV3.out HS3.out HB73.out F3.out F2.out HB7.out.lt⟩
    | false =>
      go_wp2_with fail
      go_meet
      exact ⟨_, key_old HU.out hm (HK.out.no (HF1.out.trans F2.out) HH0.out) (Nat.le_trans HH0.out (HF1.out.trans F2.out).size) HB72.out F2.out⟩
  obtain ⟨⟨k3, n3, s3, A3, c3, l3, r3⟩, hK3⟩ := hcut
  obtain ⟨w3, rfl⟩ : ∃ w3 : World, w3 = wc := ⟨_, rfl⟩
  clear e0 e1 e2 e3 e4 ef q7
  have F13 := hide hK3.fr
  have HB83 := hide (HB8.out.fr hK3.fr fun h => hne h.symm)
  have HB53 := hide (HB51.out.fr hK3.fr fun h => by have := HB5.out.lt; omega)
  have HK3 := hide hK3
  have hf3 : Fr (fun i => w.heap.size ≤ i) w w3 := (HF1.out.no).trans' hK3.fr fun i hi h => by subst h; have := HF0.out.size; omega
  have HF3 := hide hf3
  obtain ⟨e0, e1, e2, e3, e4, ef⟩ := HB83.out.cells5
  have q8 := HB83.out.lt
  have HNE := hide hne
  have HG7 := hide hg7
  have HG8 := hide hg8
  clear hK3 hf3 hne hg7 hg8
  go_wp2_with fail
  refine (HM2.out w3 HF3.out).mono ?_
  rintro e w4 ⟨rfl, f4⟩
  go_upto_if 34 with (fail)
  have hb8 := HB83.out.fr f4 fun h => h
  clear e0 e1 e2 e3 e4 ef q8
  obtain ⟨e0, e1, e2, e3, e4, ef⟩ := hb8.cells5
  have q8 := hb8.lt
  have HB84 := hide hb8
  have F4 := hide f4
  clear hb8 f4
  go_cut [] from 25 to 177 (fun wx => ∃ t, KeyAt hi0 w3.heap.size u2 g8 w3 t wx)
  case first =>
    cases hm : u2.may with
    | true =>
      go_wp2_with fail
      refine (HO2.out w4 (HF3.out.trans F4.out.no)).mono ?_
      rintro e w5 ⟨⟨k4, n4, s4, A4, c4, l4, r4⟩, rfl, hv3, sh3, f3⟩
      rw [T.val_mk]
      have hb8 := HB84.out.fr f3 fun h => h
      clear e0 e1 e2 e3 e4 ef q8
      obtain ⟨e0, e1, e2, e3, e4, ef⟩ := hb8.cells5
      have q8 := hb8.lt
      have HV3 := hide hv3
      have HS3 := hide sh3
      have F5 := hide (F4.out.trans f3)
      have HB85 := hide hb8
      clear hv3 sh3 f3 hb8
      go_wp2_with fail
      go_meet
      exact ⟨_, key_own HV3.out HS3.out HB85.out F5.out F4.out HB83.out.lt⟩
    | false =>
      go_wp2_with fail
      go_meet
      exact ⟨_, key_old HU2.out hm (HV.out.fr (HF3.out.trans F4.out.no) HH0.out fun i _ hi => by have := HH0.out; omega) (Nat.le_trans HH0.out (HF3.out.trans F4.out.no).size) HB84.out F4.out⟩
  obtain ⟨⟨k4, n4, s4, A4, c4, l4, r4⟩, hK4⟩ := hcut
  obtain ⟨w5, rfl⟩ : ∃ w5 : World, w5 = wc := ⟨_, rfl⟩
  clear e0 e1 e2 e3 e4 ef q8
  have hz0 := HF0.out.size
  have hz1 := HFA.out.size
  have hz13 := F13.out.size
  have hz35 := hK4.fr.size
  have hg8 := HG8.out
  have hg7 := HG7.out
  have hlt5 := HB5.out.lt
  have hhw := HH0.out
  obtain ⟨hv7, how7, hin7, hb75⟩ := HK3.out.fr' hK4.fr (by omega) (HB8.out.lt) HNE.out
  have hbl7 := HK3.out.bl
  have hup7 : ∀ b ∈ (T.mk k3 n3 s3 A3 c3 l3 r3).blocks, b < w3.heap.size := fun b hb => (T.In.blocks _ HK3.out.inn b hb).2
  have hf5 : Fr (fun i => w.heap.size ≤ i) w w5 := HF3.out.trans' hK4.fr fun i hi h => by subst h; omega
  have hok5 := HOK.out.fr hf5 (fun i hi h => by have := (HOK.out.lt i hi).2; omega) (fun i hi h => by omega)
  have hb55 := HB53.out.fr hK4.fr fun h => by omega
  have hb85 := hK4.box
  have hW := fun W (f : Fr (fun i => lo ≤ i) w W) => wrong_any _ _ W 0 hi0 0 hi0 (HK.out.fr f HH0.out fun i _ hi => by have := HOK.out.h0; omega) (Nat.le_trans HH0.out f.size) (HV.out.fr f HH0.out fun i _ hi => by have := HOK.out.h0; omega) (Nat.le_trans HH0.out f.size)
  have hW0 := fun W (f : Fr (fun i => lo ≤ i) w W) => wrong_any _ T.zero W 0 hi0 0 0 (HK.out.fr f HH0.out fun i _ hi => by have := HOK.out.h0; omega) (Nat.le_trans HH0.out f.size) (T.zero_ow _ _ _).inn (Nat.zero_le _)
  have HKI := hide (fun W (f : Fr (fun i => lo ≤ i) w W) => HK.out.fr f HH0.out fun i _ hi => by have := HOK.out.h0; omega)
  have HVI := hide (fun W (f : Fr (fun i => lo ≤ i) w W) => HV.out.fr f HH0.out fun i _ hi => by have := HOK.out.h0; omega)
  rw [T.val_mk, T.val_mk, HU.out, HU2.out] at hW
  rw [T.val_mk, T.zero_val, HU.out, T.zero_v, putErr_get] at hW0
  have HW := hide hW
  have HW0 := hide hW0
  have HV7 := hide hv7
  have HOW7 := hide how7
  have HIN7 := hide hin7
  have HB75 := hide hb75
  have HBL7 := hide hbl7
  have HUP7 := hide hup7
  have HV8 := hide hK4.v
  have HOW8 := hide hK4.ow
  have HIN8 := hide hK4.inn
  have HBL8 := hide hK4.bl
  have HB85 := hide hb85
  have HB55 := hide hb55
  have HF5 := hide hf5
  have HOK5 := hide hok5
  have hl7 := HB7.out.lt
  have hl8 := HB8.out.lt
  have HZ := hide (⟨hl7, hl8, hz0, hz1, hz13, hz35, hg7, hg8, hlt5, hhw⟩ : g7 < w1.heap.size ∧ g8 < w1.heap.size ∧ w.heap.size ≤ w0.heap.size ∧ w0.heap.size ≤ w1.heap.size ∧ w1.heap.size ≤ w3.heap.size ∧ w3.heap.size ≤ w5.heap.size ∧ w0.heap.size ≤ g7 ∧ w0.heap.size ≤ g8 ∧ w.heap.size < w0.heap.size ∧ hi0 ≤ w.heap.size)
  obtain ⟨x0, x1, x2, x3, x4, x5, x6, x7, x8, x9, x10, x11, x12⟩ := hb55.cells13
  have q5 := hb55.lt
  obtain ⟨y0, y1, y2, y3, y4, yf⟩ := hb75.cells5
  have q7 := hb75.lt
  obtain ⟨v0, v1, v2, v3, v4, vf⟩ := hb85.cells5
  have q8 := hb85.lt
  clear hl7 hl8 hz0 hz1 hz13 hz35 hg8 hg7 hlt5 hhw hv7 how7 hin7 hb75 hbl7 hup7 hf5 hok5 hb55 hb85 hW hW0 hK4 HM1 HM2 HO1 HO2 HB5 HF0 HFA HB7 HB8 F2 HB72 HK3 F4 HB84 HB83 HB53
  by_cases h0 : how = 0
  · subst h0
    have hput := Put_any2 (T.mk k3 n3 s3 A3 c3 l3 r3) (T.mk k4 n4 s4 A4 c4 l4 r4) w5 0 w5.heap.size HIN7.out HIN8.out (Nat.le_refl _) lo p.tb p.M p.O p.l p.came HOK5.out.tab (fun i hi => by
      have hz := HZ.out
      have h0 := HOK.out.h0
      have h1 := HOK.out.tab.tb0
      have h2 := HOK.out.tab.m0
      have h3 := HOK.out.tab.o0
      have : i < hi0 ∨ w1.heap.size ≤ i := by
        rcases hi with hi | hi
        · exact HBL7.out i hi
        · rcases HBL8.out i hi with h | h
          · exact .inl h
          · exact .inr (by omega)
      omega) (by have := HOK.out.came; omega)
    rw [T.val_mk, T.val_mk, HV7.out, HV8.out] at hput
    generalize hpe : putErr u u2 = pe at *
    have HPUT := hide hput
    have HPE := hide hpe
    clear hput hpe
    go_wp2_with fail
    refine HPUT.out.mono ?_
    rintro e w6 ⟨⟨ko, no, so, Ao, co, lo', ro⟩, had, l', came', rfl, oin, hT6, f6, hold, hsays, hob⟩
    rw [T.val_mk]
    have hz := HZ.out
    have nb : ∀ i, w.heap.size ≤ i → ¬ (i = p.tb ∨ i = p.M ∨ i = p.O) := fun i hi h => by
      have h1 := HOK.out.tab.tb0
      have h2 := HOK.out.tab.m0
      have h3 := HOK.out.tab.o0
      omega
    have fw6 : Fr (fun i => lo ≤ i) w w6 := (HF5.out.mono fun i hi h => by omega).trans' f6 fun i _ h => by
      have h1 := HOK.out.tab.tb0
      have h2 := HOK.out.tab.m0
      have h3 := HOK.out.tab.o0
      omega
    have fx := (Fr.refl No w6).alloc (.cells #[.int .u8 ko, .int .i64 no, .string so, .slice Ao lo'.length co, .int .i64 ro] 27)
    have b9 := Blk.new w6 27 #[.int .u8 ko, .int .i64 no, .string so, .slice Ao lo'.length co, .int .i64 ro]
    have B55 := hide ((HB55.out.fr f6 (nb _ (Nat.le_refl _))).fr fx fun h => h)
    have B75 := hide ((HB75.out.fr f6 (nb _ (by omega))).fr fx fun h => h)
    have B85 := hide ((HB85.out.fr f6 (nb _ (by omega))).fr fx fun h => h)
    have FW7 := hide (fw6.thenNo fx)
    have s6 := f6.size
    have q9 := b9.lt
    have B9 := hide b9
    have FX := hide fx
    have OIN := hide oin
    have HT6 := hide hT6
    have F56 := hide f6
    have HOLD := hide hold
    have HSAYS := hide hsays
    have HOB := hide hob
    clear x0 x1 x2 x3 x4 x5 x6 x7 x8 x9 x10 x11 x12 q5 y0 y1 y2 y3 y4 yf q7 v0 v1 v2 v3 v4 vf q8 oin hT6 f6 hold hsays hob fw6 fx b9 hz nb HPUT
    obtain ⟨x0, x1, x2, x3, x4, x5, x6, x7, x8, x9, x10, x11, x12⟩ := B55.out.cells13
    have q5 := B55.out.lt
    have HS6 := hide s6
    clear s6 HW0
    go_wp2_with fail
    generalize World.alloc w6 _ = w7 at *
    refine (HW.out w7 FW7.out).mono ?_
    rintro e w8 ⟨rfl, f8⟩
    have b9 := B9.out.fr f8 fun h => h
    obtain ⟨z0, z1, z2, z3, z4, zf⟩ := b9.cells5
    have q9' := b9.lt
    have F8 := hide f8
    have B98 := hide b9
    clear x0 x1 x2 x3 x4 x5 x6 x7 x8 x9 x10 x11 x12 q5 q9 f8 b9 HW
    have hcs := putErr_cases u u2
    rw [HPE.out] at hcs
    have hz9 := fun W a h hh => same_any (T.mk ko no so Ao co lo' ro) T.zero W 0 a 0 0 h hh (T.zero_ow _ _ _).inn (Nat.zero_le _)
    rw [T.val_mk, T.zero_val] at hz9
    have oin8 := (OIN.out.no FX.out (Nat.le_refl _)).no F8.out FX.out.size
    have HS9 := hide (hz9 w8 w6.heap.size oin8 (Nat.le_trans FX.out.size F8.out.size))
    clear hz9 oin8
    by_cases hp0 : pe = 0
    · subst hp0
      clear hcs HS9
      obtain ⟨hma, hmb, hka⟩ := putErr_zero HPE.out
      have hz := HZ.out
      have hl0 := HOK.out.h0
      have nb : ∀ i, w.heap.size ≤ i → ¬ (i = p.tb ∨ i = p.M ∨ i = p.O) := fun i hi h => by
        have h1 := HOK.out.tab.tb0
        have h2 := HOK.out.tab.m0
        have h3 := HOK.out.tab.o0
        omega
      have f58 : Fr (fun i => i = p.tb ∨ i = p.M ∨ i = p.O) w5 w8 := (F56.out.thenNo FX.out).thenNo F8.out
      have s58 := f58.size
      have ow7 := HOW7.out hma
      have ow8 := HOW8.out hmb
      have bl7 : ∀ b ∈ (T.mk k3 n3 s3 A3 c3 l3 r3).blocks, w1.heap.size ≤ b ∧ b < w3.heap.size := fun b hb => ⟨(T.In.blocks _ ow7.inn b hb).1, HUP7.out b hb⟩
      have bl8 : ∀ b ∈ (T.mk k4 n4 s4 A4 c4 l4 r4).blocks, w3.heap.size ≤ b ∧ b < w5.heap.size := fun b hb => T.In.blocks _ ow8.inn b hb
      have ow7' := ow7.frB f58 (Nat.le_refl _) fun b hb => nb b (by have := bl7 b hb; omega)
      have ow8' := ow8.frB f58 (Nat.le_refl _) fun b hb => nb b (by have := bl8 b hb; omega)
      have hs1 := spoil4_any _ w8 _ _ ow7' s58
      have hs2 := fun W (f : Fr (fun i => i ∈ (T.mk k3 n3 s3 A3 c3 l3 r3).blocks) w8 W) => spoil4_any _ W _ _ (ow8'.frB f s58 fun b hb h => by have := bl7 b h; have := bl8 b hb; omega) (Nat.le_trans s58 f.size)
      rw [T.val_mk] at hs1 hs2
      have HS1 := hide hs1
      have HS2 := hide hs2
      have BL7 := hide bl7
      have BL8 := hide bl8
      have b75 := B75.out.fr F8.out fun h => h
      have B858 := hide (B85.out.fr F8.out fun h => h)
      have B558 := hide (B55.out.fr F8.out fun h => h)
      have F58 := hide f58
      have FW8 := hide (FW7.out.thenNo F8.out)
      have HMA := hide hma
      have HKA := hide hka
      have HS58 := hide s58
      obtain ⟨y0, y1, y2, y3, y4, yf⟩ := b75.cells5
      have q7 := b75.lt
      clear hma hmb hka hz hl0 nb f58 s58 ow7 ow8 bl7 bl8 ow7' ow8' hs1 hs2 b75
      go_wp2_with fail
      refine HS1.out.mono ?_
      rintro e wa ⟨⟨v1, rfl⟩, fa⟩
      have b85 := B858.out.fr fa fun h => by have := BL7.out _ h; have := HZ.out; omega
      obtain ⟨w0', w1', w2', w3', w4', wf'⟩ := b85.cells5
      have q8 := b85.lt
      have FA := hide fa
      clear y0 y1 y2 y3 y4 yf q7 fa b85 z0 z1 z2 z3 z4 zf q9'
      go_wp2_with fail
      refine (HS2.out wa FA.out).mono ?_
      rintro e wb ⟨⟨v2, rfl⟩, fb⟩
      have fab : Fr (fun i => i ∈ (T.mk k3 n3 s3 A3 c3 l3 r3).blocks ∨ i ∈ (T.mk k4 n4 s4 A4 c4 l4 r4).blocks) w8 wb := (FA.out.mono fun i _ h => .inl h).trans' fb fun i _ h => .inr h
      have hns : ∀ i, i ∈ (T.mk k3 n3 s3 A3 c3 l3 r3).blocks ∨ i ∈ (T.mk k4 n4 s4 A4 c4 l4 r4).blocks → w1.heap.size ≤ i ∧ i < w5.heap.size := fun i h => by
        have hz := HZ.out
        rcases h with h | h
        · have := BL7.out i h; omega
        · have := BL8.out i h; omega
      have hz := HZ.out
      have hl0 := HOK.out.h0
      have hl1 := HOK.out.hl
      have s56 := F56.out.size
      have s6 := FX.out.size
      have s8 := F8.out.size
      have b5 := B558.out.fr fab fun h => by have := hns _ h; omega
      have b9 := B98.out.fr fab fun h => by have := hns _ h; omega
      have fwb : Fr (fun i => lo ≤ i) w wb := FW8.out.trans' fab fun i _ h => by have := hns _ h; omega
      have hdt : DTab wb lo hi0 p.rb p.A p.cap p.R := (HOK5.out.dt.fr F58.out (by omega) (fun i hi h => by
          refine HOK.out.dis i ?_ hi
          rcases h with rfl | rfl | rfl
          · exact .inl rfl
          · exact .inr (.inl rfl)
          · exact .inr (.inr (.inl rfl))) (fun i hi h => by
          have h1 := HOK.out.tab.tb0
          have h2 := HOK.out.tab.m0
          have h3 := HOK.out.tab.o0
          omega)).fr fab (by omega) (fun i hi h => by have := hns i h; have := (HOK.out.dt.lt i hi).2; omega) (fun i hi h => by have := hns i h; omega)
      have hdp := dput_any _ _ p.R wb lo hi0 p.rb p.A p.cap (HKI.out wb fwb) (HVI.out wb fwb) hdt hl0 (Nat.le_trans hl1 fwb.size) (by have := HOK.out.len; omega)
      rw [T.val_mk, T.val_mk] at hdp
      have HDP := hide hdp
      have HFAB := hide fab
      have HNS := hide hns
      have HDT := hide hdt
      have HB9 := hide b9
      have HFWB := hide fwb
      obtain ⟨x0, x1, x2, x3, x4, x5, x6, x7, x8, x9, x10, x11, x12⟩ := b5.cells13
      have q5 := b5.lt
      clear w0' w1' w2' w3' w4' wf' q8 fb hdp fab hns hz hl0 hl1 s56 s6 s8 b5 b9 fwb hdt
      go_wp2_with fail
      refine HDP.out.mono ?_
      rintro e wd ⟨⟨kd, nd, sd, Ad, cd, ld, rd⟩, R', had', rfl, hdput, hdres⟩
      rw [T.val_mk]
      obtain ⟨rfl, hve, hrl⟩ := rel_put (a := T.mk k1 n1 s1 A1 c1 l1 r1) (b := T.mk k2 n2 s2 A2 c2 l2 r2) HOK.out.rel HOK.out.fine (fun e he => (HOK.out.tab.cran e he).2) (by rw [HU.out, HU2.out, HPE.out]) (by rw [HU.out, HU2.out]; exact HSAYS.out) hdput
      have hz := HZ.out
      have hl0 := HOK.out.h0
      have hl1 := HOK.out.hl
      have s56 := F56.out.size
      have s6 := FX.out.size
      have s8 := F8.out.size
      have s8b := HFAB.out.size
      have hnext := put_next (R' := R') HOK.out (HF5.out.mono fun i hi h => by omega) HT6.out F56.out HOLD.out ((FX.out.trans F8.out).no.trans HFAB.out) (fun i _ h => by have := HNS.out i h; omega) hdres hrl (by have := put_came HSAYS.out; have := HOK.out.came; omega) (by have := dput_len hdput; have := HOK.out.len; omega)
      obtain ⟨A', cap', -, fD, -⟩ := hdres
      have oin1 := ((OIN.out.no (FX.out.trans F8.out) (Nat.le_refl _)).frB HFAB.out (by omega) fun b hb h => by have := (HOK.out.tab.lt b (HOB.out b hb)).2; have := HNS.out b h; omega).frB fD (by omega) fun b hb h => HOK.out.dis b (HOB.out b hb) h
      have nin : (T.mk kd nd sd Ad cd ld rd).In wd 0 hi0 := by
        rcases hdput with ⟨i, x, hx, -, ht, -, -⟩ | ⟨-, ht, -, -⟩
        · rw [ht]
          exact (HDT.out.inn x (List.mem_of_getElem? hx)).2.fr fD (by omega) fun i _ hi h => by have := (HDT.out.lt i h).1; omega
        · rw [ht]
          exact (T.zero_ow _ _ _).inn
      have b9 := HB9.out.fr fD fun h => by have := (HOK.out.dt.lt _ h).2; omega
      have fx := (Fr.refl No wd).alloc (.cells #[.int .u8 kd, .int .i64 nd, .string sd, .slice Ad ld.length cd, .int .i64 rd] 27)
      have b13 := Blk.new wd 27 #[.int .u8 kd, .int .i64 nd, .string sd, .slice Ad ld.length cd, .int .i64 rd]
      have hsm := same_any _ _ _ 0 w6.heap.size 0 hi0 (oin1.no fx (by have := fD.size; omega)) (by have := fD.size; have := fx.size; omega) (nin.no fx (by have := fD.size; omega)) (by have := fD.size; have := fx.size; omega)
      rw [T.val_mk, T.val_mk] at hsm
      have b9' := b9.fr fx fun h => h
      obtain ⟨z0, z1, z2, z3, z4, zf⟩ := b9'.cells5
      have q9 := b9'.lt
      obtain ⟨y0, y1, y2, y3, y4, yf⟩ := b13.cells5
      have q13 := b13.lt
      have HSM := hide hsm
      have HVE := hide hve
      have HNX := hide hnext
      have HFX := hide fx
      clear x0 x1 x2 x3 x4 x5 x6 x7 x8 x9 x10 x11 x12 q5 hsm hve hrl hnext fD oin1 nin b9 b9' b13 fx hz hl0 hl1 s56 s6 s8 s8b hdput
      cases had
      all_goals
        go_wp2_with fail
        refine HSM.out.mono ?_
        rintro e wf ⟨q, rfl, hq, ff⟩
        obtain rfl : q = true := hq.2 HVE.out
        clear hq
        go_wp2_with fail
        go_ret
        obtain ⟨p', hn⟩ := HNX.out
        exact ⟨rfl, p', hn.postNo (HFX.out.trans ff)⟩
    · have hpf := put_failed HSAYS.out (by rw [HPE.out]; exact hp0)
      obtain ⟨rfl, rfl, hov, rfl⟩ := hpf
      have hend : ∃ p', p.Next p' lo hi0 n w w8 := by
        have hz := HZ.out
        have hl0 := HOK.out.h0
        have f68 := FX.out.trans F8.out
        have f58 : Fr (fun i => i = p.tb ∨ i = p.M ∨ i = p.O) w5 w8 := F56.out.thenNo f68
        have f05 : Fr No w w5 := HF5.out.mono fun i hi h => by omega
        refine put_next HOK.out f05 HT6.out F56.out HOLD.out f68 (fun _ _ h => h.elim) ⟨p.A, p.cap, HOK5.out.dt.fr f58 (by omega) (fun i hi h => ?_) (fun i hi h => ?_), Fr.refl _ _, fun _ h _ => h⟩ HOK.out.rel (by have := HOK.out.came; omega) (by have := HOK.out.len; omega)
        · refine HOK.out.dis i ?_ hi
          rcases h with rfl | rfl | rfl
          · exact .inl rfl
          · exact .inr (.inl rfl)
          · exact .inr (.inr (.inl rfl))
        · have h1 := HOK.out.tab.tb0
          have h2 := HOK.out.tab.m0
          have h3 := HOK.out.tab.o0
          omega
      have HEND := hide hend
      have HOV := hide hov
      clear hend hov
      have hcs2 : pe = 2 ∨ pe = 40 := hcs.resolve_left hp0
      clear hcs hp0
      rcases hcs2 with rfl | rfl
      all_goals
        go_wp2_with fail
        refine HS9.out.mono ?_
        rintro e w9 ⟨q, rfl, hq, f9⟩
        obtain rfl : q = true := hq.2 (by rw [HOV.out, T.zero_v])
        clear hq
        go_wp2_with fail
        go_ret
        obtain ⟨p', hn⟩ := HEND.out
        exact ⟨rfl, p', hn.postNo f9⟩
  · have e0 : (how == 0) = false := by simpa using h0
    have f05 : Fr No w w5 := HF5.out.mono fun i hi h => by omega
    have F05 := hide f05
    have FW5 := hide (f05.no (S := fun i => lo ≤ i))
    clear HW v0 v1 v2 v3 v4 vf q8 f05
    by_cases h1 : how = 1
    · subst h1
      clear h0 e0
      rcases getErr_cases u with hg | hg
      · -- the key may be asked for
        obtain ⟨hma, hka⟩ := getErr_zero hg
        have hget := Get_ok (T.mk k3 n3 s3 A3 c3 l3 r3) w5 0 w5.heap.size HIN7.out (Nat.le_refl _) lo p.tb p.M p.O p.l p.came HOK5.out.tab (by rw [HV7.out]; exact hma) (by rw [HV7.out]; exact hka)
        rw [T.val_mk, HV7.out] at hget
        have HGET := hide hget
        have hw0 := HW0.out
        rw [hg] at hw0
        have HW00 := hide hw0
        clear HW0 hget hw0
        have HMA := hide hma
        have HKA := hide hka
        clear hma hka hg
        go_wp2_with fail
        refine HGET.out.mono ?_
        rintro e w6 ⟨⟨kg, ng, sg, Ag, cg, lg, rg⟩, rfl, hgv, gow, f6⟩
        rw [T.val_mk]
        have fx := (Fr.refl No w6).alloc (.cells #[.int .u8 kg, .int .i64 ng, .string sg, .slice Ag lg.length cg, .int .i64 rg] 27)
        have f57 := f6.trans fx
        have b55 := HB55.out.fr f57 fun h => h
        have b15 := Blk.new w6 27 #[.int .u8 kg, .int .i64 ng, .string sg, .slice Ag lg.length cg, .int .i64 rg]
        clear x0 x1 x2 x3 x4 x5 x6 x7 x8 x9 x10 x11 x12 q5 y0 y1 y2 y3 y4 yf q7
        obtain ⟨x0, x1, x2, x3, x4, x5, x6, x7, x8, x9, x10, x11, x12⟩ := b55.cells13
        have q5 := b55.lt
        have HB5 := hide b55
        have HB15 := hide b15
        have F6 := hide f6
        have F57 := hide f57
        have HGV := hide hgv
        have GOW := hide gow
        have s6 := fx.size
        have s7 := b15.lt
        clear b55 b15 f6 f57 fx hgv gow
        go_wp2_with fail
        generalize hw7 : World.alloc w6 _ = w7 at *
        have GOW7 := hide (GOW.out.no (show Fr No w6 w7 by rw [← hw7]; exact (Fr.refl No w6).alloc _) (Nat.le_refl _))
        clear GOW hw7
        refine (HW00.out w7 (FW5.out.thenNo F57.out)).mono ?_
        rintro e w8 ⟨rfl, f8⟩
        have b55 := HB5.out.fr f8 fun h => h
        clear x0 x1 x2 x3 x4 x5 x6 x7 x8 x9 x10 x11 x12 q5 s7
        obtain ⟨x0, x1, x2, x3, x4, x5, x6, x7, x8, x9, x10, x11, x12⟩ := b55.cells13
        have q5 := b55.lt
        have f08 := (F05.out.trans F57.out).trans f8
        have hok8 := HOK.out.no f08
        have hz := HZ.out
        have hdg := dget_any _ p.R w8 0 hi0 lo hi0 p.rb p.A p.cap (HKI.out w8 f08.no) (Nat.le_trans hz.2.2.2.2.2.2.2.2.2 f08.size) hok8.dt (Nat.le_trans hz.2.2.2.2.2.2.2.2.2 f08.size)
        rw [T.val_mk] at hdg
        have HDG := hide hdg
        have F08 := hide f08
        have HOK8 := hide hok8
        have B15 := hide (HB15.out.fr f8 fun h => h)
        have GOW8 := hide (GOW7.out.no f8 s6)
        have S68 := hide (Nat.le_trans s6 f8.size)
        clear b55 f08 hok8 hz hdg HB15 GOW7 HB5 s6 f8
        go_wp2_with fail
        refine HDG.out.mono ?_
        rintro e w9 ⟨⟨⟨kd, nd, sd, Ad, cd, ld, rd⟩, had', rfl, hdget⟩, f9⟩
        rw [T.val_mk]
        have hrg := rel_get HOK.out.rel HOK.out.fine HMA.out HKA.out (by rw [← HU.out]; exact hdget)
        obtain ⟨hhad, hval⟩ := hrg
        rw [hhad]
        have hgv := HGV.out.trans hval
        have nin : (T.mk kd nd sd Ad cd ld rd).In w9 0 hi0 := by
          rcases hdget with ⟨i, x, hx, -, ht, -⟩ | ⟨-, ht, -⟩
          · rw [ht]
            exact (HOK8.out.dt.inn x (List.mem_of_getElem? hx)).2.no f9 (Nat.le_trans HOK8.out.h0 HOK8.out.hl)
          · rw [ht]
            exact (T.zero_ow _ _ _).inn
        have fx := (Fr.refl No w9).alloc (.cells #[.int .u8 kd, .int .i64 nd, .string sd, .slice Ad ld.length cd, .int .i64 rd] 27)
        have b19 := Blk.new w9 27 #[.int .u8 kd, .int .i64 nd, .string sd, .slice Ad ld.length cd, .int .i64 rd]
        have b15 := (B15.out.fr f9 fun h => h).fr fx fun h => h
        have gow9 := GOW8.out.no (f9.trans fx) S68.out
        have h09 : hi0 ≤ w9.heap.size := Nat.le_trans (Nat.le_trans HOK8.out.h0 HOK8.out.hl) f9.size
        have hsm := same_any _ _ _ _ _ 0 hi0 gow9.inn (Nat.le_trans S68.out (f9.trans fx).size) (nin.no fx h09) (Nat.le_trans h09 fx.size)
        rw [T.val_mk, T.val_mk] at hsm
        obtain ⟨z0, z1, z2, z3, z4, zf⟩ := b15.cells5
        have q9 := b15.lt
        obtain ⟨y0, y1, y2, y3, y4, yf⟩ := b19.cells5
        have q13 := b19.lt
        have HSM := hide hsm
        have HVE := hide hgv
        have HB15 := hide b15
        have F09 := hide ((F08.out.trans f9).trans fx)
        have GOW9 := hide gow9
        have S69 := hide (Nat.le_trans S68.out (f9.trans fx).size)
        clear x0 x1 x2 x3 x4 x5 x6 x7 x8 x9 x10 x11 x12 q5 hsm hgv nin b19 b15 fx hdget f9 gow9 h09 hhad hval
        cases had'
        all_goals
          go_wp2_with fail
          refine HSM.out.mono ?_
          rintro e wf ⟨q, rfl, hq, ff⟩
          obtain rfl : q = true := hq.2 HVE.out
          have b15 := HB15.out.fr ff fun h => h
          have hsp := spoil4_any _ wf _ _ (GOW9.out.no ff S69.out) (Nat.le_trans S69.out ff.size)
          rw [T.val_mk] at hsp
          have HSP := hide hsp
          have hbl := fun b hb => (T.In.blocks _ GOW9.out.inn b hb).1
          have HBL := hide hbl
          have F0f := hide (F09.out.trans ff)
          clear hq z0 z1 z2 z3 z4 zf q9 y0 y1 y2 y3 y4 yf q13 hsp hbl ff
          obtain ⟨z0, z1, z2, z3, z4, zf⟩ := b15.cells5
          have q9 := b15.lt
          clear b15
          go_wp2_with fail
          refine HSP.out.mono ?_
          rintro e wg ⟨⟨v1, rfl⟩, fg⟩
          clear z0 z1 z2 z3 z4 zf q9
          go_wp2_with fail
          go_ret
          have hz := HZ.out
          have s05 := F05.out.size
          exact ⟨rfl, p, (PT.Next.same HOK.out F0f.out).post fg (fun i hi h => by have := (HOK.out.lt i hi).2; have := HBL.out i h; omega) (fun i hi h => by have := HBL.out i h; omega) (fun i hi h => by have := HBL.out i h; omega)⟩
      · -- it may not
        have hg0 : getErr u ≠ 0 := by omega
        have hget := Get_err (T.mk k3 n3 s3 A3 c3 l3 r3) w5 0 w5.heap.size HIN7.out (Nat.le_refl _) p.tb p.M p.O p.came HOK5.out.tab.blk (by rw [HV7.out]; exact hg0)
        rw [T.val_mk, HV7.out] at hget
        have hw0 := HW0.out
        have HSZ := hide same_zero
        have HGET := hide hget
        have HW00 := hide hw0
        clear HW0 hget hw0 hg0
        generalize getErr u = ge at *
        go_wp2_with fail
        refine HGET.out.mono ?_
        rintro e w6 ⟨rfl, f6⟩
        unfold tripZ
        have fx := (Fr.refl No w6).alloc (.cells #[.int .u8 0, .int .i64 0, .string ⟨#[]⟩, .slice none 0 0, .int .i64 0] 27)
        have f57 := f6.trans fx
        have b55 := HB55.out.fr f57 fun h => h
        have b15 := Blk.new w6 27 #[.int .u8 0, .int .i64 0, .string ⟨#[]⟩, .slice none 0 0, .int .i64 0]
        clear x0 x1 x2 x3 x4 x5 x6 x7 x8 x9 x10 x11 x12 q5 y0 y1 y2 y3 y4 yf q7
        obtain ⟨x0, x1, x2, x3, x4, x5, x6, x7, x8, x9, x10, x11, x12⟩ := b55.cells13
        have q5 := b55.lt
        have HB15 := hide b15
        have F57 := hide f57
        have s7 := b15.lt
        clear b55 b15 f6 f57 fx
        go_wp2_with fail
        refine (HW00.out _ (FW5.out.thenNo F57.out)).mono ?_
        rintro e w8 ⟨rfl, f8⟩
        have b15 := HB15.out.fr f8 fun h => h
        have F08 := hide ((F05.out.trans F57.out).trans f8)
        clear x0 x1 x2 x3 x4 x5 x6 x7 x8 x9 x10 x11 x12 q5 s7
        obtain ⟨z0, z1, z2, z3, z4, zf⟩ := b15.cells5
        have q9 := b15.lt
        clear b15 f8
        rcases hg with rfl | rfl
        all_goals
          go_wp2_with fail
          refine (HSZ.out _).mono ?_
          rintro e wf ⟨rfl, ff⟩
          go_wp2_with fail
          go_ret
          exact ⟨rfl, p, PT.Next.same HOK.out (F08.out.trans ff)⟩
    · have e1 : (how == 1) = false := by simpa using h1
      by_cases h2 : how = 2
      · subst h2
        clear h0 e0 h1 e1
        have hdrop := Drop_any (T.mk k3 n3 s3 A3 c3 l3 r3) w5 0 w5.heap.size HIN7.out (Nat.le_refl _) lo p.tb p.M p.O p.l p.came HOK5.out.tab
        rw [T.val_mk, HV7.out] at hdrop
        have HDR := hide hdrop
        clear hdrop
        go_wp2_with fail
        refine HDR.out.mono ?_
        rintro e w6 ⟨had, l', rfl, hT6, f6, hcs⟩
        have hz := HZ.out
        have nb : ∀ i, (i = p.M ∨ i = p.O) → lo ≤ i ∧ i < w.heap.size := fun i h => by
          have h2 := HOK.out.tab.m0
          have h3 := HOK.out.tab.o0
          omega
        have fw6 : Fr (fun i => lo ≤ i) w w6 := FW5.out.trans' f6 fun i _ h => (nb i h).1
        have b55 := HB55.out.fr f6 fun h => by have := nb _ h; omega
        have hdt : DTab w6 lo hi0 p.rb p.A p.cap p.R := HOK5.out.dt.fr f6 (Nat.le_trans HOK5.out.h0 HOK5.out.hl) (fun i hi h => by
          refine HOK.out.dis i ?_ hi
          rcases h with rfl | rfl
          · exact .inr (.inl rfl)
          · exact .inr (.inr (.inl rfl))) (fun i hi h => by have := nb i h; have := HOK.out.h0; omega)
        have FW6 := hide fw6
        have HB6 := hide b55
        have HT6 := hide hT6
        have F6 := hide f6
        have HDT := hide hdt
        clear x0 x1 x2 x3 x4 x5 x6 x7 x8 x9 x10 x11 x12 q5 y0 y1 y2 y3 y4 yf q7 hz nb fw6 hT6 f6 hdt HDR
        obtain ⟨x0, x1, x2, x3, x4, x5, x6, x7, x8, x9, x10, x11, x12⟩ := b55.cells13
        have q5 := b55.lt
        have HCS := hide hcs
        clear b55 hcs
        go_wp2_with fail
        refine (HW0.out _ FW6.out).mono ?_
        rintro e w8 ⟨rfl, f8⟩
        have F8 := hide f8
        have b55 := HB6.out.fr f8 fun h => h
        clear x0 x1 x2 x3 x4 x5 x6 x7 x8 x9 x10 x11 x12 q5 HW0
        obtain ⟨x0, x1, x2, x3, x4, x5, x6, x7, x8, x9, x10, x11, x12⟩ := b55.cells13
        have q5 := b55.lt
        clear b55
        have f56 : Fr (fun i => i = p.tb ∨ i = p.M ∨ i = p.O) w5 w6 := F6.out.mono fun i _ h => .inr h
        have hold : ∀ i, tabBlocks p.tb p.M p.O l' i → i < w5.heap.size → tabBlocks p.tb p.M p.O p.l i := fun i hi _ => by
          rcases HCS.out with ⟨-, rfl, -⟩ | ⟨-, -, rfl, -⟩ | ⟨-, j, -, rfl, -⟩
          · exact hi
          · exact hi
          · exact erase_blocks hi
        have hdt8 : DTab w8 lo hi0 p.rb p.A p.cap p.R := HDT.out.no f8 (Nat.le_trans (Nat.le_trans HOK5.out.h0 HOK5.out.hl) F6.out.size)
        have F56 := hide f56
        have HOLD := hide hold
        have HDT8 := hide hdt8
        clear f8 f56 hold hdt8
        rcases getErr_cases u with hg | hg
        · obtain ⟨hma, hka⟩ := getErr_zero hg
          have h088 : lo ≤ w8.heap.size := Nat.le_trans HOK5.out.hl (F6.out.thenNo F8.out).size
          have hdd := ddrop_any _ p.R w8 0 hi0 lo hi0 p.rb p.A p.cap (HKI.out w8 (FW6.out.thenNo F8.out)) (Nat.le_trans HOK.out.h0 h088) HDT8.out HOK.out.h0 h088
          rw [T.val_mk, HU.out] at hdd
          have HDD := hide hdd
          have hcs2 := HCS.out
          rw [hg] at hcs2
          have hcs3 : (pos u (p.l.map fun e => e.k.v) = none ∧ l' = p.l ∧ had = false) ∨ ∃ i, pos u (p.l.map fun e => e.k.v) = some i ∧ l' = p.l.eraseIdx i ∧ had = true := by
            rcases hcs2 with ⟨h, -⟩ | ⟨-, h⟩ | ⟨-, h⟩
            · exact absurd rfl h
            · exact .inl h
            · exact .inr h
          have HC3 := hide hcs3
          have HMA := hide hma
          have HKA := hide hka
          clear hdd hcs2 hcs3 HCS hma hka h088
          rw [hg]
          clear hg
          go_wp2_with fail
          refine HDD.out.mono ?_
          rintro e w9 ⟨R', had', rfl, hddrop, hdres⟩
          obtain ⟨rfl, hrl⟩ := rel_drop HOK.out.rel HOK.out.fine HMA.out HKA.out HC3.out hddrop
          have hnext := put_next (R' := R') HOK.out F05.out HT6.out F56.out HOLD.out F8.out (fun _ _ h => h.elim) hdres hrl (by have := HOK.out.came; omega) (by have := ddrop_len hddrop; have := HOK.out.len; omega)
          have HNX := hide hnext
          clear hnext hdres hrl hddrop HC3 x0 x1 x2 x3 x4 x5 x6 x7 x8 x9 x10 x11 x12 q5
          cases had
          all_goals
            go_wp2_with fail
            go_ret
            exact ⟨rfl, HNX.out⟩
        · have hcs2 := HCS.out
          obtain ⟨rfl, rfl⟩ : l' = p.l ∧ had = false := by
            rcases hcs2 with ⟨-, h1, h2⟩ | ⟨h, -⟩ | ⟨h, -⟩
            · exact ⟨h1, h2⟩
            · omega
            · omega
          have hnext := put_next (R' := p.R) HOK.out F05.out HT6.out F56.out HOLD.out F8.out (fun _ _ h => h.elim) ⟨p.A, p.cap, HDT8.out, Fr.refl _ _, fun _ h _ => h⟩ HOK.out.rel (by have := HOK.out.came; omega) (by have := HOK.out.len; omega)
          have HNX := hide hnext
          clear hcs2 HCS hnext
          generalize getErr u = ge at *
          rcases hg with rfl | rfl
          all_goals
            go_wp2_with fail
            go_ret
            exact ⟨rfl, HNX.out⟩
      · have e2 : (how == 2) = false := by simpa using h2
        have hwk := walk4_any w5 lo hi0 p.tb p.M p.O p.l p.came p.rb p.A p.cap p.R leave HL.out HOK5.out.tab HOK5.out.dt (Nat.le_trans HOK5.out.h0 HOK5.out.hl) HOK5.out.rel
        have HWK := hide hwk
        clear hwk h0 h1 h2
        go_wp2_with fail
        refine HWK.out.mono ?_
        rintro e w6 ⟨rfl, f6⟩
        go_wp2_with fail
        go_ret
        exact ⟨rfl, p, PT.Next.same HOK.out (F05.out.trans f6)⟩

end Go.Proofs.Ytihjmipmjogpoaa

/- BrandTables: what it computes. -/
namespace Go.Proofs.Ytihjmipmjogpoaa
open Go.RowKit
attribute [local go_sem ↓] Go.wp_at_zero Go.wp_at_succ

theorem and_one (n : Int) : bits .and .i64 n 1 = 0 ∨ bits .and .i64 n 1 = 1 := by
  have e : bits .and .i64 n 1 = IntKind.i64.wrap ((BitVec.ofInt 64 n &&& BitVec.ofInt 64 1).toNat : Int) := rfl
  rw [e, BitVec.toNat_and, show (BitVec.ofInt 64 1).toNat = 1 from by decide, Nat.and_one_is_mod]
  rcases Nat.mod_two_eq_zero_or_one (BitVec.ofInt 64 n).toNat with h | h
  · left; rw [h]; decide
  · right; rw [h]; decide

/-- Two in a row, the first one at k. -/
def two (k : Int) (x y : Value) : Array Value := if k = 0 then #[x, y] else #[y, x]

/-- Where the law's loop stands: the table at k, and the other one. -/
structure LI (w : World) (bt br : Nat) (k : Int) (p q : PT) (j : Nat) (W : World) : Prop where
  fr : Fr No w W
  po : p.Ok w.heap.size w.heap.size j W
  qo : q.Ok w.heap.size w.heap.size j W
  dis : ∀ i, p.B i → ¬ q.B i
  tbx : Blk W bt 51 (two k (.pointer (some ⟨p.tb, 0, none⟩)) (.pointer (some ⟨q.tb, 0, none⟩)))
  rbx : Blk W br 56 (two k (.pointer (some ⟨p.rb, 0, none⟩)) (.pointer (some ⟨q.rb, 0, none⟩)))
  nt : ¬ p.B bt ∧ ¬ q.B bt ∧ ¬ p.B br ∧ ¬ q.B br
  ge : w.heap.size ≤ bt ∧ w.heap.size ≤ br

theorem two_swap (x y : Value) : two 0 x y = two 1 y x := by simp [two]

theorem LI.swap {w W : World} {bt br : Nat} {p q : PT} {j : Nat} (h : LI w bt br 0 p q j W) : LI w bt br 1 q p j W :=
  ⟨h.fr, h.qo, h.po, fun i hq hp => h.dis i hp hq, by rw [← two_swap]; exact h.tbx, by rw [← two_swap]; exact h.rbx, ⟨h.nt.2.1, h.nt.1, h.nt.2.2.2, h.nt.2.2.1⟩, h.ge⟩

theorem LI.swap' {w W : World} {bt br : Nat} {p q : PT} {j : Nat} (h : LI w bt br 1 p q j W) : LI w bt br 0 q p j W :=
  ⟨h.fr, h.qo, h.po, fun i hq hp => h.dis i hp hq, by rw [two_swap]; exact h.tbx, by rw [two_swap]; exact h.rbx, ⟨h.nt.2.1, h.nt.1, h.nt.2.2.2, h.nt.2.2.1⟩, h.ge⟩

theorem LI.no {w W W' : World} {bt br : Nat} {k : Int} {p q : PT} {j : Nat} (h : LI w bt br k p q j W) (f : Fr No W W') : LI w bt br k p q j W' :=
  ⟨h.fr.trans f, h.po.no f, h.qo.no f, h.dis, h.tbx.fr f fun h => h, h.rbx.fr f fun h => h, h.nt, h.ge⟩

/-- A step has been made at k. -/
theorem LI.next {w W W' : World} {bt br : Nat} {k : Int} {p q p' : PT} {j : Nat} (h : LI w bt br k p q j W) (hn : p.Next p' w.heap.size w.heap.size j W W') : LI w bt br k p' q (j + 1) W' := by
  have hbt := h.tbx.lt
  have hbr := h.rbx.lt
  refine ⟨h.fr.trans' hn.fr fun i hi hb => by have := h.po.lt i hb; omega, hn.ok, (h.qo.fr hn.fr (fun i hi hb => h.dis i hb hi) fun i hi hb => by have := h.po.lt i hb; omega).more (Nat.le_succ _), fun i hp hq => ?_, ?_, ?_, ⟨fun hb => h.nt.1 (hn.old _ hb hbt), h.nt.2.1, fun hb => h.nt.2.2.1 (hn.old _ hb hbr), h.nt.2.2.2⟩, h.ge⟩
  · exact h.dis i (hn.old i hp (h.qo.lt i hq).2) hq
  · rw [hn.tb]; exact h.tbx.fr hn.fr h.nt.1
  · rw [hn.rb]; exact h.rbx.fr hn.fr h.nt.2.2.1

/-- One of a row's steps, as the walk reads it. -/
theorem Stps.at' {w : World} {hi : Nat} {A : Option Addr} {cap : Nat} {l : List Stp} (h : Stps w hi A cap l) {j : Nat} (hj : j < l.length) :
    ∃ b o how on leave k1 n1 s1 A1 c1 l1 r1 k2 n2 s2 A2 c2 l2 r2, A = some ⟨b, o, none⟩ ∧ b < hi ∧ l[j] = ⟨how, on, leave, .mk k1 n1 s1 A1 c1 l1 r1, .mk k2 n2 s2 A2 c2 l2 r2⟩ ∧
      (T.mk k1 n1 s1 A1 c1 l1 r1).In w 0 hi ∧ (T.mk k2 n2 s2 A2 c2 l2 r2).In w 0 hi ∧ I64 leave ∧
      w.cell? ⟨b, o + j * 13, none⟩ = some (.int .i64 how) ∧ w.cell? ⟨b, o + j * 13 + 1, none⟩ = some (.int .i64 on) ∧ w.cell? ⟨b, o + j * 13 + 2, none⟩ = some (.int .i64 leave) ∧
      w.cell? ⟨b, o + j * 13 + 3, none⟩ = some (.int .u8 k1) ∧ w.cell? ⟨b, o + j * 13 + 4, none⟩ = some (.int .i64 n1) ∧ w.cell? ⟨b, o + j * 13 + 5, none⟩ = some (.string s1) ∧ w.cell? ⟨b, o + j * 13 + 6, none⟩ = some (.slice A1 l1.length c1) ∧ w.cell? ⟨b, o + j * 13 + 7, none⟩ = some (.int .i64 r1) ∧
      w.cell? ⟨b, o + j * 13 + 8, none⟩ = some (.int .u8 k2) ∧ w.cell? ⟨b, o + j * 13 + 9, none⟩ = some (.int .i64 n2) ∧ w.cell? ⟨b, o + j * 13 + 10, none⟩ = some (.string s2) ∧ w.cell? ⟨b, o + j * 13 + 11, none⟩ = some (.slice A2 l2.length c2) ∧ w.cell? ⟨b, o + j * 13 + 12, none⟩ = some (.int .i64 r2) := by
  have hne : l ≠ [] := fun h => by rw [h] at hj; simp at hj
  obtain ⟨b, o, rfl, hb, hc⟩ := h.at_ hne
  have hx := List.getElem?_eq_getElem hj
  obtain ⟨-, -, h3, h4, h5⟩ := h.ok _ (List.getElem_mem hj)
  have hcc := hc j _ hx
  generalize l[j] = s at *
  obtain ⟨how, on, leave, ⟨k1, n1, s1, A1, c1, l1, r1⟩, ⟨k2, n2, s2, A2, c2, l2, r2⟩⟩ := s
  exact ⟨b, o, how, on, leave, k1, n1, s1, A1, c1, l1, r1, k2, n2, s2, A2, c2, l2, r2, rfl, hb, rfl, h4, h5, h3, hcc 0 _ rfl, hcc 1 _ rfl, hcc 2 _ rfl, hcc 3 _ rfl, hcc 4 _ rfl, hcc 5 _ rfl, hcc 6 _ rfl, hcc 7 _ rfl, hcc 8 _ rfl, hcc 9 _ rfl, hcc 10 _ rfl, hcc 11 _ rfl, hcc 12 _ rfl⟩

theorem Stps.no {w w' : World} {hi : Nat} {A : Option Addr} {cap : Nat} {l : List Stp} (h : Stps w hi A cap l) (f : Fr No w w') (hh : hi ≤ w.heap.size) : Stps w' hi A cap l :=
  ⟨h.cap, h.len, fun hne => by
    obtain ⟨b, o, hA, hb, hc⟩ := h.at_ hne
    exact ⟨b, o, hA, hb, fun i x hx j u hu => (f.cell (by omega) fun h => h).trans (hc i x hx j u hu)⟩, fun x hx => by
    obtain ⟨h1, h2, h3, h4, h5⟩ := h.ok x hx
    exact ⟨h1, h2, h3, h4.no f hh, h5.no f hh⟩⟩

theorem two0 (x y : Value) : two 0 x y = #[x, y] := by simp [two]
theorem two1 (x y : Value) : two 1 x y = #[y, x] := by simp [two]

theorem two_set {k : Int} {kn : Nat} (hk : k = 0 ∧ kn = 0 ∨ k = 1 ∧ kn = 1) (x y u : Value) : (two k x y).setIfInBounds kn u = two k u y := by
  rcases hk with ⟨rfl, rfl⟩ | ⟨rfl, rfl⟩
  · rw [two0, two0]; simp
  · rw [two1, two1]; simp

/-- One is a copy of the other one. -/
theorem li_copy {w W1 W2 W4 : World} {bt br : Nat} {k : Int} {kn : Nat} {p q : PT} {j tb' M' O' rb' cap' : Nat} {l' : List Ent} {A' : Option Addr} (hk : k = 0 ∧ kn = 0 ∨ k = 1 ∧ kn = 1) (h : LI w bt br k p q j W1)
    (hT : Tab W2 W1.heap.size W2.heap.size tb' M' O' l' q.came) (hp : (l'.map Ent.d).Perm (q.l.map Ent.d)) (f2 : Fr No W1 W2)
    (hD : DTab W4 (W2.setCell ⟨bt, kn, none⟩ (.pointer (some ⟨tb', 0, none⟩))).heap.size w.heap.size rb' A' cap' q.R) (f4 : Fr No (W2.setCell ⟨bt, kn, none⟩ (.pointer (some ⟨tb', 0, none⟩))) W4) :
    LI w bt br k ⟨tb', M', O', l', q.came, rb', A', cap', q.R⟩ q j (W4.setCell ⟨br, kn, none⟩ (.pointer (some ⟨rb', 0, none⟩))) := by
  have f23 : Fr (fun i => i = bt) W2 (W2.setCell ⟨bt, kn, none⟩ (.pointer (some ⟨tb', 0, none⟩))) := (Fr.refl (fun i => i = bt) W2).set (fun _ => rfl) _
  have f45 : Fr (fun i => i = br) W4 (W4.setCell ⟨br, kn, none⟩ (.pointer (some ⟨rb', 0, none⟩))) := (Fr.refl (fun i => i = br) W4).set (fun _ => rfl) _
  have z3 : (W2.setCell ⟨bt, kn, none⟩ (.pointer (some ⟨tb', 0, none⟩))).heap.size = W2.heap.size := by simp
  have hbtset := (h.tbx.fr f2 fun h => h).set_ kn (.pointer (some ⟨tb', 0, none⟩))
  rw [two_set hk] at hbtset
  have hbrset := (((h.rbx.fr f2 fun h => h).fr f23 (fun e => by
    have h1 : br ≠ bt := Blk.ne_ h.rbx h.tbx (by decide)
    exact h1 e)).fr f4 fun h => h).set_ kn (.pointer (some ⟨rb', 0, none⟩))
  rw [two_set hk] at hbrset
  have hne : bt ≠ br := Blk.ne_ h.tbx h.rbx (by decide)
  generalize (W2.setCell ⟨bt, kn, none⟩ (.pointer (some ⟨tb', 0, none⟩))) = W3 at *
  generalize hW5 : (W4.setCell ⟨br, kn, none⟩ (.pointer (some ⟨rb', 0, none⟩))) = W5 at *
  have s2 := f2.size
  have s4 := f4.size
  have s5 := f45.size
  have hbt := h.tbx.lt
  have hbr := h.rbx.lt
  have f25 : Fr (fun i => i = bt ∨ i = br) W2 W5 := ((f23.mono fun i _ h => .inl h).thenNo f4).trans' f45 fun i _ h => .inr h
  have f15 : Fr (fun i => i = bt ∨ i = br) W1 W5 := f2.no.trans f25
  have hge := h.ge
  have hw1 := h.fr.size
  have hdl : ∀ i, dBlocks rb' A' q.R.length cap' i → W2.heap.size ≤ i := fun i hi => by have := (hD.lt i hi).1; omega
  have hD0 : DTab W4 w.heap.size w.heap.size rb' A' cap' q.R := ⟨hD.blk, owns_mono hD.own (by omega), hD.inn, by have := hD.rb0; omega, hD.len⟩
  refine ⟨h.fr.trans' f15 fun i hi hb => by omega, ⟨?_, ?_, fun i hi hd => ?_, ?_, h.qo.came, h.qo.len, Nat.le_refl _, by omega⟩, h.qo.fr f15 (fun i hi hb => ?_) (fun i hi hb => by omega), fun i hi hq => ?_, hbtset.fr (((Fr.refl No W3).trans f4).no.trans f45) hne, hbrset, ?_, hge⟩
  · exact ((hT.frB f25 (Nat.le_refl _) fun i hi hb => by have := (hT.lt i hi).1; omega).more (by omega) f25.size)
  · exact hD0.fr f45 (by omega) (fun i hi hb => by have := hdl i hi; omega) fun i hi hb => by omega
  · have h1 := (hT.lt i hi).2
    have h2 := hdl i hd
    omega
  · obtain ⟨ds, hs, hpp, hm⟩ := h.qo.rel
    exact ⟨ds, hs, hpp.trans hp.symm, hm⟩
  · rcases hb with rfl | rfl
    · exact h.nt.2.1 hi
    · exact h.nt.2.2.2 hi
  · have h1 := (h.qo.lt i hq).2
    rcases hi with hi | hi
    · have := (hT.lt i hi).1; omega
    · have := hdl i hi; omega
  · refine ⟨fun hi => ?_, h.nt.2.1, fun hi => ?_, h.nt.2.2.2⟩
    · rcases hi with hi | hi
      · have := (hT.lt _ hi).1; omega
      · have := hdl _ hi; omega
    · rcases hi with hi | hi
      · have := (hT.lt _ hi).1; omega
      · have := hdl _ hi; omega

/-- Where the loop begins. -/
theorem li_start {w w1 w2 : World} {tb tb2 : Nat} (hT : Tab w1 w.heap.size w1.heap.size tb w.heap.size (w.heap.size + 1) [] 0) (f1 : Fr No w w1) (hT2 : Tab w2 w1.heap.size w2.heap.size tb2 w1.heap.size (w1.heap.size + 1) [] 0) (f2 : Fr No w1 w2) :
    ∃ p q, LI w w2.heap.size (w2.heap.size + 1 + 1 + 1) 0 p q 0 ((((w2.alloc (.cells #[.pointer (some ⟨tb, 0, none⟩), .pointer (some ⟨tb2, 0, none⟩)] 51)).alloc (.cells #[.slice none 0 0] 55)).alloc (.cells #[.slice none 0 0] 55)).alloc (.cells #[.pointer (some ⟨w2.heap.size + 1, 0, none⟩), .pointer (some ⟨w2.heap.size + 1 + 1, 0, none⟩)] 56)) := by
  have s1 := f1.size
  have s2 := f2.size
  have ba := Blk.new' w2 51 #[.pointer (some ⟨tb, 0, none⟩), .pointer (some ⟨tb2, 0, none⟩)] rfl
  have bb := Blk.new' (w2.alloc (.cells #[.pointer (some ⟨tb, 0, none⟩), .pointer (some ⟨tb2, 0, none⟩)] 51)) 55 #[.slice none 0 0] (g := w2.heap.size + 1) (by simp)
  have bc := Blk.new' ((w2.alloc (.cells #[.pointer (some ⟨tb, 0, none⟩), .pointer (some ⟨tb2, 0, none⟩)] 51)).alloc (.cells #[.slice none 0 0] 55)) 55 #[.slice none 0 0] (g := w2.heap.size + 1 + 1) (by simp)
  have bd := Blk.new' (((w2.alloc (.cells #[.pointer (some ⟨tb, 0, none⟩), .pointer (some ⟨tb2, 0, none⟩)] 51)).alloc (.cells #[.slice none 0 0] 55)).alloc (.cells #[.slice none 0 0] 55)) 56 #[.pointer (some ⟨w2.heap.size + 1, 0, none⟩), .pointer (some ⟨w2.heap.size + 1 + 1, 0, none⟩)] (g := w2.heap.size + 1 + 1 + 1) (by simp)
  have f := ((((Fr.refl No w2).alloc (.cells #[.pointer (some ⟨tb, 0, none⟩), .pointer (some ⟨tb2, 0, none⟩)] 51)).alloc (.cells #[.slice none 0 0] 55)).alloc (.cells #[.slice none 0 0] 55)).alloc (.cells #[.pointer (some ⟨w2.heap.size + 1, 0, none⟩), .pointer (some ⟨w2.heap.size + 1 + 1, 0, none⟩)] 56)
  have ba' := ((ba.alloc (.cells #[.slice none 0 0] 55)).alloc (.cells #[.slice none 0 0] 55)).alloc (.cells #[.pointer (some ⟨w2.heap.size + 1, 0, none⟩), .pointer (some ⟨w2.heap.size + 1 + 1, 0, none⟩)] 56)
  have bb' := (bb.alloc (.cells #[.slice none 0 0] 55)).alloc (.cells #[.pointer (some ⟨w2.heap.size + 1, 0, none⟩), .pointer (some ⟨w2.heap.size + 1 + 1, 0, none⟩)] 56)
  have bc' := bc.alloc (.cells #[.pointer (some ⟨w2.heap.size + 1, 0, none⟩), .pointer (some ⟨w2.heap.size + 1 + 1, 0, none⟩)] 56)
  generalize World.alloc _ (.cells _ 56) = W at *
  have sW := f.size
  have t0 : ∀ i, tabBlocks tb w.heap.size (w.heap.size + 1) [] i → i < w1.heap.size := fun i hi => (hT.lt i hi).2
  have t1 : ∀ i, tabBlocks tb2 w1.heap.size (w1.heap.size + 1) [] i → w1.heap.size ≤ i ∧ i < w2.heap.size := fun i hi => hT2.lt i hi
  have d0 : ∀ rb i, dBlocks rb none 0 0 i → i = rb := fun rb i hi => by
    rcases hi with hi | hi
    · exact hi
    · simp [Value.ownBlock] at hi
  have hdt : ∀ rb, w.heap.size ≤ rb → Blk W rb 55 #[.slice none 0 0] → DTab W w.heap.size w.heap.size rb none 0 [] := fun rb h hb => ⟨hb, World.ownsRow_nil _ _ _ _, by simp, h, by simp⟩
  have hrel : Rel [] [] := ⟨[], List.Pairwise.nil, List.Perm.nil, rfl⟩
  refine ⟨⟨tb, w.heap.size, w.heap.size + 1, [], 0, w2.heap.size + 1, none, 0, []⟩, ⟨tb2, w1.heap.size, w1.heap.size + 1, [], 0, w2.heap.size + 1 + 1, none, 0, []⟩, (f1.trans f2).trans f,
    ⟨((hT.no f2 (Nat.le_refl _)).no f (by omega)).more (Nat.le_refl _) (by omega), hdt (w2.heap.size + 1) (by omega) bb', fun i hi hd => ?_, hrel, Nat.le_refl _, Nat.le_refl _, Nat.le_refl _, by omega⟩,
    ⟨(hT2.no f (Nat.le_refl _)).more (by omega) (by omega), hdt (w2.heap.size + 1 + 1) (by omega) bc', fun i hi hd => ?_, hrel, Nat.le_refl _, Nat.le_refl _, Nat.le_refl _, by omega⟩, fun i hi hq => ?_, by rw [two0]; exact ba', by rw [two0]; exact bd, ?_, by omega, by omega⟩
  · have := t0 i hi; have := d0 (w2.heap.size + 1) i hd; omega
  · have := t1 i hi; have := d0 (w2.heap.size + 1 + 1) i hd; omega
  · rcases hi with hi | hi <;> rcases hq with hq | hq
    · have := t0 i hi; have := t1 i hq; omega
    · have := t0 i hi; have := d0 (w2.heap.size + 1 + 1) i hq; omega
    · have := d0 (w2.heap.size + 1) i hi; have := t1 i hq; omega
    · have := d0 (w2.heap.size + 1) i hi; have := d0 (w2.heap.size + 1 + 1) i hq; omega
  · refine ⟨fun h => ?_, fun h => ?_, fun h => ?_, fun h => ?_⟩
    · rcases h with h | h
      · have := t0 _ h; omega
      · have := d0 (w2.heap.size + 1) _ h; omega
    · rcases h with h | h
      · have := t1 _ h; omega
      · have := d0 (w2.heap.size + 1 + 1) _ h; omega
    · rcases h with h | h
      · have := t0 _ h; omega
      · have := d0 (w2.heap.size + 1) _ h; omega
    · rcases h with h | h
      · have := t1 _ h; omega
      · have := d0 (w2.heap.size + 1 + 1) _ h; omega

end Go.Proofs.Ytihjmipmjogpoaa

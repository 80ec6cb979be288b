/- Texts joined: Wo23, Wo44, Wo32, Wo47. -/
import Derived.Test.YtnddfiohofnbaaaJn9
import Derived.Deep.CutBlock
import Derived.Deep.CutRange
import Derived.StillTailTactics
/- posternlaw09.awake. -/
namespace Go.Proofs.Ytnddfiohofnbaaa
open Go.RowKit

/-- A whole number as a value. -/
def tNum (n : Int) : T := .mk 1 n ⟨#[]⟩ none 0 [] 0
theorem tNum_val (n : Int) : (tNum n).val = .agg #[.int .u8 1, .int .i64 n, .string ⟨#[]⟩, .slice none 0 0, .int .i64 0] := rfl
theorem tNum_v (n : Int) : (tNum n).v = .mk 1 n ⟨#[]⟩ [] 0 := by rw [tNum, T.v_mk]; rfl
theorem tNum_in {n : Int} (h0 : -100 ≤ n) (h1 : n ≤ 100) (w : World) (lo hi : Nat) : (tNum n).In w lo hi :=
  T.in_mk.2 ⟨⟨by decide, by decide, by omega, by omega, by decide, by decide, Nat.le_refl _, by decide, by decide⟩, fun h => absurd rfl h, by simp⟩
theorem tNum_may (n : Int) : (tNum n).v.may = true := by
  rw [tNum_v]
  simp [V.may, V.fits, V.ok_mk, V.size_mk, V.dep_mk, fok]
theorem tNum_refs (n : Int) : (tNum n).v.refs = [] := by
  unfold V.refs
  rw [if_pos (tNum_may n), tNum_v, V.walk_mk]
  simp [walkL, refsOf]

set_option maxRecDepth 100000 in
set_option maxHeartbeats 8000000 in
theorem awake9 (W : World) : Calls Try.prog 9 #[] W fun e w' => e = .returned (.bool true) ∧ Fr No W w' := by
  have HNew := hide (New_one W)
  go_enter Try.func9, Try.ntmps9
  go_wp2_with fail
  refine HNew.out.mono ?_
  rintro e w1 ⟨m, rfl, hok, hth, hmd, f1⟩
  have hs0 : 0 < m.made.length := by rw [hmd]; simp
  have hm0 : m.made[0] = 0 := by simp [hmd]
  have hl0 : m.th.length = 0 := by rw [hth]; rfl
  have hp := Pair_ok hok f1.size 0 hs0 (by omega) (by omega) (by rw [hth]; simp)
  have HP : Hid (Calls Try.prog 11 #[.pointer (some ⟨m.wb, 0, none⟩), .int .i64 0] w1 fun e w' => e = .returned (.tuple #[.int .i64 1, .int .i64 2, .int .i64 0]) ∧ ∃ g1 g2 t1 t2, t1.v = V.zero ∧ t2.v = V.zero ∧ (m.pair g1 g2 t1 t2 0).Ok W.heap.size w' ∧ Fr No W w') := hide (by
    refine hp.mono ?_
    rintro e w' ⟨rfl, g1, g2, t1, t2, h1, h2, h3, h4, -⟩
    rw [hl0]
    exact ⟨rfl, g1, g2, t1, t2, h1, h2, h3, f1.trans' h4 fun i hi hb => by have := (hok.lt i hb).1; omega⟩)
  have HL0 := hide hl0
  have HS0 := hide hs0
  have HM0 := hide hm0
  have HTH := hide hth
  clear hp f1 hok HNew hl0 hm0 hth hmd
  go_wp2_with fail
  refine HP.out.mono ?_
  rintro e w2 ⟨rfl, g1, g2, t1, t2, hv1, hv2, hok2, f2⟩
  have hl0 := HL0.out
  obtain ⟨m2, hm2⟩ : ∃ m2, m2 = m.pair g1 g2 t1 t2 0 := ⟨_, rfl⟩
  have hl2 : m2.th.length = 2 := by rw [hm2, pair_len, hl0]
  have hs2 : 0 < m2.made.length := by rw [hm2, pair_made]; exact hs0
  have hd2 : m2.made[0] = 2 := by
    have := pair_made_at (m := m) (g1 := g1) (g2 := g2) (t1 := t1) (t2 := t2) hs0
    rw [HM0.out] at this
    simpa [hm2] using this
  have hwb2 : m2.wb = m.wb := by rw [hm2]; rfl
  have hs1 : m2.get 1 = some (g1, ⟨5, 0, t1, 0, 0, 0, 0, 0, false⟩) := by
    have := pair_sealer (m := m) (g1 := g1) (g2 := g2) (t1 := t1) (t2 := t2) (s := 0)
    rw [hl0] at this
    rw [hm2]; exact this
  have ho2 : m2.get 2 = some (g2, ⟨6, 0, t2, 0, 0, 1, 0, 0, false⟩) := by
    have := pair_opener (m := m) (g1 := g1) (g2 := g2) (t1 := t1) (t2 := t2) (s := 0)
    rw [hl0] at this
    rw [hm2]; exact this
  have hof2 : ∀ x ∈ m2.th, x.2.ofr ≤ (m2.th.length : Int) := by rw [hm2]; exact pair_ofr (by rw [HTH.out]; simp)
  rw [← hm2] at hok2
  have hp2 := Pair_ok hok2 f2.size 0 hs2 (by rw [hd2]; omega) (by omega) hof2
  have HP2 : Hid (Calls Try.prog 11 #[.pointer (some ⟨m.wb, 0, none⟩), .int .i64 0] w2 fun e w' => e = .returned (.tuple #[.int .i64 3, .int .i64 4, .int .i64 0]) ∧ ∃ g3 g4 t3 t4, t3.v = V.zero ∧ t4.v = V.zero ∧ (m2.pair g3 g4 t3 t4 0).Ok W.heap.size w' ∧ Fr No W w') := hide (by
    rw [← hwb2]
    refine hp2.mono ?_
    rintro e w' ⟨rfl, g3, g4, t3, t4, h1, h2, h3, h4, -⟩
    rw [hl2]
    exact ⟨rfl, g3, g4, t3, t4, h1, h2, h3, f2.trans' h4 fun i hi hb => by have := (hok2.lt i hb).1; omega⟩)
  have HV1 := hide hv1
  have HV2 := hide hv2
  have HS1 := hide hs1
  have HO2 := hide ho2
  have HL2 := hide hl2
  have HD2 := hide hd2
  have HWB2 := hide hwb2
  have HOF2 := hide hof2
  clear hp2 hv1 hv2 hs1 ho2 hl2 hd2 hwb2 hof2 hok2 f2 hm2 hl0 HP
  go_wp2_with fail
  refine HP2.out.mono ?_
  rintro e w3 ⟨rfl, g3, g4, t3, t4, hv3, hv4, hok4, f4⟩
  have hl2 := HL2.out
  obtain ⟨m4, hm4⟩ : ∃ m4, m4 = m2.pair g3 g4 t3 t4 0 := ⟨_, rfl⟩
  have hl4 : m4.th.length = 4 := by rw [hm4, pair_len, hl2]
  have hs4 : 0 < m4.made.length := by rw [hm4, pair_made]; exact hs2
  have hd4 : m4.made[0] = 4 := by
    have := pair_made_at (m := m2) (g1 := g3) (g2 := g4) (t1 := t3) (t2 := t4) hs2
    rw [HD2.out] at this
    simpa [hm4] using this
  have hwb4 : m4.wb = m.wb := by rw [hm4, ← HWB2.out]; rfl
  have h1 : m4.get 1 = some (g1, ⟨5, 0, t1, 0, 0, 0, 0, 0, false⟩) := by rw [hm4]; exact pair_old HS1.out
  have h2 : m4.get 2 = some (g2, ⟨6, 0, t2, 0, 0, 1, 0, 0, false⟩) := by rw [hm4]; exact pair_old HO2.out
  have h4 : m4.get 4 = some (g4, ⟨6, 0, t4, 0, 0, 3, 0, 0, false⟩) := by
    have := pair_opener (m := m2) (g1 := g3) (g2 := g4) (t1 := t3) (t2 := t4) (s := 0)
    rw [hl2] at this
    rw [hm4]; exact this
  rw [← hm4] at hok4
  have hse := Seal_ok hok4 f4.size 0 hs4 (by rw [hd4]; omega) (by omega) h1 rfl rfl (tNum 7) w3.heap.size (tNum_in (by omega) (by omega) _ _ _) (Nat.le_refl _) (tNum_may 7) (by rw [tNum_refs]; simp) (by rw [tNum_refs]; rfl)
  rw [tNum_val] at hse
  have HSE : Hid (Calls Try.prog 13 #[.pointer (some ⟨m.wb, 0, none⟩), .int .i64 1, .agg #[.int .u8 1, .int .i64 7, .string ⟨#[]⟩, .slice none 0 0, .int .i64 0]] w3 fun e w' => e = .returned (.tuple #[.int .i64 5, .int .i64 0]) ∧ ∃ g t, t.v = (tNum 7).v ∧ (m4.add g ⟨7, 0, t, 0, 0, 1, 0, 0, false⟩ 0).Ok W.heap.size w' ∧ Fr No W w') := hide (by
    rw [← hwb4]
    refine hse.mono ?_
    rintro e w' ⟨rfl, g, t', q1, q2, q3, -⟩
    rw [hl4]
    exact ⟨rfl, g, t', q1, q2, f4.trans' q3 fun i hi hb => by have := (hok4.lt i hb).1; omega⟩)
  have HV4 := hide hv4
  have HG2 := hide h2
  have HG4 := hide h4
  have HL4 := hide hl4
  have HWB4 := hide hwb4
  clear hse hv3 hv4 h1 h2 h4 hl4 hwb4 hok4 f4 hm4 hl2 HP2 hd4
  go_wp2_with fail
  refine HSE.out.mono ?_
  rintro e w4 ⟨rfl, g5, t5, hv5, hok5, f5⟩
  obtain ⟨m5, hm5⟩ : ∃ m5, m5 = m4.add g5 ⟨7, 0, t5, 0, 0, 1, 0, 0, false⟩ 0 := ⟨_, rfl⟩
  have h2 : m5.get 2 = some (g2, ⟨6, 0, t2, 0, 0, 1, 0, 0, false⟩) := by rw [hm5]; exact add_get_old HG2.out
  have h4 : m5.get 4 = some (g4, ⟨6, 0, t4, 0, 0, 3, 0, 0, false⟩) := by rw [hm5]; exact add_get_old HG4.out
  have h5 : m5.get 5 = some (g5, ⟨7, 0, t5, 0, 0, 1, 0, 0, false⟩) := by
    have := add_get_new (m := m4) g5 0 ⟨7, 0, t5, 0, 0, 1, 0, 0, false⟩
    rw [HL4.out] at this
    rw [hm5]; exact this
  have hwb5 : m5.wb = m.wb := by rw [hm5, ← HWB4.out]; rfl
  rw [← hm5] at hok5
  have my2 : t2.v.may = true := by rw [HV2.out]; exact zero_may
  have my4 : t4.v.may = true := by rw [HV4.out]; exact zero_may
  have my5 : t5.v.may = true := by rw [hv5]; exact tNum_may 7
  have HO1 : Hid (∀ W', Fr No w4 W' → Calls Try.prog 20 #[.pointer (some ⟨m.wb, 0, none⟩), .int .i64 2, .agg #[.int .u8 4, .int .i64 0, .string ⟨#[]⟩, .slice none 0 0, .int .i64 5]] W' fun e w' => (∃ t' : T, e = .returned (.tuple #[t'.val, .int .i64 0]) ∧ t'.v = .mk 1 7 ⟨#[]⟩ [] 0) ∧ Fr No W' w') := hide (fun W' f => by
    rw [← hwb5]
    refine (Open_ok (hok5.no f) h2 rfl my2 h5 rfl my5).mono ?_
    rintro e w' ⟨q1, -, q3⟩
    obtain ⟨t', rfl, hv, -⟩ := q1 rfl
    exact ⟨⟨t', rfl, by rw [hv]; show t5.v = _; rw [hv5, tNum_v]⟩, q3⟩)
  have HO2' : Hid (∀ W', Fr No w4 W' → Calls Try.prog 20 #[.pointer (some ⟨m.wb, 0, none⟩), .int .i64 4, .agg #[.int .u8 4, .int .i64 0, .string ⟨#[]⟩, .slice none 0 0, .int .i64 5]] W' fun e w' => e = .returned (.tuple #[.agg #[.int .u8 0, .int .i64 0, .string ⟨#[]⟩, .slice none 0 0, .int .i64 0], .int .i64 91]) ∧ Fr No W' w') := hide (fun W' f => by
    rw [← hwb5]
    refine (Open_ok (hok5.no f) h4 rfl my4 h5 rfl my5).mono ?_
    rintro e w' ⟨-, q2, q3⟩
    exact ⟨q2 (by simp), q3⟩)
  have HSM : Hid (∀ W', Fr No w4 W' → Calls Try.prog 35 #[.pointer (some ⟨m.wb, 0, none⟩), .int .i64 2, .int .i64 5] W' fun e w' => e = .returned (.tuple #[.bool true, .int .i64 0]) ∧ Fr No W' w') := hide (fun W' f => by
    rw [← hwb5]
    refine (Same_w (hok5.no f) h2 (.inr (.inl rfl)) my2 (by simp [Th.pairOf]) (by simp [Th.pairOf]) h5 (.inr (.inr rfl)) my5 (by simp [Th.pairOf]) (by simp [Th.pairOf])).mono ?_
    rintro e w' ⟨rfl, q⟩
    exact ⟨by simp [Th.pairOf], q⟩)
  have HF5 := hide f5
  clear h2 h4 h5 hwb5 my2 my4 my5 hok5 hv5 f5 hm5 HSE
  go_wp2_with fail
  refine (HO1.out w4 (Fr.refl No w4)).mono ?_
  rintro e w5 ⟨⟨⟨k, n, s, A, cap, l, r⟩, rfl, hv⟩, fa⟩
  rw [T.v_mk] at hv
  injection hv with e1 e2 e3 e4 e5
  subst e1 e2 e3 e5
  rw [T.val_mk]
  have fb := fa.alloc (.cells #[.int .u8 1, .int .i64 7, .string ⟨#[]⟩, .slice A l.length cap, .int .i64 0] 37)
  have b11 := Blk.new w5 37 #[.int .u8 1, .int .i64 7, .string ⟨#[]⟩, .slice A l.length cap, .int .i64 0]
  have HB := hide b11
  have HFB := hide fb
  clear fa fb b11 e4 HO1
  go_wp2_with fail
  generalize hw6 : World.alloc w5 _ = w6 at *
  generalize hg11 : w5.heap.size = g11 at *
  refine (HO2'.out w6 HFB.out).mono ?_
  rintro e w7 ⟨rfl, fa⟩
  have fb := fa.alloc (.cells #[.int .u8 0, .int .i64 0, .string ⟨#[]⟩, .slice none 0 0, .int .i64 0] 37)
  have b11 := HB.out.fr fb fun h => h
  have HB7 := hide b11
  have HFB7 := hide (HFB.out.trans fb)
  clear fa fb b11 HO2' hw6 hg11
  go_wp2_with fail
  generalize World.alloc w7 _ = w8 at *
  refine (HSM.out w8 HFB7.out).mono ?_
  rintro e w9 ⟨rfl, fa⟩
  have b11 := HB7.out.fr fa fun h => h
  obtain ⟨d0, d1, d2, d3, d4, df⟩ := b11.cells5
  have dq := b11.lt
  have HFE := hide ((HF5.out.trans HFB7.out).trans fa)
  clear b11 fa HSM
  go_wp2_with fail
  go_ret
  exact ⟨rfl, HFE.out⟩

end Go.Proofs.Ytnddfiohofnbaaa

/- posternlaw09.SealSealed: its first loop. -/
namespace Go.Proofs.Ytnddfiohofnbaaa
open Go.RowKit

/-- The references of what within answers are things. -/
theorem win_are {W : World} {wb q : Nat} {As : Option Addr} {cs : Nat} {Ao : Option Addr} {co : Nat} {A1 : Option Addr} {c1 : Nat} {A2 : Option Addr} {c2 : Nat} {A3 : Option Addr} {c3 : Nat} {bx : List (Nat × T)} {m : Wm} {wr : World}
    (h : SL W wb q As cs Ao co A1 c1 A2 c2 A3 c3 bx m wr) (v : V) : m.are (v.win (12 + (q : Int))).refs = true := by
  unfold Wm.are
  rw [List.all_eq_true]
  intro r hr
  obtain ⟨h1, h2⟩ := win_refs (by omega) v r hr
  unfold Wm.get Wm.at_
  rw [if_pos (by rw [h.th]; omega)]
  simp only [Option.bind_some]
  rw [List.getElem?_eq_getElem (by rw [h.th]; omega)]
  rfl

/-- One round: what is sealed. -/
theorem sl_seal {W : World} {wb : Nat} {As : Option Addr} {cs : Nat} {Ao : Option Addr} {co : Nat} {A1 : Option Addr} {c1 : Nat} {A2 : Option Addr} {c2 : Nat} {A3 : Option Addr} {c3 : Nat} {bx : List (Nat × T)} {m : Wm} {wr : World}
    (h : SL W wb bx.length As cs Ao co A1 c1 A2 c2 A3 c3 bx m wr) (hn : bx.length < 60) {k : Nat} (hk : k < 6) (v : V) (t : T) (hv : t.v = v.win (12 + (bx.length : Int))) {b0 : Nat} (ht : t.Sh wr b0 wr.heap.size) (_ : W.heap.size ≤ b0) (hfar : ∀ b ∈ t.blocks, ¬ m.B b ∧ (Value.slice A3 bx.length c3).ownBlock ≠ some b) :
    Calls Try.prog 13 #[.pointer (some ⟨wb, 0, none⟩), .int .i64 (2 * (k : Int) + 1), t.val] wr fun e w' =>
      (t.v.may = true → e = .returned (.tuple #[.int .i64 (13 + (bx.length : Int)), .int .i64 0]) ∧ Fr m.B wr w' ∧ ∃ m', SL W wb (bx.length + 1) As cs Ao co A1 c1 A2 c2 A3 c3 bx m' w' ∧ IsBox m' bx.length (k, t) ∧ ∀ b ∈ t.blocks, ¬ m'.B b) ∧
      (t.v.may = false → e = .returned (.tuple #[.int .i64 0, .int .i64 2]) ∧ Fr No wr w') := by
  obtain rfl := h.wb
  cases hm : t.v.may with
  | false =>
    refine (Seal_arg h.ok _ t wr.heap.size (ht.inn.more (Nat.zero_le _) (Nat.le_refl _)) (Nat.le_refl _) hm).mono ?_
    rintro e w' hp
    exact ⟨nofun, fun _ => hp⟩
  | true =>
    obtain ⟨⟨g, t1, hg⟩, -⟩ := h.pr k hk
    have hs : 0 < m.made.length := by rw [h.made]; simp
    have hm0 : m.made[0] = 12 + bx.length := by simp [h.made]
    refine (Seal_ok h.ok h.fr.size 0 hs (by rw [hm0]; omega) (by rw [h.th]; omega) hg rfl rfl t wr.heap.size (ht.inn.more (Nat.zero_le _) (Nat.le_refl _)) (Nat.le_refl _) hm (Nat.le_trans (refs_length _) (by omega)) (by rw [hv]; exact win_are h v)).mono ?_
    rintro e w' ⟨rfl, g', t', h1, h2, h3, h4⟩
    refine ⟨fun _ => ⟨by rw [h.th, show ((12 + bx.length : Nat) : Int) + 1 = 13 + (bx.length : Int) by omega], h3, _, h.seal h2 h3 h4, ⟨hk, hm, g', t', h1, ?_⟩, fun b hb hB => (hfar b hb).1 (h4 b hB (T.In.blocks _ ht.inn b hb).2)⟩, nofun⟩
    have := add_get_new (m := m) g' 0 ⟨7, ((0 : Nat) : Int), t', 0, 0, 2 * (k : Int) + 1, 0, 0, false⟩
    rw [h.th, show ((12 + bx.length : Nat) : Int) + 1 = 13 + (bx.length : Int) by omega] at this
    exact this



theorem int3_info : (Try.prog.info? 3).map (fun i => (i.zero, i.size, i.bytes)) = some (some (.int .i64 0), 1, 8) := by kernel_rfl

/-- Where the first loop's cut stands. -/
def S1R (W : World) (wb : Nat) (As : Option Addr) (cs : Nat) (Ao : Option Addr) (co : Nat) (b p h : Value) (wr : World) : Prop :=
  ∃ (A1 : Option Addr) (c1 : Nat) (A2 : Option Addr) (c2 : Nat) (A3 : Option Addr) (c3 : Nat) (bx : List (Nat × T)) (m : Wm), b = .slice A1 bx.length c1 ∧ p = .slice A2 bx.length c2 ∧ h = .slice A3 bx.length c3 ∧ bx.length ≤ 60 ∧ SL W wb bx.length As cs Ao co A1 c1 A2 c2 A3 c3 bx m wr

section
variable {W : World} {wb q : Nat} {As : Option Addr} {cs : Nat} {Ao : Option Addr} {co : Nat} {A1 : Option Addr} {c1 : Nat} {A2 : Option Addr} {c2 : Nat} {A3 : Option Addr} {c3 : Nat} {bx : List (Nat × T)} {m : Wm} {wr : World}

theorem rows_ne (h : SL W wb q As cs Ao co A1 c1 A2 c2 A3 c3 bx m wr) : (∀ b, (Value.slice A1 bx.length c1).ownBlock = some b → (Value.slice A2 bx.length c2).ownBlock ≠ some b ∧ (Value.slice A3 bx.length c3).ownBlock ≠ some b) ∧ (∀ b, (Value.slice A2 bx.length c2).ownBlock = some b → (Value.slice A3 bx.length c3).ownBlock ≠ some b ∧ (Value.slice A1 bx.length c1).ownBlock ≠ some b) ∧ ∀ b, (Value.slice A3 bx.length c3).ownBlock = some b → (Value.slice A1 bx.length c1).ownBlock ≠ some b ∧ (Value.slice A2 bx.length c2).ownBlock ≠ some b := by
  have d12 : ∀ b, (Value.slice A1 bx.length c1).ownBlock = some b → (Value.slice A2 bx.length c2).ownBlock ≠ some b := fun b h1 h2 => by
    obtain ⟨_, q1⟩ := owns_typed h.r1 h1
    obtain ⟨_, q2⟩ := owns_typed h.r2 h2
    exact Blk.ne_ q1 q2 (by decide) rfl
  have d13 : ∀ b, (Value.slice A1 bx.length c1).ownBlock = some b → (Value.slice A3 bx.length c3).ownBlock ≠ some b := fun b h1 h2 => by
    obtain ⟨_, q1⟩ := owns_typed h.r1 h1
    obtain ⟨_, q2⟩ := owns_typed h.r3 h2
    exact Blk.ne_ q1 q2 (by decide) rfl
  have d23 : ∀ b, (Value.slice A2 bx.length c2).ownBlock = some b → (Value.slice A3 bx.length c3).ownBlock ≠ some b := fun b h1 h2 => by
    obtain ⟨_, q1⟩ := owns_typed h.r2 h1
    obtain ⟨_, q2⟩ := owns_typed h.r3 h2
    exact Blk.ne_ q1 q2 (by decide) rfl
  exact ⟨fun b hb => ⟨d12 b hb, d13 b hb⟩, fun b hb => ⟨d23 b hb, fun q => d12 b q hb⟩, fun b hb => ⟨fun q => d13 b q hb, fun q => d23 b q hb⟩⟩

theorem box_ne (h : SL W wb q As cs Ao co A1 c1 A2 c2 A3 c3 bx m wr) {gb : Nat} {ce : Array Value} (hb : Blk wr gb 37 ce) (hl : ∀ g, (Value.slice A3 bx.length c3).ownBlock = some g → g < gb) : ¬ ((Value.slice A1 bx.length c1).ownBlock = some gb ∨ (Value.slice A2 bx.length c2).ownBlock = some gb ∨ (Value.slice A3 bx.length c3).ownBlock = some gb) := by
  rintro (h1 | h1 | h1)
  · obtain ⟨_, q1⟩ := owns_typed h.r1 h1
    exact Blk.ne_ hb q1 (by decide) rfl
  · obtain ⟨_, q1⟩ := owns_typed h.r2 h1
    exact Blk.ne_ hb q1 (by decide) rfl
  · exact Nat.lt_irrefl _ (hl _ h1)
end

end Go.Proofs.Ytnddfiohofnbaaa

/- posternref09.Over: what was told is written over. -/
namespace Go.Proofs.Ytnddfiohofnbaaa
open Go.RowKit

theorem nodup_at {L : List (List Nat)} (h : L.flatten.Nodup) {i j : Nat} (hi : i < L.length) (hj : j < L.length) (hij : i < j) {b : Nat} (hb : b ∈ L[i]) : b ∉ L[j] := by
  induction L generalizing i j with
  | nil => simp at hi
  | cons a L ih =>
    rw [List.flatten_cons, List.nodup_append] at h
    cases i with
    | zero =>
      cases j with
      | zero => omega
      | succ j =>
        intro h2
        exact h.2.2 b hb b (List.mem_flatten.2 ⟨_, List.getElem_mem (by simpa using hj), h2⟩) rfl
    | succ i =>
      cases j with
      | zero => omega
      | succ j => exact ih h.2.1 (by simpa using hi) (by simpa using hj) (by omega) hb

theorem T.In.keepB {w w' : World} {lo hi : Nat} (t : T) : t.In w lo hi → (∀ b ∈ t.blocks, ∀ o, w'.cell? ⟨b, o, none⟩ = w.cell? ⟨b, o, none⟩) → t.In w' lo hi := by
  induction t using T.ind with
  | h k n s A cap l r ih =>
    rw [T.in_mk, T.in_mk, T.blocks_mk]
    rintro ⟨h1, h2, h3⟩ hk
    refine ⟨h1, fun hl => ?_, fun x hx => ih x hx (h3 x hx) (fun b hb => hk b (List.mem_append_right _ (List.mem_flatten.2 ⟨_, List.mem_map_of_mem hx, hb⟩)))⟩
    obtain ⟨b, o, rfl, hb0, hb1, hc⟩ := h2 hl
    refine ⟨b, o, rfl, hb0, hb1, fun i x hx j u hu => (hk b ?_ _).trans (hc i x hx j u hu)⟩
    cases l with
    | nil => exact absurd rfl hl
    | cons x l => simp

theorem T.mem_blocks {k n : Int} {s : ByteArray} {b o cap : Nat} {l : List T} {r : Int} (hl : l ≠ []) : b ∈ (T.mk k n s (some ⟨b, o, none⟩) cap l r).blocks := by
  rw [T.blocks_mk]
  cases l with
  | nil => exact absurd rfl hl
  | cons x l => simp

theorem T.sub_blocks {k n : Int} {s : ByteArray} {A : Option Addr} {cap : Nat} {l : List T} {r : Int} {x : T} (hx : x ∈ l) {b : Nat} (hb : b ∈ x.blocks) : b ∈ (T.mk k n s A cap l r).blocks := by
  rw [T.blocks_mk]
  exact List.mem_append_right _ (List.mem_flatten.2 ⟨_, List.mem_map_of_mem hx, hb⟩)

theorem sp_child_ne {k n : Int} {s : ByteArray} {g o cap : Nat} {l : List T} {r : Int} (h : (T.mk k n s (some ⟨g, o, none⟩) cap l r).blocks.Nodup) {x : T} (hx : x ∈ l) : g ∉ x.blocks := by
  intro hg
  rw [T.blocks_mk] at h
  have hne : l.isEmpty = false := by cases l with
    | nil => cases hx
    | cons => rfl
  rw [hne] at h
  simp only [Bool.false_eq_true, if_false, Option.map_some, Option.toList_some, List.singleton_append, List.nodup_cons] at h
  exact h.1 (List.mem_flatten.2 ⟨_, List.mem_map_of_mem hx, hg⟩)

theorem sp_child_far {k n : Int} {s : ByteArray} {A : Option Addr} {cap : Nat} {l : List T} {r : Int} (h : (T.mk k n s A cap l r).blocks.Nodup) {i j : Nat} (hi : i < l.length) (hj : j < l.length) (hij : i < j) {b : Nat} (hb : b ∈ l[j].blocks) : b ∉ l[i].blocks := by
  rw [T.blocks_mk, List.nodup_append] at h
  intro hb2
  have := nodup_at (L := l.map T.blocks) h.2.1 (i := i) (j := j) (by simpa using hi) (by simpa using hj) hij (b := b) (by simpa using hb2)
  exact this (by simpa using hb)

theorem sp_child_nodup {k n : Int} {s : ByteArray} {A : Option Addr} {cap : Nat} {l : List T} {r : Int} (h : (T.mk k n s A cap l r).blocks.Nodup) {x : T} (hx : x ∈ l) : x.blocks.Nodup := by
  rw [T.blocks_mk, List.nodup_append] at h
  have h2 := h.2.1
  clear h
  induction l with
  | nil => cases hx
  | cons a l ih =>
    rw [List.map_cons, List.flatten_cons, List.nodup_append] at h2
    rcases List.mem_cons.1 hx with rfl | hx
    · exact h2.1
    · exact ih hx h2.2.1

theorem T.Ow.frB {S : Nat → Prop} {w w' : World} {lo hi : Nat} {t : T} (h : t.Ow w lo hi) (hf : Fr S w w') (hh : hi ≤ w.heap.size) (hs : ∀ b ∈ t.blocks, ¬ S b) : t.Ow w' lo hi :=
  ⟨T.In.keepB t h.inn fun b hb o => hf.cell (by have := T.In.blocks t h.inn b hb; omega) (hs b hb), h.nodup, fun b hb o => by
    have := T.In.blocks t h.inn b hb
    rw [hf.frozen (by omega) (hs b hb)]
    exact h.free b hb o⟩

/-- Five cells written over: the others of the block. -/
theorem five_far (w : World) (g p q : Nat) (x0 x1 x2 x3 x4 : Value) (h : q < p ∨ p + 5 ≤ q) :
    (((((w.setCell ⟨g, p, none⟩ x0).setCell ⟨g, p + 1, none⟩ x1).setCell ⟨g, p + 2, none⟩ x2).setCell ⟨g, p + 3, none⟩ x3).setCell ⟨g, p + 4, none⟩ x4).cell? ⟨g, q, none⟩ = w.cell? ⟨g, q, none⟩ := by
  have e : ∀ c, c < 5 → (⟨g, p + c, none⟩ : Addr) ≠ ⟨g, q, none⟩ := fun c hc h' => by simp only [Addr.mk.injEq, true_and, and_true] at h'; omega
  rw [World.cell?_setCell_other _ _ _ _ (e 4 (by omega)), World.cell?_setCell_other _ _ _ _ (e 3 (by omega)), World.cell?_setCell_other _ _ _ _ (e 2 (by omega)), World.cell?_setCell_other _ _ _ _ (e 1 (by omega)), World.cell?_setCell_other _ _ _ _ (by have := e 0 (by omega); simp only [Nat.add_zero] at this; exact this)]

/-- Where spoil's loop stands. -/
structure S4Inv (w : World) (lo hi : Nat) (k n : Int) (s : ByteArray) (A : Option Addr) (cap : Nat) (l : List T) (r : Int) (b o : Nat) (j : Nat) (wr : World) : Prop where
  fr : Fr (fun i => i ∈ (T.mk k n s A cap l r).blocks) w wr
  box : Blk wr w.heap.size 37 #[.int .u8 k, .int .i64 n, .string s, .slice A l.length cap, .int .i64 r]
  rest : ∀ i x, l[i]? = some x → j ≤ i → x.Ow wr lo hi ∧ Five wr b (o + i * 5) x
  free : l ≠ [] → ∀ q, wr.frozen? ⟨b, q, none⟩ = false

/-- One part is spoiled, then written over. -/
theorem s4_push {w wr w2 : World} {lo hi : Nat} {k n : Int} {s : ByteArray} {b o cap : Nat} {l : List T} {r : Int} {j : Nat} (inv : S4Inv w lo hi k n s (some ⟨b, o, none⟩) cap l r b o j wr) (hnd : (T.mk k n s (some ⟨b, o, none⟩) cap l r).blocks.Nodup) (hj : j < l.length) (hh : hi ≤ w.heap.size) (hb : b < w.heap.size)
    (f2 : Fr (fun i => i ∈ l[j].blocks) wr w2) :
    Blk w2 w.heap.size 37 #[.int .u8 k, .int .i64 n, .string s, .slice (some ⟨b, o, none⟩) l.length cap, .int .i64 r] ∧ Five w2 b (o + j * 5) l[j] ∧ (∀ q, w2.frozen? ⟨b, q, none⟩ = false) ∧
    S4Inv w lo hi k n s (some ⟨b, o, none⟩) cap l r b o (j + 1) (((((w2.setCell ⟨b, o + j * 5, none⟩ (.int .u8 99)).setCell ⟨b, o + j * 5 + 1, none⟩ (.int .i64 0)).setCell ⟨b, o + j * 5 + 2, none⟩ (.string ⟨#[]⟩)).setCell ⟨b, o + j * 5 + 3, none⟩ (.slice none 0 0)).setCell ⟨b, o + j * 5 + 4, none⟩ (.int .i64 0)) := by
  have hne : l ≠ [] := by rintro rfl; simp at hj
  have hmem := List.getElem_mem hj
  have hbn := sp_child_ne hnd hmem
  have hsz := inv.fr.size
  have h5 := inv.rest j _ (List.getElem?_eq_getElem hj) (Nat.le_refl _)
  have hbl := T.In.blocks _ h5.1.inn
  have b2 := inv.box.fr f2 (fun h => by have := hbl _ h; omega)
  have fz : ∀ q, w2.frozen? ⟨b, q, none⟩ = false := fun q => (f2.frozen (by omega) hbn).trans (inv.free hne q)
  have F5 := (Fr.refl (fun i => i = b) w2).five (g := b) (fun _ => rfl) (o + j * 5) (.int .u8 99) (.int .i64 0) (.string ⟨#[]⟩) (.slice none 0 0) (.int .i64 0)
  have hbm : b ∈ (T.mk k n s (some ⟨b, o, none⟩) cap l r).blocks := T.mem_blocks hne
  refine ⟨b2, fun c u hu => (f2.cell (by omega) hbn).trans (h5.2 c u hu), fz, ⟨?_, ?_, fun i x hx hij => ?_, fun _ q => by simp [fz]⟩⟩
  · exact (inv.fr.trans' f2 fun i _ h => T.sub_blocks hmem h).trans' F5 fun i _ h => by have h' : i = b := h; rw [h']; exact hbm
  · exact b2.fr F5 (fun h => by have h' : w.heap.size = b := h; omega)
  · obtain ⟨h1, h2⟩ := inv.rest i x hx (by omega)
    obtain ⟨hi', rfl⟩ := List.getElem?_eq_some_iff.1 hx
    have hs2 := f2.size
    refine ⟨(h1.frB f2 (by omega) (fun c hc hc2 => sp_child_far hnd hj hi' (by omega) hc hc2)).frB F5 (by omega) (fun c hc h => by have h' : c = b := h; subst h'; exact sp_child_ne hnd (List.getElem_mem hi') hc), fun c u hu => ?_⟩
    have hc : c < 5 := by
      have := (List.getElem?_eq_some_iff.1 hu).1
      rw [T.cells_length] at this
      exact this
    rw [five_far _ _ _ _ _ _ _ _ _ (by omega)]
    exact (f2.cell (by omega) hbn).trans (h2 c u hu)

set_option maxRecDepth 100000 in
set_option maxHeartbeats 8000000 in
theorem spoil4_any (t : T) : ∀ (w : World) (lo hi : Nat), t.Ow w lo hi → hi ≤ w.heap.size →
    Calls Try.prog 24 #[t.val] w fun e w' => (∃ v, e = .returned v) ∧ Fr (fun i => i ∈ t.blocks) w w' := by
  induction t using T.ind with
  | h k n s A cap l r ih =>
    intro w lo hi how hh
    have hin := how.inn
    have fit := (T.in_mk.1 hin).1
    have hlen := fit.len1
    have hnd := how.nodup
    obtain ⟨b, o, hA⟩ : ∃ b o, l ≠ [] → A = some ⟨b, o, none⟩ ∧ b < hi ∧ ∀ i x, l[i]? = some x → Five w b (o + i * 5) x := by
      by_cases hl : l = []
      · exact ⟨0, 0, fun h => absurd hl h⟩
      · obtain ⟨b, o, h1, h2, h3, h4⟩ := (T.in_mk.1 hin).2.1 hl
        exact ⟨b, o, fun _ => ⟨h1, h3, h4⟩⟩
    rw [T.val_mk]
    have hinv0 : S4Inv w lo hi k n s A cap l r b o 0 (w.alloc (.cells #[.int .u8 k, .int .i64 n, .string s, .slice A l.length cap, .int .i64 r] 37)) := by
      have fa := (Fr.refl No w).alloc (.cells #[.int .u8 k, .int .i64 n, .string s, .slice A l.length cap, .int .i64 r] 37)
      refine ⟨fa.no, Blk.new w 37 _, fun i x hx _ => ?_, fun hl q => ?_⟩
      · have hm := List.mem_of_getElem? hx
        have hl : l ≠ [] := by rintro rfl; cases hm
        obtain ⟨h1, h2, h3⟩ := hA hl
        refine ⟨T.Ow.no (⟨(T.in_mk.1 hin).2.2 x hm, sp_child_nodup hnd hm, fun c hc => how.free c (T.sub_blocks hm hc)⟩ : x.Ow w lo hi) fa hh, fun c u hu => (fa.cell (by omega) (fun h => h)).trans (h3 i x hx c u hu)⟩
      · obtain ⟨rfl, h2, h3⟩ := hA hl
        exact (fa.frozen (by omega) (fun h => h)).trans (how.free b (T.mem_blocks hl) q)
    clear how hin
    go_enter Try.func24, Try.ntmps24
    go_wp2_with fail
    go_loopw [2] (fun i wr => ∃ j : Nat, j ≤ l.length ∧ i = .int .i64 (j : Int) ∧ S4Inv w lo hi k n s A cap l r b o j wr) (fun i _ => l.length - (intOf i).toNat)
    case atStart => exact ⟨0, Nat.zero_le _, rfl, hinv0⟩
    case round =>
      obtain ⟨j, hj, rfl, inv⟩ := hrel
      obtain ⟨c0, c1, c2, c3, c4, cf⟩ := inv.box.cells5
      have q0 := inv.box.lt
      by_cases hlt : j < l.length
      · have hne : l ≠ [] := by rintro rfl; simp at hlt
        obtain ⟨rfl, hbh, -⟩ := hA hne
        have hsz := inv.fr.size
        obtain ⟨hjo, hj5⟩ := inv.rest j _ (List.getElem?_eq_getElem hlt) (Nat.le_refl _)
        have hcase := ih l[j] (List.getElem_mem hlt) wr lo hi hjo (by omega)
        have hpush := fun w2 (f2 : Fr (fun i => i ∈ l[j].blocks) wr w2) => s4_push inv hnd hlt hh (by omega) f2
        cases hx : l[j] with
        | mk k1 n1 s1 A1 cap1 l1 r1 =>
          rw [hx] at hcase hpush hj5
          rw [T.val_mk] at hcase
          have e0 := hj5 0 _ rfl
          have e1 := hj5 1 _ rfl
          have e2 := hj5 2 _ rfl
          have e3 := hj5 3 _ rfl
          have e4 := hj5 4 _ rfl
          simp only [Nat.add_zero] at e0
          generalize (T.mk k1 n1 s1 A1 cap1 l1 r1).blocks = bl at *
          have HC := hide hcase
          have HP := hide hpush
          have qb : b < wr.heap.size := by omega
          have HH := hide hh
          clear hcase hpush hx ih inv hinv0 hnd hA hjo hj5 hh
          go_wp2_with fail
          refine HC.out.mono ?_
          rintro e w2 ⟨⟨v, rfl⟩, f2⟩
          obtain ⟨b2, o2, fz, inv2⟩ := HP.out w2 f2
          clear c0 c1 c2 c3 c4 cf q0 e0 e1 e2 e3 e4
          obtain ⟨c0, c1, c2, c3, c4, cf⟩ := b2.cells5
          have q0 := b2.lt
          have e0 := o2 0 _ rfl
          have e1 := o2 1 _ rfl
          have e2 := o2 2 _ rfl
          have e3 := o2 3 _ rfl
          have e4 := o2 4 _ rfl
          have qb2 : b < w2.heap.size := by have := f2.size; omega
          have HI := hide inv2
          clear b2 o2 f2 inv2 HP HC
          simp only [Nat.add_zero] at e0
          go_wp2_with fail
          go_roundw
          case rel => exact ⟨j + 1, hlt, by go_num, HI.out⟩
          case measure => simp [intOf]; omega
      · obtain rfl : l.length = j := by omega
        have HI := hide inv.fr
        clear inv ih hinv0 hnd hA
        go_wp2
        go_end0
        exact ⟨⟨_, rfl⟩, HI.out⟩

end Go.Proofs.Ytnddfiohofnbaaa

/- SealSealed: what an opener answers of a box; the second loop. -/
namespace Go.Proofs.Ytnddfiohofnbaaa
open Go.RowKit

/-- What the opener kk answers of the box of x. -/
def opV (x : Nat × T) (kk : Nat) : V := if x.1 = kk then x.2.v else V.zero
def opC (x : Nat × T) (kk : Nat) : Int := if x.1 = kk then 0 else 91

def AnsP (v : V) (code : Int) (w : World) (e : Ending) (w' : World) : Prop := ∃ t' : T, e = .returned (.tuple #[t'.val, .int .i64 code]) ∧ t'.v = v ∧ t'.Sh w' w.heap.size w'.heap.size ∧ Fr No w w'

theorem ans_of {xb xo : Th} {x : Nat × T} {kk : Nat} {w : World} {e : Ending} {w' : World} (h1 : xb.ofr = 2 * (x.1 : Int) + 1) (h2 : xo.ofr = 2 * (kk : Int) + 1) (hv : xb.v.v = x.2.v) (h : OpenRes xb xo w e w') : AnsP (opV x kk) (opC x kk) w e w' := by
  obtain ⟨hy, hn, f⟩ := h
  unfold AnsP opV opC
  by_cases hk : x.1 = kk
  · obtain ⟨t', rfl, q1, q2⟩ := hy (by rw [h1, h2, hk])
    rw [if_pos hk, if_pos hk]
    exact ⟨t', rfl, q1.trans hv, q2, f⟩
  · rw [if_neg hk, if_neg hk]
    exact ⟨T.zero, hn (by rw [h1, h2]; omega), T.zero_v, T.zero_sh _ _ _, f⟩

section
variable {W : World} {wb q : Nat} {As : Option Addr} {cs : Nat} {Ao : Option Addr} {co : Nat} {A1 : Option Addr} {c1 : Nat} {A2 : Option Addr} {c2 : Nat} {A3 : Option Addr} {c3 : Nat} {bx : List (Nat × T)} {m : Wm} {wr : World}

theorem sl_open (h : SL W wb q As cs Ao co A1 c1 A2 c2 A3 c3 bx m wr) {j kk : Nat} (hj : j < bx.length) (hk : kk < 6) :
    Calls Try.prog 20 #[.pointer (some ⟨wb, 0, none⟩), .int .i64 (2 * (kk : Int) + 2), .agg #[.int .u8 4, .int .i64 0, .string ⟨#[]⟩, .slice none 0 0, .int .i64 (13 + (j : Int))]] wr (AnsP (opV bx[j] kk) (opC bx[j] kk) wr) := by
  obtain rfl := h.wb
  obtain ⟨k1, k2, g, t0, k3, k4⟩ := h.bxs j _ (List.getElem?_eq_getElem hj)
  obtain ⟨-, g2, t2, k5, k6⟩ := h.pr kk hk
  refine (Open_ok h.ok k6 rfl k5 k4 rfl (by show t0.v.may = true; rw [k3]; exact k2)).mono ?_
  intro e w' hr
  exact ans_of rfl rfl k3 hr

theorem sl_do (h : SL W wb q As cs Ao co A1 c1 A2 c2 A3 c3 bx m wr) {j kk : Nat} (hj : j < bx.length) (hk : kk < 6) :
    Calls Try.prog 25 #[.pointer (some ⟨wb, 0, none⟩), .int .i64 (2 * (kk : Int) + 2), .int .u8 16, .agg #[.int .u8 4, .int .i64 0, .string ⟨#[]⟩, .slice none 0 0, .int .i64 (13 + (j : Int))]] wr (AnsP (opV bx[j] kk) (opC bx[j] kk) wr) := by
  obtain rfl := h.wb
  obtain ⟨k1, k2, g, t0, k3, k4⟩ := h.bxs j _ (List.getElem?_eq_getElem hj)
  obtain ⟨-, g2, t2, k5, k6⟩ := h.pr kk hk
  refine (Do_open h.ok k6 rfl k5 k4 rfl (by show t0.v.may = true; rw [k3]; exact k2)).mono ?_
  intro e w' hr
  exact ans_of rfl rfl k3 hr
end

theorem Nothing_any (t : T) (w : World) (lo hi : Nat) (ht : t.In w lo hi) (hh : hi ≤ w.heap.size) (hv : t.v = V.zero) : Calls Try.prog 23 #[t.val] w fun e w' => e = .returned (.bool true) ∧ Fr No w w' := by
  have hin := fun w' : World => (T.ow_nil (w := w') (lo := 0) (hi := 0) (k := 0) (n := 0) (s := ⟨#[]⟩) (A := none) (cap := 0) (r := 0) ⟨by decide, by decide, by decide, by decide, by decide, by decide, by decide, by decide, by decide⟩).inn
  obtain ⟨k, n, s, A, cap, l, r⟩ := t
  have f0 := (Fr.refl No w).alloc (.cells #[.int .u8 k, .int .i64 n, .string s, .slice A l.length cap, .int .i64 r] 37)
  have hA := fun w' (f : Fr No w w') => alike_any (T.mk k n s A cap l r) (T.mk 0 0 ⟨#[]⟩ none 0 [] 0) w' lo hi 0 0 (ht.no f hh) (Nat.le_trans hh f.size) (hin w') (Nat.zero_le _)
  rw [T.val_mk] at hA ⊢
  rw [T.val_mk] at hA
  have hz : (T.mk 0 0 ⟨#[]⟩ none 0 [] 0).v = V.zero := T.zero_v
  rw [hv, hz] at hA
  have HA := hide hA
  have HF := hide f0
  clear hA f0 hin hv hz ht hh
  go_enter Try.func23, Try.ntmps23
  go_wp2_with fail
  refine (HA.out _ HF.out).mono ?_
  rintro e w2 ⟨q, rfl, hq, f2⟩
  obtain rfl : q = true := hq.2 rfl
  go_wp2
  go_ret
  exact ⟨rfl, HF.out.trans f2⟩

end Go.Proofs.Ytnddfiohofnbaaa

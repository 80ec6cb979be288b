/- Texts joined: Wo15, Wo16, Wo17, Wg4, Wg12. -/
import Derived.Test.YtlejelbefmkakaaGreatJn9
/- seal.Pair. -/
namespace Go.Proofs.YtlejelbefmkakaaGreat
open Go.RowKit

section
variable {m : Wm} {lo : Nat} {W : World}

theorem add_old {g s i B : Nat} {x : Th} (hg : B ≤ g) (hv : ∀ b ∈ x.v.blocks, B ≤ b) (hi : (m.add g x s).B i) (hlt : i < B) : m.B i := by
  rcases hi with hi | hi | hi | hi | ⟨y, hy, hi⟩
  · exact .inl hi
  · exact .inr (.inl hi)
  · exact .inr (.inr (.inl hi))
  · refine .inr (.inr (.inr (.inl ?_)))
    simpa [Wm.add] using hi
  · rcases List.mem_append.1 hy with hy | hy
    · exact .inr (.inr (.inr (.inr ⟨y, hy, hi⟩)))
    · simp only [List.mem_singleton] at hy
      subst hy
      rcases hi with hi | hi
      · simp only at hi; omega
      · have := hv i hi; omega

theorem add_len (g s : Nat) (x : Th) : (m.add g x s).th.length = m.th.length + 1 := by simp [Wm.add]
theorem add_made (g s : Nat) (x : Th) : (m.add g x s).made.length = m.made.length := by simp [Wm.add]
theorem add_at_made {g s : Nat} {x : Th} (hs : s < m.made.length) : (m.add g x s).made[s]'(by rw [add_made]; exact hs) = m.made[s] + 1 := by
  simp [Wm.add, List.getD_eq_getElem?_getD, hs]
theorem add_get_new (g s : Nat) (x : Th) : (m.add g x s).get ((m.th.length : Int) + 1) = some (g, x) := by
  unfold Wm.get Wm.at_
  rw [add_len, if_pos (by omega)]
  simp [Wm.add]
theorem add_get_old {g s : Nat} {x : Th} {r : Int} {y : Nat × Th} (h : m.get r = some y) : (m.add g x s).get r = some y := by
  unfold Wm.get Wm.at_ at h ⊢
  rw [add_len]
  split at h
  · rename_i hr
    rw [if_pos (by omega)]
    simp only [Option.bind_some] at h ⊢
    show (m.th ++ [(g, x)])[(r - 1).toNat]? = some y
    rw [List.getElem?_append_left (by omega)]
    exact h
  · cases h

/-- What Pair leaves. -/
def PairRes (m : Wm) (home lo : Nat) (W : World) (e : Ending) (w' : World) : Prop :=
  e = .returned (.tuple #[.int .i64 ((m.th.length : Int) + 1), .int .i64 ((m.th.length : Int) + 1 + 1), .int .i64 0]) ∧ ∃ (g1 g2 : Nat) (t1 t2 : T), t1.v = V.zero ∧ t2.v = V.zero ∧
    ((m.add g1 ⟨5, home, t1, 0, 0, 0, 0, 0, false⟩ home).add g2 ⟨6, home, t2, 0, 0, (m.th.length : Int) + 1, 0, 0, false⟩ home).Ok lo w' ∧ Fr m.B W w' ∧
    ∀ i, ((m.add g1 ⟨5, home, t1, 0, 0, 0, 0, 0, false⟩ home).add g2 ⟨6, home, t2, 0, 0, (m.th.length : Int) + 1, 0, 0, false⟩ home).B i → i < W.heap.size → m.B i

set_option maxRecDepth 100000 in
set_option maxHeartbeats 4000000 in
theorem Pair_ok (h : m.Ok lo W) (hlo : lo ≤ W.heap.size) (home : Nat) (hs : home < m.made.length) (h512 : m.made[home] + 2 ≤ 512) (hlen : m.th.length + 2 < 100000) (hof : ∀ x ∈ m.th, x.2.ofr ≤ (m.th.length : Int)) :
    Calls Tryz.prog 18 #[.pointer (some ⟨m.wb, 0, none⟩), .int .i64 (home : Int)] W (PairRes m home lo W) := by
  have HTh := hide (there_w h)
  have HS := hide (Sides_w h)
  have HM := hide (Made_w h hs)
  have hmk := make5 h hlo home hs (by omega) (by omega)
  unfold th16 at hmk
  have HMK := hide hmk
  have h0 : decide ((home : Int) < 0) = false := by simp
  have h1 : decide ((home : Int) ≥ (m.made.length : Int)) = false := by simp; omega
  have hw : IntKind.i64.wrap ((m.made[home] : Int) + 2) = (m.made[home] : Int) + 2 := IntWalk.i64_in _ (by omega)
  have h2 : decide (512 < (m.made[home] : Int) + 2) = false := by simp; omega
  clear hmk
  go_enter Tryz.func18, Tryz.ntmps18
  go_wp2_with fail
  refine HTh.out.mono ?_
  rintro e w' ⟨rfl, rfl⟩
  go_wp2_with fail
  refine HS.out.mono ?_
  rintro e w' ⟨rfl, rfl⟩
  go_wp2_with fail
  refine HM.out.mono ?_
  rintro e w' ⟨rfl, rfl⟩
  go_wp2_with fail
  refine HMK.out.mono ?_
  rintro e w1 ⟨rfl, g1, t1, hv1, hg1, hb1, hok1, f1⟩
  have hmk2 := make6 hok1 (Nat.le_trans hlo f1.size) home (by rw [add_made]; exact hs) (by rw [add_at_made hs]; omega) (by rw [add_len]; omega) ((m.th.length : Int) + 1) (add_get_new _ _ _) rfl rfl (fun y hy hh => by
    rcases List.mem_append.1 hy with hy | hy
    · have := hof y hy
      omega
    · simp only [List.mem_singleton] at hy
      subst hy
      have := hh.1
      simp at this)
  have hwb : (m.add g1 ⟨5, home, t1, 0, 0, 0, 0, 0, false⟩ home).wb = m.wb := rfl
  rw [hwb] at hmk2
  unfold th16 MakeRes at hmk2
  rw [add_len] at hmk2
  have HMK2 := hide hmk2
  clear hmk2 h0 h1 h2 hw HMK HM HS HTh
  go_wp2_with fail
  refine HMK2.out.mono ?_
  rintro e w2 ⟨rfl, g2, t2, hv2, hg2, hb2, hok2, f2⟩
  have hfr : Fr m.B w' w2 := f1.trans' f2 fun i hi hb => add_old hg1 hb1 hb hi
  have hold : ∀ i, ((m.add g1 ⟨5, home, t1, 0, 0, 0, 0, 0, false⟩ home).add g2 ⟨6, home, t2, 0, 0, (m.th.length : Int) + 1, 0, 0, false⟩ home).B i → i < w'.heap.size → m.B i := fun i hi hlt =>
    add_old hg1 hb1 (add_old hg2 hb2 hi (Nat.lt_of_lt_of_le hlt f1.size)) hlt
  have HFR := hide hfr
  have HOLD := hide hold
  have HOK2 := hide hok2
  have HV1 := hide hv1
  have HV2 := hide hv2
  clear hfr hold hok2 hv1 hv2 hg1 hb1 hg2 hb2 hok1 f1 f2 hwb hof
  have hcast : ((m.th.length + 1 : Nat) : Int) + 1 = (m.th.length : Int) + 1 + 1 := by omega
  go_wp2_with fail
  refine bodyPost_ret (v := .tuple #[.int .i64 ((m.th.length : Int) + 1), .int .i64 ((m.th.length : Int) + 1 + 1), .int .i64 0]) (by simp [results, Tryz.results18, go_sem, *]) rfl ?_
  exact ⟨rfl, g1, g2, t1, t2, HV1.out.trans T.zero_v, HV2.out.trans T.zero_v, HOK2.out, HFR.out, HOLD.out⟩

set_option maxRecDepth 100000 in
/-- There is no room for two more. -/
theorem Pair_limit (h : m.Ok lo W) (home : Nat) (hs : home < m.made.length) (h512 : 512 < m.made[home] + 2) :
    Calls Tryz.prog 18 #[.pointer (some ⟨m.wb, 0, none⟩), .int .i64 (home : Int)] W fun e w' => e = .returned (.tuple #[.int .i64 0, .int .i64 0, .int .i64 8]) ∧ w' = W := by
  have HTh := hide (there_w h)
  have HS := hide (Sides_w h)
  have HM := hide (Made_w h hs)
  have hle := h.mades _ (List.getElem_mem hs)
  have h0 : decide ((home : Int) < 0) = false := by simp
  have h1 : decide ((home : Int) ≥ (m.made.length : Int)) = false := by simp; omega
  have hw : IntKind.i64.wrap ((m.made[home] : Int) + 2) = (m.made[home] : Int) + 2 := IntWalk.i64_in _ (by omega)
  have h2 : decide (512 < (m.made[home] : Int) + 2) = true := by simp; omega
  clear h hle
  go_enter Tryz.func18, Tryz.ntmps18
  go_wp2_with fail
  refine HTh.out.mono ?_
  rintro e w' ⟨rfl, rfl⟩
  go_wp2_with fail
  refine HS.out.mono ?_
  rintro e w' ⟨rfl, rfl⟩
  go_wp2_with fail
  refine HM.out.mono ?_
  rintro e w' ⟨rfl, rfl⟩
  go_wp2_with fail
  refine bodyPost_ret (v := .tuple #[.int .i64 0, .int .i64 0, .int .i64 8]) (by simp [results, Tryz.results18, go_sem, *]) rfl ?_
  exact ⟨rfl, rfl⟩
end

end Go.Proofs.YtlejelbefmkakaaGreat

/- seal.refs, seal.Seal. -/
namespace Go.Proofs.YtlejelbefmkakaaGreat
open Go.RowKit

section
variable {m : Wm} {lo : Nat} {W : World}

/-- The references of a value are things. -/
theorem srefs_yes (h : m.Ok lo W) (t : T) (hi : Nat) (ht : t.In W 0 hi) (hhi : hi ≤ W.heap.size) (hln : t.v.refs.length ≤ 140737488351232) (hare : m.are t.v.refs = true) :
    Calls Tryz.prog 87 #[.pointer (some ⟨m.wb, 0, none⟩), t.val] W fun e w' => e = .returned (.int .i64 0) ∧ Fr No W w' := by
  have hR := fun W' (f : Fr No W W') => Refs_any t W' 0 hi (ht.no f hhi) (Nat.le_trans hhi f.size)
  obtain ⟨k, n, s, A, cap, l, r⟩ := t
  rw [T.val_mk] at *
  generalize (T.mk k n s A cap l r).v.refs = L at *
  have HOK := hide h
  have HR := hide hR
  have HA := hide hare
  have hf0 := (Fr.refl No W).alloc (.cells #[.int .u8 k, .int .i64 n, .string s, .slice A l.length cap, .int .i64 r] 28)
  have HF0 := hide hf0
  clear h hR hare ht hhi hf0
  go_enter Tryz.func87, Tryz.ntmps87
  go_wp2_with fail
  generalize World.alloc W _ = W0 at *
  refine (HR.out W0 HF0.out).mono ?_
  rintro e w1 ⟨v, rfl, hrow, f1⟩
  obtain ⟨A1, c1, rfl⟩ := owns_form hrow
  have HROW := hide hrow
  have HF1 := hide (HF0.out.trans f1)
  clear hrow f1
  go_wp2_with fail
  go_loopw [10] (fun i wr => ∃ j : Nat, j ≤ L.length ∧ i = .int .i64 j ∧ wr = w1) (fun i _ => L.length - (intOf i).toNat)
  case atStart => exact ⟨0, Nat.zero_le _, rfl, rfl⟩
  case round =>
    obtain ⟨j, hj, rfl, rfl⟩ := hrel
    by_cases hlt : j < L.length
    · obtain ⟨b, rfl, hb1, e0⟩ := row_at HROW.out hlt
      have hI := Is_w (HOK.out.no HF1.out) L[j]
      have hy : (m.get L[j]).isSome = true := List.all_eq_true.1 HA.out _ (List.getElem_mem hlt)
      rw [hy] at hI
      have HI := hide hI
      generalize L[j] = u at *
      clear hI hy
      go_wp2_with fail
      refine HI.out.mono ?_
      rintro e w2 ⟨rfl, rfl⟩
      go_wp2
      go_roundw
      case rel => exact ⟨j + 1, hlt, by go_num, trivial⟩
      case measure => simp [intOf]; omega
    · obtain rfl : L.length = j := by omega
      go_wp2
      go_ret
      exact ⟨rfl, HF1.out⟩

/-- What Seal leaves. -/
def SealRes (m : Wm) (home r : Int) (v : V) (s lo : Nat) (W : World) (e : Ending) (w' : World) : Prop :=
  e = .returned (.tuple #[.int .i64 ((m.th.length : Int) + 1), .int .i64 0]) ∧ ∃ (g : Nat) (t' : T), t'.v = v ∧ (m.add g ⟨7, home, t', 0, 0, r, 0, 0, false⟩ s).Ok lo w' ∧ Fr m.B W w' ∧ ∀ i, (m.add g ⟨7, home, t', 0, 0, r, 0, 0, false⟩ s).B i → i < W.heap.size → m.B i

set_option maxRecDepth 100000 in
set_option maxHeartbeats 4000000 in
theorem Seal_ok (h : m.Ok lo W) (hlo : lo ≤ W.heap.size) (home : Nat) (hs : home < m.made.length) (h512 : m.made[home] < 512) (hlen : m.th.length < 100000) {sr : Int} {x : Nat × Th} (hg : m.get sr = some x) (hk5 : x.2.kind = 5) (hxh : x.2.home = (home : Int))
    (t : T) (hi : Nat) (ht : t.In W 0 hi) (hhi : hi ≤ W.heap.size) (hm : t.v.may = true) (hln : t.v.refs.length ≤ 140737488351232) (hare : m.are t.v.refs = true) :
    Calls Tryz.prog 19 #[.pointer (some ⟨m.wb, 0, none⟩), .int .i64 sr, t.val] W (SealRes m home sr t.v home lo W) := by
  have hM := fun W' (f : Fr No W W') => may_any t W' 0 hi (ht.no f hhi) (Nat.le_trans hhi f.size)
  have hR := fun W' (f : Fr No W W') => srefs_yes (h.no f) t hi (ht.no f hhi) (Nat.le_trans hhi f.size) hln hare
  have hI := fun W' (f : Fr No W W') => Is_w (h.no f) sr
  have hK := fun W' (f : Fr No W W') => Kind_w (h.no f) sr
  have hH := fun W' (f : Fr No W W') => Home_w (h.no f) hg (by rw [hk5]; decide)
  have hgi : (m.get sr).isSome = true := by rw [hg]; rfl
  have hgk : m.kind sr = 5 := by unfold Wm.kind; rw [hg, ← hk5]; rfl
  rw [hgi] at hI
  rw [hgk] at hK
  rw [hxh] at hH
  rw [hm] at hM
  obtain ⟨k, n, s, A, cap, l, r⟩ := t
  have hmk := fun W' (f : Fr No W W') => make7 (h.no f) (Nat.le_trans hlo f.size) home k n s A cap l r hs h512 hlen hi (ht.no f hhi) (Nat.le_trans hhi f.size) hm hln hare sr hg hk5 hxh
  unfold th16 at hmk
  rw [T.val_mk] at *
  generalize (T.mk k n s A cap l r).v = u at *
  have HTh := hide fun W' (f : Fr No W W') => there_w (h.no f)
  have HM := hide hM
  have HR := hide hR
  have HI := hide hI
  have HK := hide hK
  have HH := hide hH
  have HMK := hide hmk
  have hb0 := Blk.new W 28 #[.int .u8 k, .int .i64 n, .string s, .slice A l.length cap, .int .i64 r]
  have hf0 := (Fr.refl No W).alloc (.cells #[.int .u8 k, .int .i64 n, .string s, .slice A l.length cap, .int .i64 r] 28)
  obtain ⟨e0, e1, e2, e3, e4, ef⟩ := hb0.cells5
  have eq_ := hb0.lt
  have HB := hide hb0
  have HF := hide hf0
  clear hM hR hI hK hH hmk hb0 hf0 hgi hgk h ht hhi hm hln hare hg hk5 hxh
  go_enter Tryz.func19, Tryz.ntmps19
  go_wp2_with fail
  generalize World.alloc W _ = W0 at *
  refine (HTh.out W0 HF.out).mono ?_
  rintro e w' ⟨rfl, rfl⟩
  go_wp2_with fail
  refine (HM.out w' HF.out).mono ?_
  rintro e w1 ⟨rfl, ff⟩
  have hb := HB.out.fr ff fun h => h
  replace HB := hide hb
  replace HF := hide (HF.out.trans ff)
  clear e0 e1 e2 e3 e4 ef eq_ ff
  obtain ⟨e0, e1, e2, e3, e4, ef⟩ := hb.cells5
  have eq_ := hb.lt
  clear hb
  go_wp2_with fail
  refine (HI.out w1 HF.out).mono ?_
  rintro e w2 ⟨rfl, rfl⟩
  go_wp2_with fail
  refine (HR.out w2 HF.out).mono ?_
  rintro e w3 ⟨rfl, ff⟩
  have hb := HB.out.fr ff fun h => h
  replace HB := hide hb
  replace HF := hide (HF.out.trans ff)
  clear e0 e1 e2 e3 e4 ef eq_ ff
  obtain ⟨e0, e1, e2, e3, e4, ef⟩ := hb.cells5
  have eq_ := hb.lt
  clear hb
  go_wp2_with fail
  refine (HK.out w3 HF.out).mono ?_
  rintro e w4 ⟨rfl, rfl⟩
  go_wp2_with fail
  refine (HH.out w4 HF.out).mono ?_
  rintro e w5 ⟨rfl, rfl⟩
  go_wp2_with fail
  refine (HMK.out w5 HF.out).mono ?_
  rintro e w6 ⟨rfl, g, t', hv, hg, hbl, hok, fr⟩
  have hsz := HF.out.size
  have hold : ∀ i, (m.add g ⟨7, (home : Int), t', 0, 0, sr, 0, 0, false⟩ home).B i → i < W.heap.size → m.B i := fun i hi hlt => add_old (B := W.heap.size) (by omega) (fun b hb => by have := hbl b hb; omega) hi hlt
  have HOLD := hide hold
  have HOK6 := hide hok
  have HV := hide hv
  have HFR := hide (HF.out.no.trans fr)
  clear hold hok hv fr hbl hg hsz e0 e1 e2 e3 e4 ef eq_
  go_wp2_with fail
  go_ret2
  exact ⟨rfl, g, t', HV.out, HOK6.out, HFR.out, HOLD.out⟩
end

end Go.Proofs.YtlejelbefmkakaaGreat

/- Worlds: What. -/
namespace Go.Proofs.YtlejelbefmkakaaGreat
open Go.RowKit

/-- What What answers of a thing. -/
def WhatRes (x : Th) (W : World) (e : Ending) (w' : World) : Prop :=
  ∃ t' : T, e = .returned (.tuple #[Th.val ⟨x.kind, x.home, t', x.n, x.lost, x.ofr, x.byr, x.set, x.full⟩, .int .i64 0]) ∧ t'.v = x.v.v ∧ t'.Sh w' W.heap.size w'.heap.size ∧ Fr No W w'

set_option maxRecDepth 100000 in
set_option maxHeartbeats 4000000 in
theorem What_ok {m : Wm} {lo : Nat} {W : World} (h : m.Ok lo W) {r : Int} {x : Nat × Th} (hg : m.get r = some x) (hm : x.2.v.v.may = true) :
    Calls Tryz.prog 89 #[.pointer (some ⟨m.wb, 0, none⟩), .int .i64 r] W (WhatRes x.2 W) := by
  have hf0 := (Fr.refl No W).alloc (.cells (th16 0 0 0 0 ⟨#[]⟩ none 0 0 0 0 0 0 0 0 false) 138)
  have h0 := h.no hf0
  have hN := none_w h0
  have hI := Is_w h0 r
  have hl := look_thing h0 r
  have hx := Wm.get_mem hg
  have hbx := h0.box x hx
  have c0 := map_cell h0
  have q0 := h0.blk.lt
  have hsh := (h.vals x hx).inn
  have hi1 : (m.get r).isSome = true := by rw [hg]; rfl
  rw [hi1] at hI
  rw [hg] at hl
  have hb4 := Blk.new W 138 (th16 0 0 0 0 ⟨#[]⟩ none 0 0 0 0 0 0 0 0 false)
  obtain ⟨gx, kind, home, ⟨k, n, s, A, cap, l, r1⟩, n1, lost, ofr, byr, set, full⟩ := x
  have hbx' : Blk (W.alloc (.cells (th16 0 0 0 0 ⟨#[]⟩ none 0 0 0 0 0 0 0 0 false) 138)) gx 138 (th16 kind home k n s A l.length cap r1 n1 lost ofr byr set full) := hbx
  have hO := fun W' (f : Fr No W W') => ownWhat_w kind home k n s A cap l r1 n1 lost ofr byr set full W' W.heap.size (T.In.more (Nat.zero_le _) (Nat.le_refl _) _ (hsh.no f (Nat.le_refl _))) f.size hm
  simp only [Option.map_some] at hl
  unfold WhatRes
  simp only
  generalize (T.mk k n s A cap l r1).v = u at *
  unfold th16 at hbx' hf0 hb4 hO hN hI hl c0 q0
  obtain ⟨d0, d1, d2, d3, d4, d5, d6, d7, d8, d9, d10, d11, d12, d13, d14, d15⟩ := hbx'.cells16
  have dq := hbx'.lt
  have HN := hide hN
  have HI := hide hI
  have HO := hide hO
  have HF0 := hide hf0
  have HB4 := hide hb4
  clear hN hI hO hf0 hb4 h0 hx hbx hbx' hsh hi1 h hg hm
  go_enter Tryz.func89, Tryz.ntmps89
  go_wp2_with fail
  generalize hW0 : World.alloc W _ = W0 at *
  refine HN.out.mono ?_
  rintro e w' ⟨rfl, rfl⟩
  go_wp2_with fail
  refine HI.out.mono ?_
  rintro e w' ⟨rfl, rfl⟩
  go_wp2_with fail
  refine (HO.out w' HF0.out).mono ?_
  rintro e w1 ⟨⟨k2, n2, s2, A2, cap2, l2, r2⟩, rfl, hv, hsh, f1⟩
  have hval : (Th.val ⟨kind, home, T.mk k2 n2 s2 A2 cap2 l2 r2, n1, lost, ofr, byr, set, full⟩) = .agg (th16 kind home k2 n2 s2 A2 l2.length cap2 r2 n1 lost ofr byr set full) := rfl
  rw [hval]
  have hb := HB4.out.fr f1 fun h => h
  obtain ⟨e0, e1, e2, e3, e4, e5, e6, e7, e8, e9, e10, e11, e12, e13, e14, e15⟩ := hb.cells16
  have ez := hb.frozen
  have eq_ := hb.lt
  have HV := hide hv
  have HSH := hide hsh
  have HF1 := hide f1
  unfold th16
  clear hb hv hsh f1 d0 d1 d2 d3 d4 d5 d6 d7 d8 d9 d10 d11 d12 d13 d14 d15 dq hval c0 q0 hl
  go_wp2_with fail
  refine bodyPost_ret (v := .tuple #[.agg (th16 kind home k2 n2 s2 A2 l2.length cap2 r2 n1 lost ofr byr set full), .int .i64 0]) (by simp [results, Tryz.results89, th16, go_sem, *]) rfl ?_
  generalize hWe : World.setCell _ _ _ = We
  have fe : Fr (fun i => i = W.heap.size) w1 We := by
    rw [← hWe]
    repeat (first | with_reducible exact Fr.refl _ w1 | with_reducible refine Fr.set ?_ (by simp) _)
  have hs0 : W.heap.size + 1 ≤ w'.heap.size := by rw [← hW0]; simp
  have hbl : ∀ b ∈ (T.mk k2 n2 s2 A2 cap2 l2 r2).blocks, w'.heap.size ≤ b := fun b hb => (T.In.blocks _ HSH.out.inn b hb).1
  refine ⟨T.mk k2 n2 s2 A2 cap2 l2 r2, rfl, HV.out, ((HSH.out.fr fe fun b hb h => by have := hbl b hb; omega).more (by omega) fe.size), (HF0.out.trans HF1.out).trans' fe fun i hi h => by omega⟩

end Go.Proofs.YtlejelbefmkakaaGreat

/- Worlds: one thing turned where it lies, plain; the way of a thing, plain. -/
namespace Go.Proofs.YtlejelbefmkakaaGreat
open Go.RowKit

/-- A world in which one thing has turned. -/
def Wm.put (m : Wm) (i : Nat) (x : Th) : Wm := { m with th := m.th.set i ((m.th.getD i (0, x)).1, x) }

theorem set_self {α : Type} {l : List α} {i : Nat} {a : α} (h : l[i]? = some a) : l.set i a = l := by
  refine List.ext_getElem? fun j => ?_
  rw [List.getElem?_set]
  split
  · rename_i hij
    subst hij
    split
    · exact h.symm
    · rename_i hlt
      rw [List.getElem?_eq_none (by omega)] at h
      cases h
  · rfl

theorem box_ofr {w : World} {b : Nat} {x : Th} {t : TypeId} (h : Blk w b t x.cells.toArray) : w.cell? ⟨b, 10, none⟩ = some (.int .i64 x.ofr) := by
  obtain ⟨kind, hm, ⟨k, n, s, A, cap, l, r⟩, n1, lost, ofr, by_, set, full⟩ := x
  exact h.cell 10

theorem zero_of {t : T} {w : World} {lo hi : Nat} (h : t.Sh w lo hi) (hv : t.v = V.zero) : t = T.zero := by
  obtain ⟨k, n, s, A, cap, l, r⟩ := t
  obtain ⟨-, h1, -⟩ := T.sp_mk.1 h.sp
  rw [T.v_mk, V.zero] at hv
  injection hv with a b c d e
  have hl : l = [] := List.map_eq_nil_iff.1 d
  subst a b c hl e
  obtain ⟨rfl, rfl⟩ := h1 rfl
  rfl

section
variable {m : Wm} {lo : Nat} {W : World} {i g : Nat} {x x' : Th}

theorem put_th (hi : m.th[i]? = some (g, x)) : (m.put i x').th = m.th.set i (g, x') := by
  simp [Wm.put, List.getD_eq_getElem?_getD, hi]
theorem put_len : (m.put i x').th.length = m.th.length := by simp [Wm.put]
theorem put_fst (hi : m.th[i]? = some (g, x)) : (m.put i x').th.map Prod.fst = m.th.map Prod.fst := by
  rw [put_th hi, List.map_set]
  exact set_self (by simp [hi])
theorem put_mem (hi : m.th[i]? = some (g, x)) {y : Nat × Th} (hy : y ∈ (m.put i x').th) : y = (g, x') ∨ y ∈ m.th ∧ (m.th.Pairwise (fun a b => a.1 ≠ b.1) → y.1 ≠ g) := by
  rw [put_th hi] at hy
  obtain ⟨j, hj, rfl⟩ := List.mem_iff_getElem.1 hy
  rw [List.length_set] at hj
  by_cases hij : i = j
  · subst hij
    exact .inl (by simp)
  · right
    rw [List.getElem_set_ne hij]
    refine ⟨List.getElem_mem _, fun hd he => ?_⟩
    obtain ⟨hi1, hi2⟩ := List.getElem?_eq_some_iff.1 hi
    rcases Nat.lt_or_gt_of_ne hij with h | h
    · have := List.pairwise_iff_getElem.1 hd i j hi1 hj h
      rw [hi2] at this
      exact this he.symm
    · have := List.pairwise_iff_getElem.1 hd j i hj hi1 h
      rw [hi2] at this
      exact this he

theorem ok_put (h : m.Ok lo W) (hi : m.th[i]? = some (g, x)) {W2 : World} (f : Fr (fun j => j = g) W W2) (hb : Blk W2 g 138 x'.cells.toArray) (hv : x'.v.Sh W2 lo W2.heap.size) : (m.put i x').Ok lo W2 := by
  obtain ⟨es, cl, hm, he, hst⟩ := h.things
  obtain ⟨ef, cf, hf, hfe⟩ := h.facets
  have hmem : (g, x) ∈ m.th := List.mem_of_getElem? hi
  have hbx : Blk W g 138 x.cells.toArray := h.box _ hmem
  refine ⟨?_, ⟨es, cl, (f.block _ (lt_of_heap hm) fun hh => map_ne_blk hm hbx hh.symm).trans hm, ⟨by rw [put_len]; exact he.1, fun j e y hej hyj => ?_⟩, hst⟩,
    ⟨ef, cf, (f.block _ (lt_of_heap hf) fun hh => map_ne_blk hf hbx hh.symm).trans hf, hfe⟩, owns_fr h.made f fun q hq hh => ?_, fun y hy => ?_, fun y hy => ?_, ⟨h.lo0.1, h.lo0.2.1, h.lo0.2.2.1, fun y hy => ?_⟩, h.mf, ?_, by rw [put_len]; exact h.len, h.mades, h.sides⟩
  · have hc : (m.put i x').cells = m.cells := by unfold Wm.cells; rw [put_len]; rfl
    rw [hc]
    exact h.blk.fr f fun hh => Blk.ne_ h.blk hbx (by decide) hh
  · rw [put_th hi, List.getElem?_set] at hyj
    split at hyj
    · rename_i hij
      subst hij
      split at hyj
      · simp only [Option.some.injEq] at hyj
        subst hyj
        exact he.2 i e (g, x) hej hi
      · cases hyj
    · exact he.2 j e y hej hyj
  · obtain ⟨cs, hq'⟩ := owns_typed h.made hq
    exact Blk.ne_ hbx hq' (by decide) hh.symm
  · rcases put_mem hi hy with rfl | ⟨hy, hne⟩
    · exact hb
    · exact (h.box y hy).fr f fun hh => hne h.dist hh
  · rcases put_mem hi hy with rfl | ⟨hy, hne⟩
    · exact hv
    · exact ((h.vals y hy).fr f fun b hbb hh => by
        obtain ⟨cs', hb'⟩ := T.Sp.typed _ (h.vals y hy).sp b hbb
        exact Blk.ne_ hb' hbx (by decide) hh).more (Nat.le_refl _) f.size
  · rcases put_mem hi hy with rfl | ⟨hy, hne⟩
    · exact h.lo0.2.2.2 (g, x) hmem
    · exact h.lo0.2.2.2 y hy
  · have := h.dist
    rw [← List.pairwise_map (f := Prod.fst) (R := fun a b => a ≠ b)] at this ⊢
    rw [put_fst hi]
    exact this

theorem put_at : ∀ r, (m.put i x').at_ r = m.at_ r := fun r => by
  unfold Wm.at_
  rw [put_len]

theorem put_get_same (hi : m.th[i]? = some (g, x)) : (m.put i x').get ((i : Int) + 1) = some (g, x') := by
  have hlt := (List.getElem?_eq_some_iff.1 hi).1
  unfold Wm.get
  rw [put_at, put_th hi]
  unfold Wm.at_
  rw [if_pos (by omega)]
  simp [hlt]

theorem put_get_other {r : Int} (hr : r ≠ (i : Int) + 1) : (m.put i x').get r = m.get r := by
  unfold Wm.get
  rw [put_at]
  unfold Wm.at_
  split
  · simp only [Option.bind_some]
    show (m.th.set i _)[(r - 1).toNat]? = _
    rw [List.getElem?_set_ne (by omega)]
  · rfl

theorem get_at {r : Int} {y : Nat × Th} (h : m.get r = some y) : m.th[(r - 1).toNat]? = some y ∧ (((r - 1).toNat : Nat) : Int) + 1 = r := by
  unfold Wm.get Wm.at_ at h
  split at h
  · exact ⟨h, by omega⟩
  · cases h
end

/-- The way of a thing: it, and what it stands before. -/
inductive Way (m : Wm) : Int → List Int → Prop where
  | none {r : Int} (h : m.get r = .none) : Way m r []
  | base {r : Int} {y : Nat × Th} (h : m.get r = some y) (hk : y.2.kind ≠ 14 ∧ y.2.kind ≠ 15 ∧ y.2.kind ≠ 16) : Way m r [r]
  | wrap {r : Int} {y : Nat × Th} {l : List Int} (h : m.get r = some y) (hk : y.2.kind = 14 ∨ y.2.kind = 15 ∨ y.2.kind = 16) (hl : Way m y.2.ofr l) : Way m r (r :: l)

end Go.Proofs.YtlejelbefmkakaaGreat

/- Worlds: Way. -/
namespace Go.Proofs.YtlejelbefmkakaaGreat
open Go.RowKit

def lenOf : Value → Nat
  | .slice _ n _ => n
  | _ => 0

/-- Does a kind stand before a target? -/
def wrapsB (k : Int) : Bool := decide (k = 14 ∨ k = 15 ∨ k = 16)

theorem wraps_w (k : Int) (W : World) : Calls Tryz.prog 172 #[.int .u8 k] W fun e w' => e = .returned (.bool (wrapsB k)) ∧ w' = W := by
  unfold wrapsB
  by_cases h14 : k = 14
  · subst h14
    go_enter Tryz.func172, Tryz.ntmps172
    go_wp2
    go_ret
    exact ⟨rfl, rfl⟩
  by_cases h15 : k = 15
  · subst h15
    go_enter Tryz.func172, Tryz.ntmps172
    go_wp2
    go_ret
    exact ⟨rfl, rfl⟩
  by_cases h16 : k = 16
  · subst h16
    go_enter Tryz.func172, Tryz.ntmps172
    go_wp2
    go_ret
    exact ⟨rfl, rfl⟩
  have e14 : (k == 14) = false := by simpa using h14
  have e15 : (k == 15) = false := by simpa using h15
  have e16 : (k == 16) = false := by simpa using h16
  have hd : decide (k = 14 ∨ k = 15 ∨ k = 16) = false := by simp [h14, h15, h16]
  rw [hd]
  clear h14 h15 h16 hd
  go_enter Tryz.func172, Tryz.ntmps172
  go_wp2
  go_ret
  exact ⟨rfl, rfl⟩

set_option maxRecDepth 100000 in
set_option maxHeartbeats 4000000 in
theorem Way_w {m : Wm} {lo : Nat} {W : World} (h : m.Ok lo W) {r : Int} {L : List Int} (hw : Way m r L) (hL : L.length ≤ 100000) : Calls Tryz.prog 104 #[.pointer (some ⟨m.wb, 0, none⟩), .int .i64 r] W (RefsP L W) := by
  obtain ⟨i0, hi0, hz0, hz1, hz2⟩ := info_parts ref_info
  have HOK := hide h
  have HW := hide hw
  have HL := hide hL
  clear h hw hL
  go_enter Tryz.func104, Tryz.ntmps104
  go_wp2_with fail
  go_loopw [1, 5] (fun x l wr => ∃ (pre : List Int) (rr : Int) (rest : List Int) (A : Option Addr) (cap : Nat), x = .int .i64 rr ∧ l = .slice A pre.length cap ∧ Way m rr rest ∧ pre ++ rest = L ∧ wr.ownsRow W.heap.size 22 1 (.slice A pre.length cap) pre.length (pre.map fun r => Value.int .i64 r) ∧ Fr No W wr) (fun _ l _ => L.length - lenOf l)
  case atStart => exact ⟨[], r, L, none, 0, rfl, rfl, HW.out, rfl, World.ownsRow_nil _ _ _ _, Fr.refl _ _⟩
  case round =>
    obtain ⟨pre, rr, rest, A, cap, rfl, rfl, hway, hap, hrow, f⟩ := hrel
    have hok := HOK.out.no f
    have hI := Is_w hok rr
    have hl := look_thing hok rr
    have x2 := map_cell hok
    have xq := hok.blk.lt
    have hLL := HL.out
    have HROW := hide hrow
    have HF := hide f
    cases hway with
    | none hg =>
      rw [hg] at hI
      have HI := hide hI
      rw [List.append_nil] at hap
      clear hok hl x2 xq hrow f hI
      go_wp2_with fail
      refine HI.out.mono ?_
      rintro e w' ⟨rfl, rfl⟩
      go_wp2
      go_ret
      exact ⟨_, rfl, by rw [← hap]; exact HROW.out, HF.out⟩
    | base hg hk =>
      rename_i y
      have hwr := wraps_w y.2.kind
      have hwk : wrapsB y.2.kind = false := by unfold wrapsB; simp [hk]
      rw [hwk] at hwr
      rw [hg] at hI
      have HI := hide hI
      have HG := hide hg
      have HWR := hide hwr
      have hpl : pre.length + 1 ≤ 100000 := by rw [← hap] at hLL; simp at hLL; omega
      clear hok hl x2 xq hrow f hI hwr hg hwk
      go_wp2_with fail
      refine HI.out.mono ?_
      rintro e w' ⟨rfl, rfl⟩
      have hownA := HROW.out.alloc (.cells #[.int .i64 rr] 22)
      go_wp2_with (at_builtin; refine wpList_append_lies _ (by rfl) _ _ _ (by rfl) W.heap.size 22 i0 _ 1 8 Tryz.underlying54 hi0 hz0 hz1 hz2 (by rfl) (by omega) (.slice A pre.length cap) pre.length (pre.map fun r => Value.int .i64 r) (by rfl) hownA ⟨w'.heap.size, 0, none⟩ 1 1 [.int .i64 rr] (by rfl) (by rfl) (World.news_of_block (Blk.new' _ 22 #[.int .i64 rr] (by simp))) (by simp [Value.oneCell']) (by omega) (by unfold maxLen; omega) (by omega) (by have := HF.out.size; simp; omega) (w'.heap.size + 1) (by simp) ?_; intro g2 cap2 w1 hown1 hgrow hat hlt1; have F1 := hide ((HF.out.alloc (.cells #[.int .i64 rr] 22)).grown hgrow fun i hi hlt => by have := (owns_lt HROW.out i hi).1; omega); have hok1 := HOK.out.no F1.out; have hl := look_thing hok1 rr; rw [HG.out] at hl; simp only [Option.map_some] at hl; have x2 := map_cell hok1; have xq := hok1.blk.lt; have hbx := hok1.box _ (Wm.get_mem HG.out); have d0 : w1.cell? ⟨y.1, 0, none⟩ = some (.int .u8 y.2.kind) := hbx.cell 0; have d10 := box_ofr hbx; have dq := hbx.lt; have HOWN := hide hown1; clear hown1 hgrow hat hbx hok1)
      refine (HWR.out w1).mono ?_
      rintro e w2 ⟨rfl, rfl⟩
      go_wp2
      go_ret
      exact ⟨_, rfl, by have := HOWN.out; rw [← hap]; simpa using this, F1.out⟩
    | wrap hg hk hl' =>
      rename_i y l2
      have hwr := wraps_w y.2.kind
      have hwk : wrapsB y.2.kind = true := by unfold wrapsB; simp [hk]
      rw [hwk] at hwr
      rw [hg] at hI
      have HI := hide hI
      have HG := hide hg
      have HWR := hide hwr
      have hpl : pre.length + 1 ≤ 100000 := by rw [← hap] at hLL; simp at hLL; omega
      clear hok hl x2 xq hrow f hI hwr hg hwk
      go_wp2_with fail
      refine HI.out.mono ?_
      rintro e w' ⟨rfl, rfl⟩
      have hownA := HROW.out.alloc (.cells #[.int .i64 rr] 22)
      go_wp2_with (at_builtin; refine wpList_append_lies _ (by rfl) _ _ _ (by rfl) W.heap.size 22 i0 _ 1 8 Tryz.underlying54 hi0 hz0 hz1 hz2 (by rfl) (by omega) (.slice A pre.length cap) pre.length (pre.map fun r => Value.int .i64 r) (by rfl) hownA ⟨w'.heap.size, 0, none⟩ 1 1 [.int .i64 rr] (by rfl) (by rfl) (World.news_of_block (Blk.new' _ 22 #[.int .i64 rr] (by simp))) (by simp [Value.oneCell']) (by omega) (by unfold maxLen; omega) (by omega) (by have := HF.out.size; simp; omega) (w'.heap.size + 1) (by simp) ?_; intro g2 cap2 w1 hown1 hgrow hat hlt1; have F1 := hide ((HF.out.alloc (.cells #[.int .i64 rr] 22)).grown hgrow fun i hi hlt => by have := (owns_lt HROW.out i hi).1; omega); have hok1 := HOK.out.no F1.out; have hl := look_thing hok1 rr; rw [HG.out] at hl; simp only [Option.map_some] at hl; have x2 := map_cell hok1; have xq := hok1.blk.lt; have hbx := hok1.box _ (Wm.get_mem HG.out); have d0 : w1.cell? ⟨y.1, 0, none⟩ = some (.int .u8 y.2.kind) := hbx.cell 0; have d10 := box_ofr hbx; have dq := hbx.lt; have HOWN := hide hown1; clear hown1 hgrow hat hbx hok1)
      refine (HWR.out w1).mono ?_
      rintro e w2 ⟨rfl, rfl⟩
      go_wp2
      go_roundw
      case rel =>
        refine ⟨pre ++ [rr], y.2.ofr, l2, some ⟨g2, 0, none⟩, cap2, rfl, by simp, hl', by rw [← hap]; simp, ?_, F1.out⟩
        have := HOWN.out
        simpa using this
      case measure =>
        rw [← hap]
        simp [lenOf]
        omega

end Go.Proofs.YtlejelbefmkakaaGreat

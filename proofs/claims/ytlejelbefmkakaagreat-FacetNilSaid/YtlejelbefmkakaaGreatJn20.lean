/- Texts joined: Gf6, Gf7, Gf8, Gf9, Wo24, Gf10, Gf11. -/
import Derived.Test.YtlejelbefmkakaaGreatJn19
import Derived.LoopN
/- Worlds of whatever things: lay, of a facet. -/
namespace Go.Proofs.YtlejelbefmkakaaGreat
open Go.RowKit

theorem fac_in (W : World) (lo hi : Nat) (t : Int) (ht : -9223372036854775808 ≤ t ∧ t ≤ 9223372036854775807) (s : Nat) (hs : s < 64) : (Tg.fac t s).In W lo hi := by
  refine ⟨⟨by simp [Tg.fac], by simp [Tg.fac], by simp [Tg.fac], by simp [Tg.fac], ht, by simp [Tg.fac], ⟨by simp [Tg.fac], by show (s : Int) < 256; omega⟩⟩, (T.zero_ow W lo hi).inn, ?_, ⟨by simp [Tg.fac], by simp [Tg.fac], by simp [Tg.fac], ?_⟩, ⟨by simp [Tg.fac], by simp [Tg.fac], fun h => absurd rfl h, by simp [Tg.fac]⟩⟩
  · exact T.in_mk.2 ⟨fit_row, fun h => absurd rfl h, by simp [Tg.fac]⟩
  · exact G.row_in.2 ⟨fun h => absurd rfl h, by simp [Tg.fac]⟩

theorem fac_st (W : World) (lo : Nat) (t : Int) (ht : -9223372036854775808 ≤ t ∧ t ≤ 9223372036854775807) (s : Nat) (hs : s < 64) : (Tg.fac t s).St W lo := by
  refine ⟨fac_in W lo _ t ht s hs, fun b hb => ?_, fun b hb => ?_, fun b hb => ?_, fun y hy => ?_⟩
  · exfalso
    rcases hb with hb | hb
    · simp [Tg.fac, T.zero, T.blocks_mk] at hb
    · simp [Tg.fac, T.row, T.blocks_mk] at hb
  · exfalso
    rcases G.row_has hb with ⟨a, ha, -⟩ | ⟨x, hx, -⟩
    · cases ha
    · cases hx
  · exfalso
    obtain ⟨a, ha, -⟩ := hb
    cases ha
  · cases hy

set_option maxRecDepth 100000 in
set_option maxHeartbeats 8000000 in
theorem layF {m : Gm} {lo : Nat} {W : World} (h : m.Ok lo W) (hlo : lo ≤ W.heap.size) (hl0 : 0 ≤ m.last ∧ m.last < 10000000) (hnum : ∀ y ∈ m.th, y.1 ≤ m.last) (t : Int) (ht : -9223372036854775808 ≤ t ∧ t ≤ 9223372036854775807) (s : Nat) (hs : s < 64) (hn : m.fget t s = none) (hlen : m.th.length < 1000000) (hfl : m.fac.length < 1000000) :
    Calls Tryz.prog 159 #[.pointer (some ⟨m.wb, 0, none⟩), .agg #[.int .u8 14, .int .i64 0, .int .u8 0, .int .i64 0, .string ⟨#[]⟩, .slice none 0 0, .int .i64 0, .slice none 0 0, .int .i64 0, .int .i64 0, .int .i64 t, .int .i64 0, .int .u8 (s : Int), .bool false, .slice none 0 0, .slice none 0 0]] W fun e w' => e = .returned (.int .i64 (m.last + 1)) ∧ (m.addF W.heap.size t s).Ok lo w' ∧ Fr m.B W w' := by
  obtain ⟨es, cl, hm, hes, hst⟩ := h.things
  have hb0 := Blk.new W 138 #[.int .u8 14, .int .i64 0, .int .u8 0, .int .i64 0, .string ⟨#[]⟩, .slice none 0 0, .int .i64 0, .slice none 0 0, .int .i64 0, .int .i64 0, .int .i64 t, .int .i64 0, .int .u8 (s : Int), .bool false, .slice none 0 0, .slice none 0 0]
  have hf0 := (Fr.refl No W).alloc (.cells #[.int .u8 14, .int .i64 0, .int .u8 0, .int .i64 0, .string ⟨#[]⟩, .slice none 0 0, .int .i64 0, .slice none 0 0, .int .i64 0, .int .i64 0, .int .i64 t, .int .i64 0, .int .u8 (s : Int), .bool false, .slice none 0 0, .slice none 0 0] 138)
  have hwb := h.blk.fr hf0 fun h => h
  have c4 := hwb.cell 4
  have z4 := hwb.frozen 4
  have q4 := hwb.lt
  simp only [Gm.cells, List.getElem?_toArray, List.getElem?_cons_zero, List.getElem?_cons_succ] at c4
  have hw1 : IntKind.i64.wrap (m.last + 1) = m.last + 1 := IntWalk.i64_in _ (by omega)
  have HOK := hide h
  have HB0 := hide hb0
  have HF0 := hide hf0
  have HWB := hide hwb
  have HM := hide hm
  have HES := hide hes
  have HNUM := hide hnum
  clear hb0 hf0 hwb hm hes hst h
  go_enter Tryz.func159, Tryz.ntmps159
  go_upto_region 2 with (fail)
  have f1 : Fr (fun i => i = m.wb) W ((W.alloc (.cells #[.int .u8 14, .int .i64 0, .int .u8 0, .int .i64 0, .string ⟨#[]⟩, .slice none 0 0, .int .i64 0, .slice none 0 0, .int .i64 0, .int .i64 0, .int .i64 t, .int .i64 0, .int .u8 (s : Int), .bool false, .slice none 0 0, .slice none 0 0] 138)).setCell ⟨m.wb, 4, none⟩ (.int .i64 (m.last + 1))) := (HF0.out.no (S := fun i => i = m.wb)).set (fun _ => rfl) _
  have hb1 := HB0.out.far (p := ⟨m.wb, 4, none⟩) (by have := HOK.out.blk.lt; simp; omega) (.int .i64 (m.last + 1))
  have hw := HWB.out.set_ 4 (.int .i64 (m.last + 1))
  generalize hW1 : World.setCell (World.alloc W _) _ _ = W1 at *
  have hm1 : W1.heap[m.M]? = some (.map es cl) := (f1.block _ (lt_of_heap HM.out) fun hh => HOK.out.wbs.1 hh.symm).trans HM.out
  have hu : (Instr.mapUpdate 34 (.map (some m.M)) (.int .i64 (m.last + 1)) (.pointer (some ⟨W.heap.size, 0, none⟩))).run Tryz.prog W1.drew = .ok () (W1.drew.putObj m.M (.map (es.push { key := .int .i64 (m.last + 1), val := .pointer (some ⟨W.heap.size, 0, none⟩), born := cl }) (cl + 1))) :=
    update_num Tryz.underlying22 Tryz.underlying34 _ _ (show W1.drew.heap[m.M]? = some (.map es cl) from hm1) (fun e he => by
      obtain ⟨i, hi, rfl⟩ := List.mem_iff_getElem.1 he
      have hi' : i < m.th.length := by rw [← HES.out.1]; exact hi
      refine ⟨_, (HES.out.2 i _ _ (List.getElem?_eq_getElem hi) (List.getElem?_eq_getElem hi')).1, ?_⟩
      have := HNUM.out _ (List.getElem_mem hi')
      omega)
  have c2 := hw.cell 2
  have c5 := hw.cell 4
  have q5 := hw.lt
  simp only [Gm.cells, List.setIfInBounds_toArray, List.set_cons_zero, List.set_cons_succ, List.getElem?_toArray, List.getElem?_cons_zero, List.getElem?_cons_succ] at c2 c5
  have HF1 := hide f1
  have HB1 := hide hb1
  have HW1 := hide hw
  have HM1 := hide hm1
  clear c4 z4 q4 f1 hb1 hw hm1 hW1 HB0 HF0 HWB
  go_region
  all_goals
    go_simp
    go_upto_region 3 with (fail)
    generalize hW2 : World.putObj W1.drew _ _ = W2 at *
    have f2 : Fr (fun i => i = m.M) W1 W2 := by
      rw [← hW2]
      exact ((Fr.refl _ W1).drew).trans (fr_putObj _ _ _)
    have hlM := lt_of_heap HM1.out
    have hm2 : W2.heap[m.M]? = some (.map (es.push { key := .int .i64 (m.last + 1), val := .pointer (some ⟨W.heap.size, 0, none⟩), born := cl }) (cl + 1)) := by
      rw [← hW2]
      have hlM' : m.M < W1.drew.heap.size := hlM
      show (W1.drew.heap.setIfInBounds m.M _)[m.M]? = _
      rw [Array.getElem?_setIfInBounds, if_pos rfl, if_pos hlM']
    have hMg : W.heap.size ≠ m.M := by have := lt_of_heap HM.out; omega
    have hb2 := HB1.out.fr f2 hMg
    have hw2 := HW1.out.fr f2 HOK.out.wbs.1
    have f02 : Fr (fun i => i = m.wb ∨ i = m.M) W W2 := (HF1.out.mono fun i _ h => .inl h).trans' f2 fun i _ h => .inr h
    have hok := gok_lay1 (r := m.last + 1) (x := Tg.fac t s) HOK.out f02 (Nat.le_refl _) hlo (fun y hy => by have := HNUM.out y hy; omega) hb2 (fac_st W2 lo t ht s hs) hlen (by simpa [Gm.cells] using hw2) HM.out hm2
    have hfresh : m.get (m.last + 1) = none := by
      cases hq : m.get (m.last + 1) with
      | none => rfl
      | some x => have := HNUM.out _ (Gm.get_mem hq); simp at this; omega
    have hget : ({ m with last := m.last + 1, th := m.th ++ [(m.last + 1, W.heap.size, Tg.fac t s)] } : Gm).get (m.last + 1) = some (W.heap.size, Tg.fac t s) := by
      have h1 := hfresh
      unfold Gm.get at h1 ⊢
      rw [List.find?_append]
      rw [Option.map_eq_none_iff] at h1
      rw [h1]
      simp
    have hix := index_g (t := t) (s := (s : Int)) hok hget rfl rfl rfl hn hfl
    have d0 : W2.cell? ⟨W.heap.size, 0, none⟩ = some (.int .u8 14) := hb2.cell 0
    have dq := hb2.lt
    have x4 : W2.cell? ⟨m.wb, 4, none⟩ = some (.int .i64 (m.last + 1)) := by
      have := hw2.cell 4
      simpa [Gm.cells] using this
    have xq := hw2.lt
    have hFne : W.heap.size ≠ m.F := by
      obtain ⟨ef, cf, hf, -⟩ := HOK.out.facets
      have := lt_of_heap hf
      omega
    have HIX := hide hix
    have HF2 := hide f02
    have HB2 := hide hb2
    have HW2 := hide hw2
    have HFne := hide hFne
    clear hu c2 c5 q5 hW2 f2 hlM hm2 hMg hb2 hw2 f02 hok hfresh hget hix HB1 HW1 HM1 HF1 hFne
    go_wp2_with fail
    refine HIX.out.mono ?_
    rintro e w' ⟨⟨v, rfl⟩, hok3, f3⟩
    have hb3 := HB2.out.fr f3 HFne.out
    have hw3 := HW2.out.fr f3 HOK.out.wbs.2
    have hfr : Fr m.B W w' := (HF2.out.mono fun i _ h => (by
      rcases h with rfl | rfl
      · exact .inl rfl
      · exact .inr (.inl rfl) : m.B i)).trans' f3 fun i _ h => .inr (.inr (.inl h))
    have e0 : w'.cell? ⟨W.heap.size, 0, none⟩ = some (.int .u8 14) := hb3.cell 0
    have eq0 := hb3.lt
    have e4 : w'.cell? ⟨m.wb, 4, none⟩ = some (.int .i64 (m.last + 1)) := by
      have := hw3.cell 4
      simpa [Gm.cells] using this
    have eq4 := hw3.lt
    have HOK3 := hide hok3
    have HFR := hide hfr
    clear d0 dq x4 xq hb3 hw3 hok3 hfr f3 HIX HF2 HB2 HW2
    go_wp2
    go_ret
    exact ⟨rfl, HOK3.out, HFR.out⟩

end Go.Proofs.YtlejelbefmkakaaGreat

/- Worlds of whatever things: Facet. -/
namespace Go.Proofs.YtlejelbefmkakaaGreat
open Go.RowKit

theorem andNot_sub {s a : Nat} (hs : s < 64) (ha : a < 64) (h : s &&& a = s) : bits .andNot .u8 (s : Int) (a : Int) = 0 := by
  rw [u8_andNot_nat s a (by omega) (by omega)]
  have : ∀ s a : Fin 64, s.val &&& a.val = s.val → s.val &&& (255 - a.val) = 0 := by decide +kernel
  have := this ⟨s, hs⟩ ⟨a, ha⟩ h
  simp only at this
  rw [this]
  rfl

/-- The facet of a target and a set, and the world behind it. -/
def Gm.nar (m : Gm) (g : Nat) (t : Int) (s a : Nat) : Int × Gm :=
  if s = a then (t, m) else match m.fget t s with
    | some q => (q, m)
    | none => (m.last + 1, m.addF g t s)

/-- There is room for a facet more. -/
structure Gm.Room (m : Gm) : Prop where
  last : 0 ≤ m.last ∧ m.last < 10000000
  num : ∀ y ∈ m.th, y.1 ≤ m.last
  th : m.th.length < 1000000
  fac : m.fac.length < 1000000

set_option maxRecDepth 100000 in
set_option maxHeartbeats 4000000 in
theorem Facet_g {m : Gm} {lo : Nat} {W : World} (h : m.Ok lo W) (hlo : lo ≤ W.heap.size) (hr : m.Room) {t : Int} (ht : -9223372036854775808 ≤ t ∧ t ≤ 9223372036854775807) {y : Nat × Tg} (hy : m.get t = some y) (hk : y.2.kind ≠ 14) {s a : Nat} (hs : s < 64) (ha : m.Abl t a) (h1 : s &&& a = s) (h2 : s ≠ a) :
    Calls Tryz.prog 194 #[.pointer (some ⟨m.wb, 0, none⟩), .int .i64 t, .int .u8 (s : Int)] W fun e w' => ∃ g, e = .returned (.tuple #[.int .i64 (m.nar g t s a).1, .int .i64 0]) ∧ (m.nar g t s a).2.Ok lo w' ∧ Fr m.B W w' := by
  have HN := hide (gnone_w h)
  have hI := gIs_w h t
  rw [hy] at hI
  have HI := hide hI
  have HA := hide (Able_w h ha)
  have hKd := fun w' (f : Fr No W w') => gKind_w (h.no f) t
  have hkt : m.kind t = y.2.kind := by unfold Gm.kind; rw [hy]; rfl
  rw [hkt] at hKd
  have HK := hide hKd
  have HFi := hide fun w' (f : Fr No W w') => gFind_w (h.no f) t (s : Int)
  have hk' : (y.2.kind == 14) = false := by simpa using hk
  have e1 : ((s : Int) == (a : Int)) = false := by simp; omega
  have e2 := andNot_sub hs ha.lt h1
  have HL := hide fun w' (f : Fr No W w') (hn : m.fget t s = none) => layF (h.no f) (Nat.le_trans hlo f.size) hr.last hr.num t ht s hs hn hr.th hr.fac
  have HOK := hide h
  have H2 := hide h2
  clear h hI hKd hkt hk hs ha h1 h2 hr hy
  generalize y.2.kind = kd at *
  go_enter Tryz.func194, Tryz.ntmps194
  go_wp2_with fail
  refine HN.out.mono ?_
  rintro e w' ⟨rfl, rfl⟩
  go_wp2_with fail
  refine HI.out.mono ?_
  rintro e w' ⟨rfl, rfl⟩
  go_wp2_with fail
  refine HA.out.mono ?_
  rintro e w1 ⟨rfl, f1⟩
  have HF1 := hide f1
  clear f1 HA HI HN
  go_wp2_with fail
  refine (HK.out w1 HF1.out).mono ?_
  rintro e w2 ⟨rfl, rfl⟩
  go_wp2_with fail
  refine (HFi.out w2 HF1.out).mono ?_
  rintro e w3 ⟨rfl, rfl⟩
  unfold Gm.findV
  cases hg : m.fget t (s : Int) with
  | some q =>
    go_wp2
    go_ret2
    refine ⟨0, ?_, ?_, HF1.out.no⟩
    · simp [Gm.nar, H2.out, hg]
    · have : (m.nar 0 t s a).2 = m := by simp [Gm.nar, H2.out, hg]
      rw [this]
      exact HOK.out.no HF1.out
  | none =>
    have hl := HL.out w3 HF1.out hg
    have HLL := hide hl
    clear hl HL
    go_wp2_with fail
    refine HLL.out.mono ?_
    rintro e w4 ⟨rfl, hok, f4⟩
    have HOK4 := hide hok
    have HF4 := hide (HF1.out.no.trans f4)
    clear hok f4
    go_wp2
    go_ret2
    refine ⟨w3.heap.size, ?_, ?_, HF4.out⟩
    · simp [Gm.nar, H2.out, hg]
    · have : (m.nar w3.heap.size t s a).2 = m.addF w3.heap.size t s := by simp [Gm.nar, H2.out, hg]
      rw [this]
      exact HOK4.out

end Go.Proofs.YtlejelbefmkakaaGreat

/- Layer 11: there, root, ask, narrow, Narrow. -/
namespace Go.Proofs.YtlejelbefmkakaaGreat
open Go.RowKit

/-- What What answers of the things of a world. -/
def WhatOk (m : Gm) (lo : Nat) : Prop := ∀ (r : Int) (x : Nat × Tg) (W : World), m.get r = some x → m.Ok lo W → Calls Tryz.prog 89 #[.pointer (some ⟨m.wb, 0, none⟩), .int .i64 r] W fun e w' =>
  ∃ y : Tg, y.kind = x.2.kind ∧ y.ofr = x.2.ofr ∧ y.byr = x.2.byr ∧ y.set = x.2.set ∧ y.full = x.2.full ∧ y.home = x.2.home ∧ e = .returned (.tuple #[y.val, .int .i64 0]) ∧ Fr No W w'

section
variable {m : Gm} {lo : Nat} {W : World}

theorem fthere0_g (h : m.Ok lo W) : Calls Tryz.prog 139 #[.pointer (some ⟨m.wb, 0, none⟩), .slice none 0 0] W fun e w' => e = .returned (.int .i64 0) ∧ w' = W := by
  have hS := gSides_w h
  have h1 : ((m.made.length : Int) == 0) = false := by have := h.sides; simp; intro hh; rw [hh] at this; simp at this
  clear h
  go_enter Tryz.func139, Tryz.ntmps139
  go_wp2_with fail
  refine hS.mono ?_
  rintro e w' ⟨rfl, rfl⟩
  go_wp2_with fail
  refine wp_loop_rounds 1 ?_
  rw [rounds_succ]
  go_wp2_with fail
  go_ret
  exact ⟨rfl, rfl⟩

/-- The error of a number. -/
def Gm.isE (m : Gm) (r : Int) : Int := if (m.get r).isSome then 0 else 5

theorem fthere1_g (h : m.Ok lo W) {g : Nat} {r : Int} (h0 : W.cell? ⟨g, 0, none⟩ = some (.int .i64 r)) (hg : g < W.heap.size) : Calls Tryz.prog 139 #[.pointer (some ⟨m.wb, 0, none⟩), .slice (some ⟨g, 0, none⟩) 1 1] W fun e w' => e = .returned (.int .i64 (m.isE r)) ∧ w' = W := by
  have hS := gSides_w h
  have h1 : ((m.made.length : Int) == 0) = false := by have := h.sides; simp; intro hh; rw [hh] at this; simp at this
  have hI := gIs_w h r
  unfold Gm.isE
  clear h
  cases hq : (m.get r).isSome with
  | true =>
    rw [hq] at hI
    go_enter Tryz.func139, Tryz.ntmps139
    go_wp2_with fail
    refine hS.mono ?_
    rintro e w' ⟨rfl, rfl⟩
    go_wp2_with fail
    refine wp_loop_rounds 2 ?_
    rw [rounds_succ]
    go_wp2_with fail
    refine hI.mono ?_
    rintro e w' ⟨rfl, rfl⟩
    go_wp2_with fail
    rw [rounds_succ]
    go_wp2_with fail
    go_ret
    exact ⟨rfl, rfl⟩
  | false =>
    rw [hq] at hI
    go_enter Tryz.func139, Tryz.ntmps139
    go_wp2_with fail
    refine hS.mono ?_
    rintro e w' ⟨rfl, rfl⟩
    go_wp2_with fail
    refine wp_loop_rounds 2 ?_
    rw [rounds_succ]
    go_wp2_with fail
    refine hI.mono ?_
    rintro e w' ⟨rfl, rfl⟩
    go_wp2_with fail
    go_ret
    exact ⟨rfl, rfl⟩

set_option maxRecDepth 100000 in
theorem root_g (h : m.Ok lo W) (hw : WhatOk m lo) {r : Int} {x : Nat × Tg} (hg : m.get r = some x) : Calls Tryz.prog 140 #[.pointer (some ⟨m.wb, 0, none⟩), .int .i64 r] W fun e w' => e = .returned (.int .i64 (m.root r)) ∧ Fr No W w' := by
  have HW := hide (hw r x W hg h)
  by_cases hk : x.2.kind = 14
  · have hr := Gm.root_fac hg hk
    rw [hr]
    clear h hw hg hr
    go_enter Tryz.func140, Tryz.ntmps140
    go_wp2_with fail
    refine HW.out.mono ?_
    rintro e w1 ⟨⟨kind, home, ⟨k, n, s, A, cap, l, r0⟩, VA, vc, vs, n1, lost, ofr, byr, set, full, CA, cc, code, NA, nc, names⟩, e1, e2, -, -, -, -, rfl, f1⟩
    simp only at e1 e2
    rw [hk] at e1
    subst e1
    have hval : (Tg.val ⟨14, home, T.mk k n s A cap l r0, VA, vc, vs, n1, lost, ofr, byr, set, full, CA, cc, code, NA, nc, names⟩) = .agg (c16 14 home k n s A l.length cap r0 VA vs.length vc n1 lost ofr byr set full CA code.length cc NA names.length nc) := rfl
    rw [hval]
    unfold c16
    clear hval
    have HF1 := hide f1
    clear f1 HW
    go_wp2
    go_ret
    exact ⟨rfl, HF1.out.alloc _⟩
  · have hr := Gm.root_of hg hk
    rw [hr]
    have hk' : (x.2.kind == 14) = false := by simpa using hk
    clear h hw hg hr hk
    go_enter Tryz.func140, Tryz.ntmps140
    go_wp2_with fail
    refine HW.out.mono ?_
    rintro e w1 ⟨⟨kind, home, ⟨k, n, s, A, cap, l, r0⟩, VA, vc, vs, n1, lost, ofr, byr, set, full, CA, cc, code, NA, nc, names⟩, e1, -, -, -, -, -, rfl, f1⟩
    simp only at e1
    rw [← e1] at hk'
    have hval : (Tg.val ⟨kind, home, T.mk k n s A cap l r0, VA, vc, vs, n1, lost, ofr, byr, set, full, CA, cc, code, NA, nc, names⟩) = .agg (c16 kind home k n s A l.length cap r0 VA vs.length vc n1 lost ofr byr set full CA code.length cc NA names.length nc) := rfl
    rw [hval]
    unfold c16
    clear hval
    have HF1 := hide f1
    clear f1 HW e1
    go_wp2
    go_ret
    exact ⟨rfl, HF1.out.alloc _⟩

/-- Some sets lie one behind the other. -/
def RowA (W : World) (A : Option Addr) (S : List Nat) : Prop := ∀ j (hj : j < S.length), ∃ g o, A = some ⟨g, o, none⟩ ∧ g < W.heap.size ∧ W.cell? ⟨g, o + j, none⟩ = some (.int .u8 (S[j] : Int))

/-- What narrowings ask ahead. -/
def Gm.askV (m : Gm) (S : List Nat) (r : Int) : Int := if S.all (fun x => decide (x < 64)) then m.isE r else 2

set_option maxRecDepth 100000 in
theorem ask_g (h : m.Ok lo W) {A : Option Addr} {cap : Nat} {S : List Nat} (hA : RowA W A S) (hS : ∀ x ∈ S, x < 256) (hn : S.length ≤ 1000000) {g : Nat} {r : Int} (h0 : W.cell? ⟨g, 0, none⟩ = some (.int .i64 r)) (hg : g < W.heap.size) :
    Calls Tryz.prog 137 #[.pointer (some ⟨m.wb, 0, none⟩), .slice A S.length cap, .slice (some ⟨g, 0, none⟩) 1 1] W fun e w' => e = .returned (.int .i64 (m.askV S r)) ∧ w' = W := by
  have HT0 := hide (fthere0_g h)
  have HT1 := hide (fthere1_g h h0 hg)
  have HA := hide hA
  have HS := hide hS
  clear h hA hS h0 hg
  go_enter Tryz.func137, Tryz.ntmps137
  go_wp2_with fail
  refine HT0.out.mono ?_
  rintro e w' ⟨rfl, rfl⟩
  go_wp2_with fail
  go_loopw [17] (fun i wr => ∃ j : Nat, j ≤ S.length ∧ i = .int .i64 j ∧ wr = w' ∧ (∀ k (hk : k < S.length), k < j → S[k] < 64)) (fun i _ => S.length - (intOf i).toNat)
  case atStart => exact ⟨0, Nat.zero_le _, rfl, rfl, fun k hk h => by omega⟩
  case round =>
    obtain ⟨j, hj, rfl, rfl, hall⟩ := hrel
    by_cases hlt : j < S.length
    · obtain ⟨b, o, rfl, hb1, e0⟩ := HA.out j hlt
      have hx : S[j] < 256 := HS.out _ (List.getElem_mem hlt)
      have HM := hide (May_w S[j] hx wr)
      by_cases h64 : S[j] < 64
      · have hd : decide (S[j] < 64) = true := by simpa using h64
        rw [hd] at HM
        have HALL := hide hall
        have HJ : Hid (∀ k (hk : k < S.length), k = j → S[k] < 64) := hide fun k hk e => by subst e; exact h64
        generalize S[j] = u at *
        clear hall h64 hd hx
        go_wp2_with fail
        refine HM.out.mono ?_
        rintro e w2 ⟨rfl, rfl⟩
        go_wp2
        go_roundw
        case rel =>
          refine ⟨j + 1, hlt, by go_num, trivial, fun k hk hkj => ?_⟩
          rcases Nat.lt_or_ge k j with h | h
          · exact HALL.out k hk h
          · exact HJ.out k hk (by omega)
        case measure => simp [intOf]; omega
      · have hd : decide (S[j] < 64) = false := by simpa using h64
        rw [hd] at HM
        have hv : m.askV S r = 2 := by
          unfold Gm.askV
          rw [if_neg]
          intro hh
          have := List.all_eq_true.1 hh _ (List.getElem_mem hlt)
          simp at this
          omega
        have HV := hide hv
        generalize S[j] = u at *
        clear hall h64 hd hx hv
        go_wp2_with fail
        refine HM.out.mono ?_
        rintro e w2 ⟨rfl, rfl⟩
        go_wp2
        go_ret
        exact ⟨by rw [HV.out]; rfl, rfl⟩
    · have hv : m.askV S r = m.isE r := by
        unfold Gm.askV
        rw [if_pos]
        refine List.all_eq_true.2 fun x hx => ?_
        obtain ⟨k, hk, rfl⟩ := List.mem_iff_getElem.1 hx
        have := hall k hk (by omega)
        simpa using this
      have HV := hide hv
      clear hall hv
      go_wp2_with fail
      refine HT1.out.mono ?_
      rintro e w2 ⟨rfl, rfl⟩
      go_wp2
      go_ret
      exact ⟨by rw [HV.out]; rfl, rfl⟩
end

end Go.Proofs.YtlejelbefmkakaaGreat

/- Layer 11: narrow, Narrow. -/
namespace Go.Proofs.YtlejelbefmkakaaGreat
open Go.RowKit

section
variable {m : Gm} {lo : Nat} {W : World}

set_option maxRecDepth 100000 in
set_option maxHeartbeats 4000000 in
/-- A thing narrowed: t its root, a what the root can, b what it can itself. -/
theorem narrow_g (h : m.Ok lo W) (hlo : lo ≤ W.heap.size) (hw : WhatOk m lo) (hr : m.Room) {r : Int} {x y : Nat × Tg} (hg : m.get r = some x) (hy : m.get (m.root r) = some y) (hyk : y.2.kind ≠ 14) (ht : -9223372036854775808 ≤ m.root r ∧ m.root r ≤ 9223372036854775807) {a b s : Nat} (ha : m.Abl (m.root r) a) (hb : m.Abl r b) (hba : b &&& a = b) (hs : s < 64) :
    Calls Tryz.prog 138 #[.pointer (some ⟨m.wb, 0, none⟩), .int .i64 r, .int .u8 (s : Int)] W fun e w' => ∃ g, e = .returned (.tuple #[.int .i64 (m.nar g (m.root r) (s &&& b) a).1, .int .i64 0]) ∧ (m.nar g (m.root r) (s &&& b) a).2.Ok lo w' ∧ Fr m.B W w' := by
  have HRt := hide (root_g h hw hg)
  have HA := hide fun w' (f : Fr No W w') => Able_w (h.no f) ha
  have HB := hide fun w' (f : Fr No W w') => Able_w (h.no f) hb
  have e1 : bits .and .u8 (s : Int) (b : Int) = ((s &&& b : Nat) : Int) := u8_and_nat s b (by omega) (by have := hb.lt; omega)
  have hsub : (s &&& b) &&& a = s &&& b := by rw [Nat.and_assoc, hba]
  have hlt : s &&& b < 64 := and_lt hs
  generalize s &&& b = q at *
  have HF := hide fun w' (f : Fr No W w') (hne : q ≠ a) => Facet_g (h.no f) (Nat.le_trans hlo f.size) hr ht hy hyk hlt ha hsub hne
  have HOK := hide h
  clear h hw hg ha hb hsub hlt hs hr ht hyk hba hy
  generalize m.root r = t at *
  go_enter Tryz.func138, Tryz.ntmps138
  go_wp2_with fail
  refine HRt.out.mono ?_
  rintro e w1 ⟨rfl, f1⟩
  have HF1 := hide f1
  clear f1 HRt
  go_wp2_with fail
  refine (HA.out w1 HF1.out).mono ?_
  rintro e w2 ⟨rfl, f2⟩
  have HF2 := hide (HF1.out.trans f2)
  clear f2 HA HF1
  go_wp2_with fail
  refine (HB.out w2 HF2.out).mono ?_
  rintro e w3 ⟨rfl, f3⟩
  have HF3 := hide (HF2.out.trans f3)
  clear f3 HB HF2
  by_cases hqa : q = a
  · have hd : ((q : Int) == (a : Int)) = true := by simp [hqa]
    have HQ := hide hqa
    clear hqa
    go_wp2
    go_ret2
    refine ⟨0, ?_, ?_, HF3.out.no⟩
    · simp [Gm.nar, HQ.out]
    · have : (m.nar 0 t q a).2 = m := by simp [Gm.nar, HQ.out]
      rw [this]
      exact HOK.out.no HF3.out
  · have hd : ((q : Int) == (a : Int)) = false := by simp; omega
    have HFF := hide (HF.out w3 HF3.out hqa)
    clear hqa HF
    go_wp2_with fail
    refine HFF.out.mono ?_
    rintro e w4 ⟨g, rfl, hok, f4⟩
    have HOK4 := hide hok
    have HF4 := hide (HF3.out.no.trans f4)
    clear hok f4
    go_wp2
    go_ret2
    exact ⟨g, rfl, HOK4.out, HF4.out⟩

set_option maxRecDepth 100000 in
set_option maxHeartbeats 4000000 in
theorem Narrow_g (h : m.Ok lo W) (hlo : lo ≤ W.heap.size) (hw : WhatOk m lo) (hr : m.Room) {r : Int} {x y : Nat × Tg} (hg : m.get r = some x) (hy : m.get (m.root r) = some y) (hyk : y.2.kind ≠ 14) (ht : -9223372036854775808 ≤ m.root r ∧ m.root r ≤ 9223372036854775807) {a b s : Nat} (ha : m.Abl (m.root r) a) (hb : m.Abl r b) (hba : b &&& a = b) (hs : s < 64) :
    Calls Tryz.prog 69 #[.pointer (some ⟨m.wb, 0, none⟩), .int .i64 r, .int .u8 (s : Int)] W fun e w' => ∃ g, e = .returned (.tuple #[.int .i64 (m.nar g (m.root r) (s &&& b) a).1, .int .i64 0]) ∧ (m.nar g (m.root r) (s &&& b) a).2.Ok lo w' ∧ Fr m.B W w' := by
  have hf := ((Fr.refl No W).alloc (.cells #[.int .u8 (s : Int)] 24)).alloc (.cells #[.int .i64 r] 22)
  have b1 := (Blk.new W 24 #[.int .u8 (s : Int)]).alloc (.cells #[.int .i64 r] 22)
  have b2 := Blk.new' (W.alloc (.cells #[.int .u8 (s : Int)] 24)) 22 #[.int .i64 r] (g := W.heap.size + 1) (by simp)
  have hrow : RowA ((W.alloc (.cells #[.int .u8 (s : Int)] 24)).alloc (.cells #[.int .i64 r] 22)) (some ⟨W.heap.size, 0, none⟩) [s] := fun j hj => by
    have : j = 0 := by simp at hj; exact hj
    subst this
    exact ⟨_, _, rfl, b1.lt, b1.cell 0⟩
  have hask := ask_g (cap := 1) (h.no hf) hrow (by simp; omega) (by simp) (b2.cell 0) b2.lt
  have hv : m.askV [s] r = 0 := by simp [Gm.askV, hs, Gm.isE, hg]
  rw [hv] at hask
  have HASK := hide hask
  have HNAR := hide fun w' (f : Fr No W w') => narrow_g (h.no f) (Nat.le_trans hlo f.size) hw hr hg hy hyk ht ha hb hba hs
  have HF0 := hide hf
  clear hf b1 b2 hrow hask hv h hw hr hg hy hyk ht ha hb hba hs
  go_enter Tryz.func69, Tryz.ntmps69
  go_wp2_with fail
  generalize World.alloc (World.alloc W _) _ = W0 at *
  refine HASK.out.mono ?_
  rintro e w1 ⟨rfl, rfl⟩
  go_wp2_with fail
  refine (HNAR.out w1 HF0.out).mono ?_
  rintro e w2 ⟨g, rfl, hok, f2⟩
  have HOK2 := hide hok
  have HF2 := hide (HF0.out.no.trans f2)
  clear hok f2
  go_wp2
  go_ret2
  exact ⟨g, rfl, HOK2.out, HF2.out⟩
end

end Go.Proofs.YtlejelbefmkakaaGreat

/- Worlds: a pair more, plain. -/
namespace Go.Proofs.YtlejelbefmkakaaGreat
open Go.RowKit

/-- A world with one pair more. -/
def Wm.pair (m : Wm) (g1 g2 : Nat) (t1 t2 : T) (s : Nat) : Wm :=
  (m.add g1 ⟨5, s, t1, 0, 0, 0, 0, 0, false⟩ s).add g2 ⟨6, s, t2, 0, 0, (m.th.length : Int) + 1, 0, 0, false⟩ s

section
variable {m : Wm} {g1 g2 s : Nat} {t1 t2 : T}

theorem pair_len : (m.pair g1 g2 t1 t2 s).th.length = m.th.length + 2 := by unfold Wm.pair; rw [add_len, add_len]
theorem pair_made : (m.pair g1 g2 t1 t2 s).made.length = m.made.length := by unfold Wm.pair; rw [add_made, add_made]
theorem pair_made_at (hs : s < m.made.length) : (m.pair g1 g2 t1 t2 s).made[s]'(by rw [pair_made]; exact hs) = m.made[s] + 2 := by
  unfold Wm.pair
  rw [add_at_made (by rw [add_made]; exact hs), add_at_made hs]
theorem pair_sealer : (m.pair g1 g2 t1 t2 s).get ((m.th.length : Int) + 1) = some (g1, ⟨5, s, t1, 0, 0, 0, 0, 0, false⟩) := by
  unfold Wm.pair
  exact add_get_old (add_get_new _ _ _)
theorem pair_opener : (m.pair g1 g2 t1 t2 s).get ((m.th.length : Int) + 2) = some (g2, ⟨6, s, t2, 0, 0, (m.th.length : Int) + 1, 0, 0, false⟩) := by
  unfold Wm.pair
  have h := add_get_new (m := m.add g1 ⟨5, s, t1, 0, 0, 0, 0, 0, false⟩ s) g2 s ⟨6, s, t2, 0, 0, (m.th.length : Int) + 1, 0, 0, false⟩
  rw [add_len] at h
  rw [← h]
  congr 1
theorem pair_old {r : Int} {y : Nat × Th} (h : m.get r = some y) : (m.pair g1 g2 t1 t2 s).get r = some y := by
  unfold Wm.pair
  exact add_get_old (add_get_old h)
theorem pair_ofr (h : ∀ x ∈ m.th, x.2.ofr ≤ (m.th.length : Int)) : ∀ x ∈ (m.pair g1 g2 t1 t2 s).th, x.2.ofr ≤ ((m.pair g1 g2 t1 t2 s).th.length : Int) := by
  intro x hx
  rw [pair_len]
  unfold Wm.pair Wm.add at hx
  simp only [List.mem_append, List.mem_singleton] at hx
  rcases hx with (hx | rfl) | rfl
  · have := h x hx; omega
  · simp; omega
  · simp
end

end Go.Proofs.YtlejelbefmkakaaGreat

/- world.New, of one side, with its row of cuts; a world of plain things as one of whatever things. -/
namespace Go.Proofs.YtlejelbefmkakaaGreat
open Go.RowKit

set_option maxRecDepth 100000 in
set_option maxHeartbeats 4000000 in
theorem New_one2 (W : World) : Calls Tryz.prog 82 #[.slice none 0 0] W fun e w' => ∃ m : Wm, e = .returned (.tuple #[.pointer (some ⟨m.wb, 0, none⟩), .int .i64 0]) ∧ m.Ok W.heap.size w' ∧ m.th = [] ∧ m.made = [0] ∧ m.fac = [] ∧ m.P = none ∧ m.pn = 0 ∧ m.pc = 0 ∧ (∃ gc, m.C = some ⟨gc, 0, none⟩ ∧ m.cn = 1 ∧ m.cc = 1 ∧ Blk w' gc 4 #[.bool false] ∧ W.heap.size ≤ gc) ∧ Fr No W w' := by
  have hmm := @run_makeMap Tryz.prog
  have hC := cloneS_w
  have hb1 := mk1_bool
  have hb2 := mk1_int
  go_enter Tryz.func82, Tryz.ntmps82
  go_wp2_with fail
  refine wp_loop_rounds 1 ?_
  rw [rounds_succ]
  go_wp2_with fail
  refine wp_region_inv (I := fun a0 f a wx => ∃ y0 y1 y2 y3 y4 y5 y6 y7 y8 y9 y10 y11 g, a = ((((((((((((a0.put (some 28) y0).put (some 29) y1).put (some 30) y2).put (some 31) y3).put (some 32) y4).put (some 33) y5).put (some 34) y6).put (some 35) y7).put (some 36) y8).put (some 37) y9).put (some 2) y10).put (some 3) y11) ∧ NJ W f [y0, y1, y2, y3, y4, y5, y6, y7, y8, y9, y10, y11] g wx) (by kernel_rfl) (by kernel_rfl) ?st ?step ?en
  case st => exact ⟨_, _, _, _, _, _, _, _, _, _, _, _, _, by simp only [Act.put, List.setIfInBounds_toArray, List.set_cons_zero, List.set_cons_succ] <;> rfl, NJ.begin W _⟩
  case step =>
    rintro i o f a wx ho hf hd ⟨y0, y1, y2, y3, y4, y5, y6, y7, y8, y9, y10, y11, g, rfl, J⟩ K' hK
    have hi := (Array.getElem?_eq_some_iff.1 ho).1
    simp only [List.size_toArray, List.length_cons, List.length_nil] at hi
    have hid : i = 0 ∨ i = 1 ∨ i = 2 ∨ i = 3 ∨ i = 4 ∨ i = 5 ∨ i = 6 ∨ i = 7 ∨ i = 8 ∨ i = 9 ∨ i = 10 ∨ i = 11 := by omega
    simp only [Act.put, List.setIfInBounds_toArray, List.set_cons_zero, List.set_cons_succ]
    rcases hid with rfl | rfl | rfl | rfl | rfl | rfl | rfl | rfl | rfl | rfl | rfl | rfl
    · simp only [List.getElem?_toArray, List.getElem?_cons_zero, Option.some.injEq] at ho; subst ho
      have HJ := hide J
      have HFI := hide hf
      clear J hd hf
      go_simp
      exact hK.out _ _ ⟨_, _, _, _, _, _, _, _, _, _, _, _, _, by simp only [Act.put, List.setIfInBounds_toArray, List.set_cons_zero, List.set_cons_succ] <;> rfl, HJ.out.quiet (i := 0) (by decide) (by simp) (nofun) (nofun)⟩
    · simp only [List.getElem?_toArray, List.getElem?_cons_succ, List.getElem?_cons_zero, Option.some.injEq] at ho; subst ho
      have b0 := hd ⟨0, .data⟩ (by simp) (by rfl)
      obtain rfl : y0 = .slice none 0 0 := J.x 0 b0
      have HJ := hide J
      have B0 := hide b0
      have HFI := hide hf
      clear J hd hf b0
      go_simp
      refine (hC _).mono ?_
      rintro e w' ⟨rfl, rfl⟩
      try go_simp
      exact hK.out _ _ ⟨_, _, _, _, _, _, _, _, _, _, _, _, _, by simp only [Act.put, List.setIfInBounds_toArray, List.set_cons_zero, List.set_cons_succ] <;> rfl, HJ.out.quiet (i := 1) (by decide) (by simp) (nofun) (nofun)⟩
    · simp only [List.getElem?_toArray, List.getElem?_cons_succ, List.getElem?_cons_zero, Option.some.injEq] at ho; subst ho
      have HJ := hide J
      have HFI := hide hf
      clear J hd hf
      go_simp
      exact hK.out _ _ ⟨_, _, _, _, _, _, _, _, _, _, _, _, _, by simp only [Act.put, List.setIfInBounds_toArray, List.set_cons_zero, List.set_cons_succ] <;> rfl, HJ.out.quiet (i := 2) (by decide) (by simp) (nofun) (nofun)⟩
    · simp only [List.getElem?_toArray, List.getElem?_cons_succ, List.getElem?_cons_zero, Option.some.injEq] at ho; subst ho
      have b2 := hd ⟨2, .data⟩ (by simp) (by rfl)
      obtain rfl : y2 = .int .i64 1 := J.x 2 b2
      have HJ := hide J
      have B2 := hide b2
      have HFI := hide hf
      clear J hd hf b2
      go_simp
      exact hK.out _ _ ⟨_, _, _, _, _, _, _, _, _, _, _, _, _, by simp only [Act.put, List.setIfInBounds_toArray, List.set_cons_zero, List.set_cons_succ] <;> rfl, HJ.out.make (i := 3) (by simp) HFI.out (by simp) (by show (World.alloc _ _).heap[gset g 3 wx.heap.size 3]? = _; rw [gset_eq]; exact World.alloc_heap_new _ _)⟩
    · simp only [List.getElem?_toArray, List.getElem?_cons_succ, List.getElem?_cons_zero, Option.some.injEq] at ho; subst ho
      have HJ := hide J
      have HFI := hide hf
      clear J hd hf
      go_simp
      exact hK.out _ _ ⟨_, _, _, _, _, _, _, _, _, _, _, _, _, by simp only [Act.put, List.setIfInBounds_toArray, List.set_cons_zero, List.set_cons_succ] <;> rfl, HJ.out.quiet (i := 4) (by decide) (by simp) (nofun) (nofun)⟩
    · simp only [List.getElem?_toArray, List.getElem?_cons_succ, List.getElem?_cons_zero, Option.some.injEq] at ho; subst ho
      have b4 := hd ⟨4, .data⟩ (by simp) (by rfl)
      obtain rfl : y4 = .int .i64 1 := J.x 4 b4
      have HJ := hide J
      have B4 := hide b4
      have HFI := hide hf
      clear J hd hf b4
      go_simp
      exact hK.out _ _ ⟨_, _, _, _, _, _, _, _, _, _, _, _, _, by simp only [Act.put, List.setIfInBounds_toArray, List.set_cons_zero, List.set_cons_succ] <;> rfl, HJ.out.make (i := 5) (by simp) HFI.out (by simp) (by show (World.alloc _ _).heap[gset g 5 wx.heap.size 5]? = _; rw [gset_eq]; exact World.alloc_heap_new _ _)⟩
    · simp only [List.getElem?_toArray, List.getElem?_cons_succ, List.getElem?_cons_zero, Option.some.injEq] at ho; subst ho
      have HJ := hide J
      have HFI := hide hf
      clear J hd hf
      go_simp
      exact hK.out _ _ ⟨_, _, _, _, _, _, _, _, _, _, _, _, _, by simp only [Act.put, List.setIfInBounds_toArray, List.set_cons_zero, List.set_cons_succ] <;> rfl, HJ.out.make (i := 6) (by simp) HFI.out (by simp) (by show (World.alloc _ _).heap[gset g 6 wx.heap.size 6]? = _; rw [gset_eq]; exact World.alloc_heap_new _ _)⟩
    · simp only [List.getElem?_toArray, List.getElem?_cons_succ, List.getElem?_cons_zero, Option.some.injEq] at ho; subst ho
      have HJ := hide J
      have HFI := hide hf
      clear J hd hf
      go_simp
      exact hK.out _ _ ⟨_, _, _, _, _, _, _, _, _, _, _, _, _, by simp only [Act.put, List.setIfInBounds_toArray, List.set_cons_zero, List.set_cons_succ] <;> rfl, HJ.out.make (i := 7) (by simp) HFI.out (by simp) (by show (World.alloc _ _).heap[gset g 7 wx.heap.size 7]? = _; rw [gset_eq]; exact World.alloc_heap_new _ _)⟩
    · simp only [List.getElem?_toArray, List.getElem?_cons_succ, List.getElem?_cons_zero, Option.some.injEq] at ho; subst ho
      have b1 := hd ⟨1, .data⟩ (by simp) (by rfl)
      obtain rfl : y1 = .slice none 0 0 := J.x 1 b1
      have b3 := hd ⟨3, .data⟩ (by simp) (by rfl)
      obtain rfl : y3 = .slice (some ⟨g 3, 0, none⟩) 1 1 := J.x 3 b3
      have b5 := hd ⟨5, .data⟩ (by simp) (by rfl)
      obtain rfl : y5 = .slice (some ⟨g 5, 0, none⟩) 1 1 := J.x 5 b5
      have b6 := hd ⟨6, .data⟩ (by simp) (by rfl)
      obtain rfl : y6 = .map (some (g 6)) := J.x 6 b6
      have b7 := hd ⟨7, .data⟩ (by simp) (by rfl)
      obtain rfl : y7 = .map (some (g 7)) := J.x 7 b7
      have HJ := hide J
      have B1 := hide b1
      have B3 := hide b3
      have B5 := hide b5
      have B6 := hide b6
      have B7 := hide b7
      have HFI := hide hf
      clear J hd hf b1 b3 b5 b6 b7
      go_simp
      exact hK.out _ _ ⟨_, _, _, _, _, _, _, _, _, _, _, _, _, by simp only [Act.put, List.setIfInBounds_toArray, List.set_cons_zero, List.set_cons_succ] <;> rfl, HJ.out.quiet (i := 8) (by decide) (by simp) (fun _ => ⟨B3.out, B5.out, B6.out, B7.out⟩) (nofun)⟩
    · simp only [List.getElem?_toArray, List.getElem?_cons_succ, List.getElem?_cons_zero, Option.some.injEq] at ho; subst ho
      have b8 := hd ⟨8, .data⟩ (by simp) (by rfl)
      obtain rfl : y8 = .agg #[.slice none 0 0, .slice (some ⟨g 3, 0, none⟩) 1 1, .map (some (g 6)), .map (some (g 7)), .int .i64 0, .slice (some ⟨g 5, 0, none⟩) 1 1] := J.x 8 b8
      have HJ := hide J
      have B8 := hide b8
      have HFI := hide hf
      clear J hd hf b8
      go_simp
      exact hK.out _ _ ⟨_, _, _, _, _, _, _, _, _, _, _, _, _, by simp only [Act.put, List.setIfInBounds_toArray, List.set_cons_zero, List.set_cons_succ] <;> rfl, HJ.out.box B8.out HFI.out (by simp) (by show (World.alloc _ _).heap[gset g 9 wx.heap.size 9]? = _; rw [gset_eq]; exact World.alloc_heap_new _ _)⟩
    · simp only [List.getElem?_toArray, List.getElem?_cons_succ, List.getElem?_cons_zero, Option.some.injEq] at ho; subst ho
      have b9 := hd ⟨9, .data⟩ (by simp) (by rfl)
      obtain rfl : y9 = .pointer (some ⟨g 9, 0, none⟩) := J.x 9 b9
      have HJ := hide J
      have B9 := hide b9
      have HFI := hide hf
      clear J hd hf b9
      go_simp
      exact hK.out _ _ ⟨_, _, _, _, _, _, _, _, _, _, _, _, _, by simp only [Act.put, List.setIfInBounds_toArray, List.set_cons_zero, List.set_cons_succ] <;> rfl, HJ.out.quiet (i := 10) (by decide) (by simp) (nofun) (fun _ => B9.out)⟩
    · simp only [List.getElem?_toArray, List.getElem?_cons_succ, List.getElem?_cons_zero, Option.some.injEq] at ho; subst ho
      have HJ := hide J
      have HFI := hide hf
      clear J hd hf
      go_simp
      exact hK.out _ _ ⟨_, _, _, _, _, _, _, _, _, _, _, _, _, by simp only [Act.put, List.setIfInBounds_toArray, List.set_cons_zero, List.set_cons_succ] <;> rfl, HJ.out.quiet (i := 11) (by decide) (by simp) (nofun) (nofun)⟩
  case en =>
    rintro f a wx hall ⟨y0, y1, y2, y3, y4, y5, y6, y7, y8, y9, y10, y11, g, rfl, J⟩
    simp only [Act.put, List.setIfInBounds_toArray, List.set_cons_zero, List.set_cons_succ]
    have ha : ∀ j, j < 12 → f j = true := fun j hj => hall j (by simpa using hj)
    obtain rfl : y10 = .pointer (some ⟨g 9, 0, none⟩) := J.x 10 (ha 10 (by omega))
    obtain rfl : y11 = .int .i64 0 := J.x 11 (ha 11 (by omega))
    have n3 : wx.heap[g 9]? = _ := J.b 9 (ha 9 (by omega))
    have n5 : wx.heap[g 5]? = _ := J.b 5 (ha 5 (by omega))
    have nc : wx.heap[g 3]? = _ := J.b 3 (ha 3 (by omega))
    have n6 : wx.heap[g 6]? = _ := J.b 6 (ha 6 (by omega))
    have n7 : wx.heap[g 7]? = _ := J.b 7 (ha 7 (by omega))
    have hne := J.ne (ha 6 (by omega)) (ha 7 (by omega))
    have l9 := J.lo 9 (ha 9 (by omega)) (by simp)
    have l3 := J.lo 3 (ha 3 (by omega)) (by simp)
    have l5 := J.lo 5 (ha 5 (by omega)) (by simp)
    have l6 := J.lo 6 (ha 6 (by omega)) (by simp)
    have l7 := J.lo 7 (ha 7 (by omega)) (by simp)
    have hfr := J.fr
    have hok : (⟨g 9, g 6, g 7, none, 0, 0, some ⟨g 3, 0, none⟩, 1, 1, some ⟨g 5, 0, none⟩, 1, [0], [], []⟩ : Wm).Ok W.heap.size wx :=
      ⟨n3, ⟨#[], 0, n6, ⟨rfl, by simp⟩, by simp, by simp⟩, ⟨#[], 0, n7, rfl, by simp⟩, ⟨rfl, .inr ⟨g 5, 1, #[.int .i64 0], rfl, l5.1, n5, by simp, by simp [maxLen], rfl, rfl⟩⟩, by simp, by simp, ⟨l9.1, l6.1, l7.1, by simp⟩, hne, by simp, by simp, by simp, by simp⟩
    have HC : Hid (Blk wx (g 3) 4 #[.bool false] ∧ W.heap.size ≤ g 3) := hide ⟨nc, l3.1⟩
    have HOK := hide hok
    have HFR := hide hfr
    clear J hall ha n3 nc l3 n5 n6 n7 hne l9 l5 l6 l7 hok hfr
    go_wp2_with fail
    go_ret2
    exact ⟨_, rfl, HOK.out, rfl, rfl, rfl, rfl, rfl, rfl, ⟨_, rfl, rfl, rfl, HC.out.1, HC.out.2⟩, HFR.out⟩

/-- A thing without values, lists, code, names. -/
def Tg.z (kind home n lost ofr byr set : Int) (full : Bool) : Tg := ⟨kind, home, T.zero, none, 0, [], n, lost, ofr, byr, set, full, none, 0, [], none, 0, []⟩

theorem z_in (W : World) (lo hi : Nat) {kind home n lost ofr byr set : Int} {full : Bool} (hf : (Tg.z kind home n lost ofr byr set full).Fit) : (Tg.z kind home n lost ofr byr set full).In W lo hi := by
  refine ⟨hf, (T.zero_ow W lo hi).inn, ?_, ⟨by simp [Tg.z], by simp [Tg.z], by simp [Tg.z], ?_⟩, ⟨by simp [Tg.z], by simp [Tg.z], fun h => absurd rfl h, by simp [Tg.z]⟩⟩
  · exact T.in_mk.2 ⟨fit_row, fun h => absurd rfl h, by simp [Tg.z]⟩
  · exact G.row_in.2 ⟨fun h => absurd rfl h, by simp [Tg.z]⟩

theorem z_st (W : World) (lo : Nat) {kind home n lost ofr byr set : Int} {full : Bool} (hf : (Tg.z kind home n lost ofr byr set full).Fit) : (Tg.z kind home n lost ofr byr set full).St W lo := by
  refine ⟨z_in W lo _ hf, fun b hb => ?_, fun b hb => ?_, fun b hb => ?_, fun y hy => ?_⟩
  · exfalso
    rcases hb with hb | hb
    · simp [Tg.z, T.zero, T.blocks_mk] at hb
    · simp [Tg.z, T.row, T.blocks_mk] at hb
  · exfalso
    rcases G.row_has hb with ⟨a, ha, -⟩ | ⟨x, hx, -⟩
    · cases ha
    · cases hx
  · exfalso
    obtain ⟨a, ha, -⟩ := hb
    cases ha
  · cases hy

/-- A world of one plain thing, as one of whatever things. -/
theorem gm_of {m : Wm} {lo : Nat} {W : World} (h : m.Ok lo W) {g gc : Nat} {kind home n lost ofr byr set : Int} {full : Bool} (hth : m.th = [(g, ⟨kind, home, T.zero, n, lost, ofr, byr, set, full⟩)]) (hf : m.fac = []) (hmd : m.made = [1]) (hP : m.P = none) (hpn : m.pn = 0) (hpc : m.pc = 0) (hC : m.C = some ⟨gc, 0, none⟩) (hcn : m.cn = 1) (hcc : m.cc = 1) (hb : Blk W gc 4 #[.bool false]) (hgc : lo ≤ gc)
    (hft : (Tg.z kind home n lost ofr byr set full).Fit) :
    (⟨m.wb, m.M, m.F, none, 0, [], some ⟨gc, 0, none⟩, 1, [false], m.D, m.dc, [1], 1, [(1, g, Tg.z kind home n lost ofr byr set full)], []⟩ : Gm).Ok lo W := by
  obtain ⟨es, cl, hm, he, hst⟩ := h.things
  obtain ⟨ef, cf, hff, hfe⟩ := h.facets
  rw [hth] at he
  rw [hf] at hfe
  have hmr := h.made
  rw [hmd] at hmr
  have hbk := h.blk
  have hbx := h.box _ (by rw [hth]; exact List.mem_singleton.2 rfl)
  have hl0 := h.lo0
  refine ⟨?_, ⟨es, cl, hm, ⟨he.1, fun i e x hei hxi => ?_⟩, hst⟩, ⟨ef, cf, hff, ⟨hfe.1, fun i e x _ hxi => by simp at hxi⟩, ?_⟩, World.ownsRow_nil _ _ _ _, ?_, hmr, fun x hx => ?_, fun x hx => ?_, ⟨hl0.1, hl0.2.1, hl0.2.2.1, fun x hx => ?_⟩, h.mf, by simp, by simp, by simp, by simp, by simp, by simp⟩
  · have : (⟨m.wb, m.M, m.F, none, 0, [], some ⟨gc, 0, none⟩, 1, [false], m.D, m.dc, [1], 1, [(1, g, Tg.z kind home n lost ofr byr set full)], []⟩ : Gm).cells = m.cells := by
      simp [Gm.cells, Wm.cells, hP, hpn, hpc, hC, hcn, hcc, hmd, hth]
    rw [this]
    exact hbk
  · cases i with
    | zero =>
      simp at hxi
      subst hxi
      exact he.2 0 e _ hei rfl
    | succ i => simp at hxi
  · have : ef.toList = [] := List.eq_nil_of_length_eq_zero hfe.1
    rw [this]
    exact ⟨by simp, by simp⟩
  · exact ⟨rfl, .inr ⟨gc, 1, #[.bool false], rfl, hgc, hb, by simp, by simp [maxLen], rfl, rfl⟩⟩
  · simp only [List.mem_singleton] at hx
    subst hx
    exact hbx
  · simp only [List.mem_singleton] at hx
    subst hx
    exact z_st W lo hft
  · simp only [List.mem_singleton] at hx
    subst hx
    exact hl0.2.2.2 _ (by rw [hth]; exact List.mem_singleton.2 rfl)

end Go.Proofs.YtlejelbefmkakaaGreat

/- Worlds of things without values, lists, code, names: What. -/
namespace Go.Proofs.YtlejelbefmkakaaGreat
open Go.RowKit

set_option maxRecDepth 100000 in
set_option maxHeartbeats 4000000 in
theorem What_gz {m : Gm} {lo : Nat} {W : World} (h : m.Ok lo W) {r : Int} {gx : Nat} {kind home n1 lost ofr byr set : Int} {full : Bool} (hg : m.get r = some (gx, Tg.z kind home n1 lost ofr byr set full)) :
    Calls Tryz.prog 89 #[.pointer (some ⟨m.wb, 0, none⟩), .int .i64 r] W fun e w' => ∃ t' : T, e = .returned (.tuple #[Th.val ⟨kind, home, t', n1, lost, ofr, byr, set, full⟩, .int .i64 0]) ∧ t'.v = T.zero.v ∧ t'.Sh w' W.heap.size w'.heap.size ∧ Fr No W w' := by
  have hf0 := (Fr.refl No W).alloc (.cells (th16 0 0 0 0 ⟨#[]⟩ none 0 0 0 0 0 0 0 0 false) 138)
  have h0 := h.no hf0
  have hN := gnone_w h0
  have hI := gIs_w h0 r
  have hl := gook_thing h0 r
  have hx := Gm.get_mem hg
  have hbx := h0.box _ hx
  have c0 := gmap_cell h0
  have q0 := h0.blk.lt
  have hi1 : (m.get r).isSome = true := by rw [hg]; rfl
  rw [hi1] at hI
  rw [hg] at hl
  have hb4 := Blk.new W 138 (th16 0 0 0 0 ⟨#[]⟩ none 0 0 0 0 0 0 0 0 false)
  have hbx' : Blk (W.alloc (.cells (th16 0 0 0 0 ⟨#[]⟩ none 0 0 0 0 0 0 0 0 false) 138)) gx 138 (th16 kind home 0 0 ⟨#[]⟩ none 0 0 0 n1 lost ofr byr set full) := hbx
  have hO := fun W' (f : Fr No W W') => ownWhat_w kind home 0 0 ⟨#[]⟩ none 0 [] 0 n1 lost ofr byr set full W' W'.heap.size ((T.zero_ow W' 0 W'.heap.size).inn) (Nat.le_refl _) (by show T.zero.v.may = true; rw [T.zero_v, zero_may])
  simp only [Option.map_some] at hl
  simp only [List.length_nil] at hO
  change ∀ W', Fr No W W' → Calls _ _ _ W' (OwnW kind home T.zero.v n1 lost ofr byr set full W') at hO
  generalize T.zero.v = u at *
  unfold th16 at hbx' hf0 hb4 hO hN hI hl c0 q0
  obtain ⟨d0, d1, d2, d3, d4, d5, d6, d7, d8, d9, d10, d11, d12, d13, d14, d15⟩ := hbx'.cells16
  have dq := hbx'.lt
  have HN := hide hN
  have HI := hide hI
  have HO := hide hO
  have HF0 := hide hf0
  have HB4 := hide hb4
  clear hN hI hO hf0 hb4 h0 hx hbx hbx' hi1 h hg
  go_enter Tryz.func89, Tryz.ntmps89
  go_wp2_with fail
  generalize hW0 : World.alloc W _ = W0 at *
  refine HN.out.mono ?_
  rintro e w' ⟨rfl, rfl⟩
  go_wp2_with fail
  refine HI.out.mono ?_
  rintro e w' ⟨rfl, rfl⟩
  go_wp2_with fail
  refine (HO.out w' HF0.out).mono ?_
  rintro e w1 ⟨⟨k2, n2, s2, A2, cap2, l2, r2⟩, rfl, hv, hsh, f1⟩
  have hval : (Th.val ⟨kind, home, T.mk k2 n2 s2 A2 cap2 l2 r2, n1, lost, ofr, byr, set, full⟩) = .agg (th16 kind home k2 n2 s2 A2 l2.length cap2 r2 n1 lost ofr byr set full) := rfl
  rw [hval]
  have hb := HB4.out.fr f1 fun h => h
  obtain ⟨e0, e1, e2, e3, e4, e5, e6, e7, e8, e9, e10, e11, e12, e13, e14, e15⟩ := hb.cells16
  have ez := hb.frozen
  have eq_ := hb.lt
  have HV := hide hv
  have HSH := hide hsh
  have HF1 := hide f1
  unfold th16
  clear hb hv hsh f1 d0 d1 d2 d3 d4 d5 d6 d7 d8 d9 d10 d11 d12 d13 d14 d15 dq hval c0 q0 hl
  go_wp2_with fail
  refine bodyPost_ret (v := .tuple #[.agg (th16 kind home k2 n2 s2 A2 l2.length cap2 r2 n1 lost ofr byr set full), .int .i64 0]) (by simp [results, Tryz.results89, th16, go_sem, *]) rfl ?_
  generalize hWe : World.setCell _ _ _ = We
  have fe : Fr (fun i => i = W.heap.size) w1 We := by
    rw [← hWe]
    repeat (first | with_reducible exact Fr.refl _ w1 | with_reducible refine Fr.set ?_ (by simp) _)
  have hs0 : W.heap.size + 1 ≤ w'.heap.size := by rw [← hW0]; simp
  have hbl : ∀ b ∈ (T.mk k2 n2 s2 A2 cap2 l2 r2).blocks, w'.heap.size ≤ b := fun b hb => (T.In.blocks _ HSH.out.inn b hb).1
  refine ⟨T.mk k2 n2 s2 A2 cap2 l2 r2, rfl, HV.out, ((HSH.out.fr fe fun b hb h => by have := hbl b hb; omega).more (by omega) fe.size), (HF0.out.trans HF1.out).trans' fe fun i hi h => by omega⟩


/-- All things are plain. -/
def Gm.Zs (m : Gm) : Prop := ∀ x ∈ m.th, ∃ kind home n lost ofr byr set full, x.2.2 = Tg.z kind home n lost ofr byr set full

theorem Gm.Zs.what {m : Gm} (hz : m.Zs) (lo : Nat) : WhatOk m lo := by
  intro r x W hg h
  obtain ⟨kind, home, n, lost, ofr, byr, set, full, hx⟩ := hz _ (Gm.get_mem hg)
  obtain ⟨gx, x2⟩ := x
  simp only at hx
  subst hx
  refine (What_gz h hg).mono ?_
  rintro e w' ⟨t', rfl, hv, hsh, f⟩
  obtain rfl := zero_of hsh (hv.trans T.zero_v)
  exact ⟨Tg.z kind home n lost ofr byr set full, rfl, rfl, rfl, rfl, rfl, rfl, rfl, f⟩

theorem Gm.Zs.addF {m : Gm} (hz : m.Zs) (g : Nat) (t : Int) (s : Nat) : (m.addF g t s).Zs := by
  intro x hx
  rcases List.mem_append.1 hx with hx | hx
  · exact hz x hx
  · simp only [List.mem_singleton] at hx
    subst hx
    exact ⟨_, _, _, _, _, _, _, _, rfl⟩

end Go.Proofs.YtlejelbefmkakaaGreat

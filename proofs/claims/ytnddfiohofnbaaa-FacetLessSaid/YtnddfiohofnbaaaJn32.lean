/- Texts joined: Gf6, Gf7, Gf8, Gf9, Hf1, Hf2. -/
import Derived.Test.YtnddfiohofnbaaaJn7
import Derived.Test.YtnddfiohofnbaaaJn13
import Derived.Test.YtnddfiohofnbaaaJn31
import Derived.LoopN
/- Worlds of whatever things: lay, of a facet. -/
namespace Go.Proofs.Ytnddfiohofnbaaa
open Go.RowKit

theorem fac_in (W : World) (lo hi : Nat) (t : Int) (ht : -9223372036854775808 ≤ t ∧ t ≤ 9223372036854775807) (s : Nat) (hs : s < 64) : (Tg.fac t s).In W lo hi := by
  refine ⟨⟨by simp [Tg.fac], by simp [Tg.fac], by simp [Tg.fac], by simp [Tg.fac], ht, by simp [Tg.fac], ⟨by simp [Tg.fac], by show (s : Int) < 256; omega⟩⟩, (T.zero_ow W lo hi).inn, ?_, ⟨by simp [Tg.fac], by simp [Tg.fac], by simp [Tg.fac], ?_⟩, ⟨by simp [Tg.fac], by simp [Tg.fac], fun h => absurd rfl h, by simp [Tg.fac]⟩⟩
  · exact T.in_mk.2 ⟨fit_row, fun h => absurd rfl h, by simp [Tg.fac]⟩
  · exact G.row_in.2 ⟨fun h => absurd rfl h, by simp [Tg.fac]⟩

theorem fac_st (W : World) (lo : Nat) (t : Int) (ht : -9223372036854775808 ≤ t ∧ t ≤ 9223372036854775807) (s : Nat) (hs : s < 64) : (Tg.fac t s).St W lo := by
  refine ⟨fac_in W lo _ t ht s hs, fun b hb => ?_, fun b hb => ?_, fun b hb => ?_, fun y hy => ?_⟩
  · exfalso
    rcases hb with hb | hb
    · simp [Tg.fac, T.zero, T.blocks_mk] at hb
    · simp [Tg.fac, T.row, T.blocks_mk] at hb
  · exfalso
    rcases G.row_has hb with ⟨a, ha, -⟩ | ⟨x, hx, -⟩
    · cases ha
    · cases hx
  · exfalso
    obtain ⟨a, ha, -⟩ := hb
    cases ha
  · cases hy

set_option maxRecDepth 100000 in
set_option maxHeartbeats 8000000 in
theorem layF {m : Gm} {lo : Nat} {W : World} (h : m.Ok lo W) (hlo : lo ≤ W.heap.size) (hl0 : 0 ≤ m.last ∧ m.last < 10000000) (hnum : ∀ y ∈ m.th, y.1 ≤ m.last) (t : Int) (ht : -9223372036854775808 ≤ t ∧ t ≤ 9223372036854775807) (s : Nat) (hs : s < 64) (hn : m.fget t s = none) (hlen : m.th.length < 1000000) (hfl : m.fac.length < 1000000) :
    Calls Try.prog 70 #[.pointer (some ⟨m.wb, 0, none⟩), .agg #[.int .u8 14, .int .i64 0, .int .u8 0, .int .i64 0, .string ⟨#[]⟩, .slice none 0 0, .int .i64 0, .slice none 0 0, .int .i64 0, .int .i64 0, .int .i64 t, .int .i64 0, .int .u8 (s : Int), .bool false, .slice none 0 0, .slice none 0 0]] W fun e w' => e = .returned (.int .i64 (m.last + 1)) ∧ (m.addF W.heap.size t s).Ok lo w' ∧ Fr m.B W w' := by
  obtain ⟨es, cl, hm, hes, hst⟩ := h.things
  have hb0 := Blk.new W 83 #[.int .u8 14, .int .i64 0, .int .u8 0, .int .i64 0, .string ⟨#[]⟩, .slice none 0 0, .int .i64 0, .slice none 0 0, .int .i64 0, .int .i64 0, .int .i64 t, .int .i64 0, .int .u8 (s : Int), .bool false, .slice none 0 0, .slice none 0 0]
  have hf0 := (Fr.refl No W).alloc (.cells #[.int .u8 14, .int .i64 0, .int .u8 0, .int .i64 0, .string ⟨#[]⟩, .slice none 0 0, .int .i64 0, .slice none 0 0, .int .i64 0, .int .i64 0, .int .i64 t, .int .i64 0, .int .u8 (s : Int), .bool false, .slice none 0 0, .slice none 0 0] 83)
  have hwb := h.blk.fr hf0 fun h => h
  have c4 := hwb.cell 4
  have z4 := hwb.frozen 4
  have q4 := hwb.lt
  simp only [Gm.cells, List.getElem?_toArray, List.getElem?_cons_zero, List.getElem?_cons_succ] at c4
  have hw1 : IntKind.i64.wrap (m.last + 1) = m.last + 1 := IntWalk.i64_in _ (by omega)
  have HOK := hide h
  have HB0 := hide hb0
  have HF0 := hide hf0
  have HWB := hide hwb
  have HM := hide hm
  have HES := hide hes
  have HNUM := hide hnum
  clear hb0 hf0 hwb hm hes hst h
  go_enter Try.func70, Try.ntmps70
  go_upto_region 2 with (fail)
  have f1 : Fr (fun i => i = m.wb) W ((W.alloc (.cells #[.int .u8 14, .int .i64 0, .int .u8 0, .int .i64 0, .string ⟨#[]⟩, .slice none 0 0, .int .i64 0, .slice none 0 0, .int .i64 0, .int .i64 0, .int .i64 t, .int .i64 0, .int .u8 (s : Int), .bool false, .slice none 0 0, .slice none 0 0] 83)).setCell ⟨m.wb, 4, none⟩ (.int .i64 (m.last + 1))) := (HF0.out.no (S := fun i => i = m.wb)).set (fun _ => rfl) _
  have hb1 := HB0.out.far (p := ⟨m.wb, 4, none⟩) (by have := HOK.out.blk.lt; simp; omega) (.int .i64 (m.last + 1))
  have hw := HWB.out.set_ 4 (.int .i64 (m.last + 1))
  generalize hW1 : World.setCell (World.alloc W _) _ _ = W1 at *
  have hm1 : W1.heap[m.M]? = some (.map es cl) := (f1.block _ (lt_of_heap HM.out) fun hh => HOK.out.wbs.1 hh.symm).trans HM.out
  have hu : (Instr.mapUpdate 73 (.map (some m.M)) (.int .i64 (m.last + 1)) (.pointer (some ⟨W.heap.size, 0, none⟩))).run Try.prog W1.drew = .ok () (W1.drew.putObj m.M (.map (es.push { key := .int .i64 (m.last + 1), val := .pointer (some ⟨W.heap.size, 0, none⟩), born := cl }) (cl + 1))) :=
    update_num Try.underlying28 Try.underlying73 _ _ (show W1.drew.heap[m.M]? = some (.map es cl) from hm1) (fun e he => by
      obtain ⟨i, hi, rfl⟩ := List.mem_iff_getElem.1 he
      have hi' : i < m.th.length := by rw [← HES.out.1]; exact hi
      refine ⟨_, (HES.out.2 i _ _ (List.getElem?_eq_getElem hi) (List.getElem?_eq_getElem hi')).1, ?_⟩
      have := HNUM.out _ (List.getElem_mem hi')
      omega)
  have c2 := hw.cell 2
  have c5 := hw.cell 4
  have q5 := hw.lt
  simp only [Gm.cells, List.setIfInBounds_toArray, List.set_cons_zero, List.set_cons_succ, List.getElem?_toArray, List.getElem?_cons_zero, List.getElem?_cons_succ] at c2 c5
  have HF1 := hide f1
  have HB1 := hide hb1
  have HW1 := hide hw
  have HM1 := hide hm1
  clear c4 z4 q4 f1 hb1 hw hm1 hW1 HB0 HF0 HWB
  go_region
  all_goals
    go_simp
    go_upto_region 3 with (fail)
    generalize hW2 : World.putObj W1.drew _ _ = W2 at *
    have f2 : Fr (fun i => i = m.M) W1 W2 := by
      rw [← hW2]
      exact ((Fr.refl _ W1).drew).trans (fr_putObj _ _ _)
    have hlM := lt_of_heap HM1.out
    have hm2 : W2.heap[m.M]? = some (.map (es.push { key := .int .i64 (m.last + 1), val := .pointer (some ⟨W.heap.size, 0, none⟩), born := cl }) (cl + 1)) := by
      rw [← hW2]
      have hlM' : m.M < W1.drew.heap.size := hlM
      show (W1.drew.heap.setIfInBounds m.M _)[m.M]? = _
      rw [Array.getElem?_setIfInBounds, if_pos rfl, if_pos hlM']
    have hMg : W.heap.size ≠ m.M := by have := lt_of_heap HM.out; omega
    have hb2 := HB1.out.fr f2 hMg
    have hw2 := HW1.out.fr f2 HOK.out.wbs.1
    have f02 : Fr (fun i => i = m.wb ∨ i = m.M) W W2 := (HF1.out.mono fun i _ h => .inl h).trans' f2 fun i _ h => .inr h
    have hok := gok_lay1 (r := m.last + 1) (x := Tg.fac t s) HOK.out f02 (Nat.le_refl _) hlo (fun y hy => by have := HNUM.out y hy; omega) hb2 (fac_st W2 lo t ht s hs) hlen (by simpa [Gm.cells] using hw2) HM.out hm2
    have hfresh : m.get (m.last + 1) = none := by
      cases hq : m.get (m.last + 1) with
      | none => rfl
      | some x => have := HNUM.out _ (Gm.get_mem hq); simp at this; omega
    have hget : ({ m with last := m.last + 1, th := m.th ++ [(m.last + 1, W.heap.size, Tg.fac t s)] } : Gm).get (m.last + 1) = some (W.heap.size, Tg.fac t s) := by
      have h1 := hfresh
      unfold Gm.get at h1 ⊢
      rw [List.find?_append]
      rw [Option.map_eq_none_iff] at h1
      rw [h1]
      simp
    have hix := index_g (t := t) (s := (s : Int)) hok hget rfl rfl rfl hn hfl
    have d0 : W2.cell? ⟨W.heap.size, 0, none⟩ = some (.int .u8 14) := hb2.cell 0
    have dq := hb2.lt
    have x4 : W2.cell? ⟨m.wb, 4, none⟩ = some (.int .i64 (m.last + 1)) := by
      have := hw2.cell 4
      simpa [Gm.cells] using this
    have xq := hw2.lt
    have hFne : W.heap.size ≠ m.F := by
      obtain ⟨ef, cf, hf, -⟩ := HOK.out.facets
      have := lt_of_heap hf
      omega
    have HIX := hide hix
    have HF2 := hide f02
    have HB2 := hide hb2
    have HW2 := hide hw2
    have HFne := hide hFne
    clear hu c2 c5 q5 hW2 f2 hlM hm2 hMg hb2 hw2 f02 hok hfresh hget hix HB1 HW1 HM1 HF1 hFne
    go_wp2_with fail
    refine HIX.out.mono ?_
    rintro e w' ⟨⟨v, rfl⟩, hok3, f3⟩
    have hb3 := HB2.out.fr f3 HFne.out
    have hw3 := HW2.out.fr f3 HOK.out.wbs.2
    have hfr : Fr m.B W w' := (HF2.out.mono fun i _ h => (by
      rcases h with rfl | rfl
      · exact .inl rfl
      · exact .inr (.inl rfl) : m.B i)).trans' f3 fun i _ h => .inr (.inr (.inl h))
    have e0 : w'.cell? ⟨W.heap.size, 0, none⟩ = some (.int .u8 14) := hb3.cell 0
    have eq0 := hb3.lt
    have e4 : w'.cell? ⟨m.wb, 4, none⟩ = some (.int .i64 (m.last + 1)) := by
      have := hw3.cell 4
      simpa [Gm.cells] using this
    have eq4 := hw3.lt
    have HOK3 := hide hok3
    have HFR := hide hfr
    clear d0 dq x4 xq hb3 hw3 hok3 hfr f3 HIX HF2 HB2 HW2
    go_wp2
    go_ret
    exact ⟨rfl, HOK3.out, HFR.out⟩

end Go.Proofs.Ytnddfiohofnbaaa

/- Worlds of whatever things: Facet. -/
namespace Go.Proofs.Ytnddfiohofnbaaa
open Go.RowKit

theorem andNot_sub {s a : Nat} (hs : s < 64) (ha : a < 64) (h : s &&& a = s) : bits .andNot .u8 (s : Int) (a : Int) = 0 := by
  rw [u8_andNot_nat s a (by omega) (by omega)]
  have : ∀ s a : Fin 64, s.val &&& a.val = s.val → s.val &&& (255 - a.val) = 0 := by decide +kernel
  have := this ⟨s, hs⟩ ⟨a, ha⟩ h
  simp only at this
  rw [this]
  rfl

/-- The facet of a target and a set, and the world behind it. -/
def Gm.nar (m : Gm) (g : Nat) (t : Int) (s a : Nat) : Int × Gm :=
  if s = a then (t, m) else match m.fget t s with
    | some q => (q, m)
    | none => (m.last + 1, m.addF g t s)

/-- There is room for a facet more. -/
structure Gm.Room (m : Gm) : Prop where
  last : 0 ≤ m.last ∧ m.last < 10000000
  num : ∀ y ∈ m.th, y.1 ≤ m.last
  th : m.th.length < 1000000
  fac : m.fac.length < 1000000

set_option maxRecDepth 100000 in
set_option maxHeartbeats 4000000 in
theorem Facet_g {m : Gm} {lo : Nat} {W : World} (h : m.Ok lo W) (hlo : lo ≤ W.heap.size) (hr : m.Room) {t : Int} (ht : -9223372036854775808 ≤ t ∧ t ≤ 9223372036854775807) {y : Nat × Tg} (hy : m.get t = some y) (hk : y.2.kind ≠ 14) {s a : Nat} (hs : s < 64) (ha : m.Abl t a) (h1 : s &&& a = s) (h2 : s ≠ a) :
    Calls Try.prog 86 #[.pointer (some ⟨m.wb, 0, none⟩), .int .i64 t, .int .u8 (s : Int)] W fun e w' => ∃ g, e = .returned (.tuple #[.int .i64 (m.nar g t s a).1, .int .i64 0]) ∧ (m.nar g t s a).2.Ok lo w' ∧ Fr m.B W w' := by
  have HN := hide (gnone_w h)
  have hI := gIs_w h t
  rw [hy] at hI
  have HI := hide hI
  have HA := hide (Able_w h ha)
  have hKd := fun w' (f : Fr No W w') => gKind_w (h.no f) t
  have hkt : m.kind t = y.2.kind := by unfold Gm.kind; rw [hy]; rfl
  rw [hkt] at hKd
  have HK := hide hKd
  have HFi := hide fun w' (f : Fr No W w') => gFind_w (h.no f) t (s : Int)
  have hk' : (y.2.kind == 14) = false := by simpa using hk
  have e1 : ((s : Int) == (a : Int)) = false := by simp; omega
  have e2 := andNot_sub hs ha.lt h1
  have HL := hide fun w' (f : Fr No W w') (hn : m.fget t s = none) => layF (h.no f) (Nat.le_trans hlo f.size) hr.last hr.num t ht s hs hn hr.th hr.fac
  have HOK := hide h
  have H2 := hide h2
  clear h hI hKd hkt hk hs ha h1 h2 hr hy
  generalize y.2.kind = kd at *
  go_enter Try.func86, Try.ntmps86
  go_wp2_with fail
  refine HN.out.mono ?_
  rintro e w' ⟨rfl, rfl⟩
  go_wp2_with fail
  refine HI.out.mono ?_
  rintro e w' ⟨rfl, rfl⟩
  go_wp2_with fail
  refine HA.out.mono ?_
  rintro e w1 ⟨rfl, f1⟩
  have HF1 := hide f1
  clear f1 HA HI HN
  go_wp2_with fail
  refine (HK.out w1 HF1.out).mono ?_
  rintro e w2 ⟨rfl, rfl⟩
  go_wp2_with fail
  refine (HFi.out w2 HF1.out).mono ?_
  rintro e w3 ⟨rfl, rfl⟩
  unfold Gm.findV
  cases hg : m.fget t (s : Int) with
  | some q =>
    go_wp2
    go_ret2
    refine ⟨0, ?_, ?_, HF1.out.no⟩
    · simp [Gm.nar, H2.out, hg]
    · have : (m.nar 0 t s a).2 = m := by simp [Gm.nar, H2.out, hg]
      rw [this]
      exact HOK.out.no HF1.out
  | none =>
    have hl := HL.out w3 HF1.out hg
    have HLL := hide hl
    clear hl HL
    go_wp2_with fail
    refine HLL.out.mono ?_
    rintro e w4 ⟨rfl, hok, f4⟩
    have HOK4 := hide hok
    have HF4 := hide (HF1.out.no.trans f4)
    clear hok f4
    go_wp2
    go_ret2
    refine ⟨w3.heap.size, ?_, ?_, HF4.out⟩
    · simp [Gm.nar, H2.out, hg]
    · have : (m.nar w3.heap.size t s a).2 = m.addF w3.heap.size t s := by simp [Gm.nar, H2.out, hg]
      rw [this]
      exact HOK4.out

end Go.Proofs.Ytnddfiohofnbaaa

/- Layer 11: there, root, ask, narrow, Narrow. -/
namespace Go.Proofs.Ytnddfiohofnbaaa
open Go.RowKit

/-- What What answers of the things of a world. -/
def WhatOk (m : Gm) (lo : Nat) : Prop := ∀ (r : Int) (x : Nat × Tg) (W : World), m.get r = some x → m.Ok lo W → Calls Try.prog 53 #[.pointer (some ⟨m.wb, 0, none⟩), .int .i64 r] W fun e w' =>
  ∃ y : Tg, y.kind = x.2.kind ∧ y.ofr = x.2.ofr ∧ y.byr = x.2.byr ∧ y.set = x.2.set ∧ y.full = x.2.full ∧ y.home = x.2.home ∧ e = .returned (.tuple #[y.val, .int .i64 0]) ∧ Fr No W w'

section
variable {m : Gm} {lo : Nat} {W : World}

theorem fthere0_g (h : m.Ok lo W) : Calls Try.prog 58 #[.pointer (some ⟨m.wb, 0, none⟩), .slice none 0 0] W fun e w' => e = .returned (.int .i64 0) ∧ w' = W := by
  have hS := gSides_w h
  have h1 : ((m.made.length : Int) == 0) = false := by have := h.sides; simp; intro hh; rw [hh] at this; simp at this
  clear h
  go_enter Try.func58, Try.ntmps58
  go_wp2_with fail
  refine hS.mono ?_
  rintro e w' ⟨rfl, rfl⟩
  go_wp2_with fail
  refine wp_loop_rounds 1 ?_
  rw [rounds_succ]
  go_wp2_with fail
  go_ret
  exact ⟨rfl, rfl⟩

/-- The error of a number. -/
def Gm.isE (m : Gm) (r : Int) : Int := if (m.get r).isSome then 0 else 5

theorem fthere1_g (h : m.Ok lo W) {g : Nat} {r : Int} (h0 : W.cell? ⟨g, 0, none⟩ = some (.int .i64 r)) (hg : g < W.heap.size) : Calls Try.prog 58 #[.pointer (some ⟨m.wb, 0, none⟩), .slice (some ⟨g, 0, none⟩) 1 1] W fun e w' => e = .returned (.int .i64 (m.isE r)) ∧ w' = W := by
  have hS := gSides_w h
  have h1 : ((m.made.length : Int) == 0) = false := by have := h.sides; simp; intro hh; rw [hh] at this; simp at this
  have hI := gIs_w h r
  unfold Gm.isE
  clear h
  cases hq : (m.get r).isSome with
  | true =>
    rw [hq] at hI
    go_enter Try.func58, Try.ntmps58
    go_wp2_with fail
    refine hS.mono ?_
    rintro e w' ⟨rfl, rfl⟩
    go_wp2_with fail
    refine wp_loop_rounds 2 ?_
    rw [rounds_succ]
    go_wp2_with fail
    refine hI.mono ?_
    rintro e w' ⟨rfl, rfl⟩
    go_wp2_with fail
    rw [rounds_succ]
    go_wp2_with fail
    go_ret
    exact ⟨rfl, rfl⟩
  | false =>
    rw [hq] at hI
    go_enter Try.func58, Try.ntmps58
    go_wp2_with fail
    refine hS.mono ?_
    rintro e w' ⟨rfl, rfl⟩
    go_wp2_with fail
    refine wp_loop_rounds 2 ?_
    rw [rounds_succ]
    go_wp2_with fail
    refine hI.mono ?_
    rintro e w' ⟨rfl, rfl⟩
    go_wp2_with fail
    go_ret
    exact ⟨rfl, rfl⟩

set_option maxRecDepth 100000 in
theorem root_g (h : m.Ok lo W) (hw : WhatOk m lo) {r : Int} {x : Nat × Tg} (hg : m.get r = some x) : Calls Try.prog 59 #[.pointer (some ⟨m.wb, 0, none⟩), .int .i64 r] W fun e w' => e = .returned (.int .i64 (m.root r)) ∧ Fr No W w' := by
  have HW := hide (hw r x W hg h)
  by_cases hk : x.2.kind = 14
  · have hr := Gm.root_fac hg hk
    rw [hr]
    clear h hw hg hr
    go_enter Try.func59, Try.ntmps59
    go_wp2_with fail
    refine HW.out.mono ?_
    rintro e w1 ⟨⟨kind, home, ⟨k, n, s, A, cap, l, r0⟩, VA, vc, vs, n1, lost, ofr, byr, set, full, CA, cc, code, NA, nc, names⟩, e1, e2, -, -, -, -, rfl, f1⟩
    simp only at e1 e2
    rw [hk] at e1
    subst e1
    have hval : (Tg.val ⟨14, home, T.mk k n s A cap l r0, VA, vc, vs, n1, lost, ofr, byr, set, full, CA, cc, code, NA, nc, names⟩) = .agg (c16 14 home k n s A l.length cap r0 VA vs.length vc n1 lost ofr byr set full CA code.length cc NA names.length nc) := rfl
    rw [hval]
    unfold c16
    clear hval
    have HF1 := hide f1
    clear f1 HW
    go_wp2
    go_ret
    exact ⟨rfl, HF1.out.alloc _⟩
  · have hr := Gm.root_of hg hk
    rw [hr]
    have hk' : (x.2.kind == 14) = false := by simpa using hk
    clear h hw hg hr hk
    go_enter Try.func59, Try.ntmps59
    go_wp2_with fail
    refine HW.out.mono ?_
    rintro e w1 ⟨⟨kind, home, ⟨k, n, s, A, cap, l, r0⟩, VA, vc, vs, n1, lost, ofr, byr, set, full, CA, cc, code, NA, nc, names⟩, e1, -, -, -, -, -, rfl, f1⟩
    simp only at e1
    rw [← e1] at hk'
    have hval : (Tg.val ⟨kind, home, T.mk k n s A cap l r0, VA, vc, vs, n1, lost, ofr, byr, set, full, CA, cc, code, NA, nc, names⟩) = .agg (c16 kind home k n s A l.length cap r0 VA vs.length vc n1 lost ofr byr set full CA code.length cc NA names.length nc) := rfl
    rw [hval]
    unfold c16
    clear hval
    have HF1 := hide f1
    clear f1 HW e1
    go_wp2
    go_ret
    exact ⟨rfl, HF1.out.alloc _⟩

/-- Some sets lie one behind the other. -/
def RowA (W : World) (A : Option Addr) (S : List Nat) : Prop := ∀ j (hj : j < S.length), ∃ g o, A = some ⟨g, o, none⟩ ∧ g < W.heap.size ∧ W.cell? ⟨g, o + j, none⟩ = some (.int .u8 (S[j] : Int))

/-- What narrowings ask ahead. -/
def Gm.askV (m : Gm) (S : List Nat) (r : Int) : Int := if S.all (fun x => decide (x < 64)) then m.isE r else 2

set_option maxRecDepth 100000 in
theorem ask_g (h : m.Ok lo W) {A : Option Addr} {cap : Nat} {S : List Nat} (hA : RowA W A S) (hS : ∀ x ∈ S, x < 256) (hn : S.length ≤ 1000000) {g : Nat} {r : Int} (h0 : W.cell? ⟨g, 0, none⟩ = some (.int .i64 r)) (hg : g < W.heap.size) :
    Calls Try.prog 56 #[.pointer (some ⟨m.wb, 0, none⟩), .slice A S.length cap, .slice (some ⟨g, 0, none⟩) 1 1] W fun e w' => e = .returned (.int .i64 (m.askV S r)) ∧ w' = W := by
  have HT0 := hide (fthere0_g h)
  have HT1 := hide (fthere1_g h h0 hg)
  have HA := hide hA
  have HS := hide hS
  clear h hA hS h0 hg
  go_enter Try.func56, Try.ntmps56
  go_wp2_with fail
  refine HT0.out.mono ?_
  rintro e w' ⟨rfl, rfl⟩
  go_wp2_with fail
  go_loopw [17] (fun i wr => ∃ j : Nat, j ≤ S.length ∧ i = .int .i64 j ∧ wr = w' ∧ (∀ k (hk : k < S.length), k < j → S[k] < 64)) (fun i _ => S.length - (intOf i).toNat)
  case atStart => exact ⟨0, Nat.zero_le _, rfl, rfl, fun k hk h => by omega⟩
  case round =>
    obtain ⟨j, hj, rfl, rfl, hall⟩ := hrel
    by_cases hlt : j < S.length
    · obtain ⟨b, o, rfl, hb1, e0⟩ := HA.out j hlt
      have hx : S[j] < 256 := HS.out _ (List.getElem_mem hlt)
      have HM := hide (May_w S[j] hx wr)
      by_cases h64 : S[j] < 64
      · have hd : decide (S[j] < 64) = true := by simpa using h64
        rw [hd] at HM
        have HALL := hide hall
        have HJ : Hid (∀ k (hk : k < S.length), k = j → S[k] < 64) := hide fun k hk e => by subst e; exact h64
        generalize S[j] = u at *
        clear hall h64 hd hx
        go_wp2_with fail
        refine HM.out.mono ?_
        rintro e w2 ⟨rfl, rfl⟩
        go_wp2
        go_roundw
        case rel =>
          refine ⟨j + 1, hlt, by go_num, trivial, fun k hk hkj => ?_⟩
          rcases Nat.lt_or_ge k j with h | h
          · exact HALL.out k hk h
          · exact HJ.out k hk (by omega)
        case measure => simp [intOf]; omega
      · have hd : decide (S[j] < 64) = false := by simpa using h64
        rw [hd] at HM
        have hv : m.askV S r = 2 := by
          unfold Gm.askV
          rw [if_neg]
          intro hh
          have := List.all_eq_true.1 hh _ (List.getElem_mem hlt)
          simp at this
          omega
        have HV := hide hv
        generalize S[j] = u at *
        clear hall h64 hd hx hv
        go_wp2_with fail
        refine HM.out.mono ?_
        rintro e w2 ⟨rfl, rfl⟩
        go_wp2
        go_ret
        exact ⟨by rw [HV.out]; rfl, rfl⟩
    · have hv : m.askV S r = m.isE r := by
        unfold Gm.askV
        rw [if_pos]
        refine List.all_eq_true.2 fun x hx => ?_
        obtain ⟨k, hk, rfl⟩ := List.mem_iff_getElem.1 hx
        have := hall k hk (by omega)
        simpa using this
      have HV := hide hv
      clear hall hv
      go_wp2_with fail
      refine HT1.out.mono ?_
      rintro e w2 ⟨rfl, rfl⟩
      go_wp2
      go_ret
      exact ⟨by rw [HV.out]; rfl, rfl⟩
end

end Go.Proofs.Ytnddfiohofnbaaa

/- Layer 11: narrow, Narrow. -/
namespace Go.Proofs.Ytnddfiohofnbaaa
open Go.RowKit

section
variable {m : Gm} {lo : Nat} {W : World}

set_option maxRecDepth 100000 in
set_option maxHeartbeats 4000000 in
/-- A thing narrowed: t its root, a what the root can, b what it can itself. -/
theorem narrow_g (h : m.Ok lo W) (hlo : lo ≤ W.heap.size) (hw : WhatOk m lo) (hr : m.Room) {r : Int} {x y : Nat × Tg} (hg : m.get r = some x) (hy : m.get (m.root r) = some y) (hyk : y.2.kind ≠ 14) (ht : -9223372036854775808 ≤ m.root r ∧ m.root r ≤ 9223372036854775807) {a b s : Nat} (ha : m.Abl (m.root r) a) (hb : m.Abl r b) (hba : b &&& a = b) (hs : s < 64) :
    Calls Try.prog 57 #[.pointer (some ⟨m.wb, 0, none⟩), .int .i64 r, .int .u8 (s : Int)] W fun e w' => ∃ g, e = .returned (.tuple #[.int .i64 (m.nar g (m.root r) (s &&& b) a).1, .int .i64 0]) ∧ (m.nar g (m.root r) (s &&& b) a).2.Ok lo w' ∧ Fr m.B W w' := by
  have HRt := hide (root_g h hw hg)
  have HA := hide fun w' (f : Fr No W w') => Able_w (h.no f) ha
  have HB := hide fun w' (f : Fr No W w') => Able_w (h.no f) hb
  have e1 : bits .and .u8 (s : Int) (b : Int) = ((s &&& b : Nat) : Int) := u8_and_nat s b (by omega) (by have := hb.lt; omega)
  have hsub : (s &&& b) &&& a = s &&& b := by rw [Nat.and_assoc, hba]
  have hlt : s &&& b < 64 := and_lt hs
  generalize s &&& b = q at *
  have HF := hide fun w' (f : Fr No W w') (hne : q ≠ a) => Facet_g (h.no f) (Nat.le_trans hlo f.size) hr ht hy hyk hlt ha hsub hne
  have HOK := hide h
  clear h hw hg ha hb hsub hlt hs hr ht hyk hba hy
  generalize m.root r = t at *
  go_enter Try.func57, Try.ntmps57
  go_wp2_with fail
  refine HRt.out.mono ?_
  rintro e w1 ⟨rfl, f1⟩
  have HF1 := hide f1
  clear f1 HRt
  go_wp2_with fail
  refine (HA.out w1 HF1.out).mono ?_
  rintro e w2 ⟨rfl, f2⟩
  have HF2 := hide (HF1.out.trans f2)
  clear f2 HA HF1
  go_wp2_with fail
  refine (HB.out w2 HF2.out).mono ?_
  rintro e w3 ⟨rfl, f3⟩
  have HF3 := hide (HF2.out.trans f3)
  clear f3 HB HF2
  by_cases hqa : q = a
  · have hd : ((q : Int) == (a : Int)) = true := by simp [hqa]
    have HQ := hide hqa
    clear hqa
    go_wp2
    go_ret2
    refine ⟨0, ?_, ?_, HF3.out.no⟩
    · simp [Gm.nar, HQ.out]
    · have : (m.nar 0 t q a).2 = m := by simp [Gm.nar, HQ.out]
      rw [this]
      exact HOK.out.no HF3.out
  · have hd : ((q : Int) == (a : Int)) = false := by simp; omega
    have HFF := hide (HF.out w3 HF3.out hqa)
    clear hqa HF
    go_wp2_with fail
    refine HFF.out.mono ?_
    rintro e w4 ⟨g, rfl, hok, f4⟩
    have HOK4 := hide hok
    have HF4 := hide (HF3.out.no.trans f4)
    clear hok f4
    go_wp2
    go_ret2
    exact ⟨g, rfl, HOK4.out, HF4.out⟩

set_option maxRecDepth 100000 in
set_option maxHeartbeats 4000000 in
theorem Narrow_g (h : m.Ok lo W) (hlo : lo ≤ W.heap.size) (hw : WhatOk m lo) (hr : m.Room) {r : Int} {x y : Nat × Tg} (hg : m.get r = some x) (hy : m.get (m.root r) = some y) (hyk : y.2.kind ≠ 14) (ht : -9223372036854775808 ≤ m.root r ∧ m.root r ≤ 9223372036854775807) {a b s : Nat} (ha : m.Abl (m.root r) a) (hb : m.Abl r b) (hba : b &&& a = b) (hs : s < 64) :
    Calls Try.prog 29 #[.pointer (some ⟨m.wb, 0, none⟩), .int .i64 r, .int .u8 (s : Int)] W fun e w' => ∃ g, e = .returned (.tuple #[.int .i64 (m.nar g (m.root r) (s &&& b) a).1, .int .i64 0]) ∧ (m.nar g (m.root r) (s &&& b) a).2.Ok lo w' ∧ Fr m.B W w' := by
  have hf := ((Fr.refl No W).alloc (.cells #[.int .u8 (s : Int)] 52)).alloc (.cells #[.int .i64 r] 28)
  have b1 := (Blk.new W 52 #[.int .u8 (s : Int)]).alloc (.cells #[.int .i64 r] 28)
  have b2 := Blk.new' (W.alloc (.cells #[.int .u8 (s : Int)] 52)) 28 #[.int .i64 r] (g := W.heap.size + 1) (by simp)
  have hrow : RowA ((W.alloc (.cells #[.int .u8 (s : Int)] 52)).alloc (.cells #[.int .i64 r] 28)) (some ⟨W.heap.size, 0, none⟩) [s] := fun j hj => by
    have : j = 0 := by simp at hj; exact hj
    subst this
    exact ⟨_, _, rfl, b1.lt, b1.cell 0⟩
  have hask := ask_g (cap := 1) (h.no hf) hrow (by simp; omega) (by simp) (b2.cell 0) b2.lt
  have hv : m.askV [s] r = 0 := by simp [Gm.askV, hs, Gm.isE, hg]
  rw [hv] at hask
  have HASK := hide hask
  have HNAR := hide fun w' (f : Fr No W w') => narrow_g (h.no f) (Nat.le_trans hlo f.size) hw hr hg hy hyk ht ha hb hba hs
  have HF0 := hide hf
  clear hf b1 b2 hrow hask hv h hw hr hg hy hyk ht ha hb hba hs
  go_enter Try.func29, Try.ntmps29
  go_wp2_with fail
  generalize World.alloc (World.alloc W _) _ = W0 at *
  refine HASK.out.mono ?_
  rintro e w1 ⟨rfl, rfl⟩
  go_wp2_with fail
  refine (HNAR.out w1 HF0.out).mono ?_
  rintro e w2 ⟨g, rfl, hok, f2⟩
  have HOK2 := hide hok
  have HF2 := hide (HF0.out.no.trans f2)
  clear hok f2
  go_wp2
  go_ret2
  exact ⟨g, rfl, HOK2.out, HF2.out⟩
end

end Go.Proofs.Ytnddfiohofnbaaa

/- Worlds of whatever things: What. -/
namespace Go.Proofs.Ytnddfiohofnbaaa
open Go.RowKit

/-- What a thing has may be had. -/
structure Tg.Mays (x : Tg) : Prop where
  v : x.v.v.may = true
  vs : ∀ t ∈ x.vs, t.v.may = true
  nm : ∀ y ∈ x.names, y.2.v.may = true

theorem Tg.Mays.sim {x y : Tg} (h : x.Mays) (e : x.pl = y.pl) : y.Mays := by
  have h1 := congrArg TgV.v e
  have h2 := congrArg TgV.vs e
  have h3 := congrArg TgV.names e
  simp only [Tg.pl] at h1 h2 h3
  refine ⟨by rw [← h1]; exact h.v, fun t ht => ?_, fun z hz => ?_⟩
  · have : t.v ∈ x.vs.map T.v := by rw [h2]; exact List.mem_map_of_mem ht
    obtain ⟨u, hu, e⟩ := List.mem_map.1 this
    rw [← e]
    exact h.vs u hu
  · have : (z.1, z.2.v) ∈ x.names.map fun z => (z.1, z.2.v) := by rw [h3]; exact List.mem_map.2 ⟨z, hz, rfl⟩
    obtain ⟨u, hu, e⟩ := List.mem_map.1 this
    have e2 := congrArg Prod.snd e
    simp only at e2
    rw [← e2]
    exact h.nm u hu

theorem Tg.Form.Mays {k : Nat} {x : Tg} (h : x.Form k) : x.Mays := ⟨h.may, h.vsmay.1, h.mays⟩

theorem fac_mays (t : Int) (s : Nat) : (Tg.fac t s).Mays := ⟨by show T.zero.v.may = true; rw [T.zero_v, zero_may], by simp [Tg.fac], by simp [Tg.fac]⟩

def WhatP (x : Tg) (W : World) (e : Ending) (w' : World) : Prop := ∃ y : Tg, y.pl = x.pl ∧ e = .returned (.tuple #[y.val, .int .i64 0]) ∧ y.St w' W.heap.size ∧ Fr No W w'

set_option maxRecDepth 100000 in
set_option maxHeartbeats 8000000 in
theorem What_any {m : Gm} {lo : Nat} {W : World} (h : m.Ok lo W) {r : Int} {x : Nat × Tg} (hg : m.get r = some x) (hm : x.2.Mays) :
    Calls Try.prog 53 #[.pointer (some ⟨m.wb, 0, none⟩), .int .i64 r] W (WhatP x.2 W) := by
  have hf0 := (Fr.refl No W).alloc (.cells #[.int .u8 0, .int .i64 0, .int .u8 0, .int .i64 0, .string ⟨#[]⟩, .slice none 0 0, .int .i64 0, .slice none 0 0, .int .i64 0, .int .i64 0, .int .i64 0, .int .i64 0, .int .u8 0, .bool false, .slice none 0 0, .slice none 0 0] 83)
  have h0 := h.no hf0
  have hN := gnone_w h0
  have hI := gIs_w h0 r
  have hl := gook_thing h0 r
  have hx := Gm.get_mem hg
  have hbx := h0.box _ hx
  have c0 := gmap_cell h0
  have q0 := h0.blk.lt
  have hi1 : (m.get r).isSome = true := by rw [hg]; rfl
  rw [hi1] at hI
  rw [hg] at hl
  have hb4 := Blk.new W 83 #[.int .u8 0, .int .i64 0, .int .u8 0, .int .i64 0, .string ⟨#[]⟩, .slice none 0 0, .int .i64 0, .slice none 0 0, .int .i64 0, .int .i64 0, .int .i64 0, .int .i64 0, .int .u8 0, .bool false, .slice none 0 0, .slice none 0 0]
  have hst := (h0.st _ hx).inn
  obtain ⟨gx, kind, home, ⟨k1, n1, s1, A1, cap1, l1, r1⟩, VA, vc, vs, n2, lost, ofr, byr, set, full, CA2, cc2, code, NA, nc, names⟩ := x
  have hO := fun W' (f : Fr No (W.alloc (.cells #[.int .u8 0, .int .i64 0, .int .u8 0, .int .i64 0, .string ⟨#[]⟩, .slice none 0 0, .int .i64 0, .slice none 0 0, .int .i64 0, .int .i64 0, .int .i64 0, .int .i64 0, .int .u8 0, .bool false, .slice none 0 0, .slice none 0 0] 83)) W') => ownWhat_any ⟨kind, home, T.mk k1 n1 s1 A1 cap1 l1 r1, VA, vc, vs, n2, lost, ofr, byr, set, full, CA2, cc2, code, NA, nc, names⟩ W' lo (W.alloc (.cells #[.int .u8 0, .int .i64 0, .int .u8 0, .int .i64 0, .string ⟨#[]⟩, .slice none 0 0, .int .i64 0, .slice none 0 0, .int .i64 0, .int .i64 0, .int .i64 0, .int .i64 0, .int .u8 0, .bool false, .slice none 0 0, .slice none 0 0] 83)).heap.size (hst.no f (Nat.le_refl _)) f.size hm.v hm.vs hm.nm
  have hval : (Tg.val ⟨kind, home, T.mk k1 n1 s1 A1 cap1 l1 r1, VA, vc, vs, n2, lost, ofr, byr, set, full, CA2, cc2, code, NA, nc, names⟩) = .agg #[.int .u8 kind, .int .i64 home, .int .u8 k1, .int .i64 n1, .string s1, .slice A1 l1.length cap1, .int .i64 r1, .slice VA vs.length vc, .int .i64 n2, .int .i64 lost, .int .i64 ofr, .int .i64 byr, .int .u8 set, .bool full, .slice CA2 code.length cc2, .slice NA names.length nc] := rfl
  rw [hval] at hO
  simp only [Option.map_some] at hl
  have hbx' : Blk (W.alloc (.cells #[.int .u8 0, .int .i64 0, .int .u8 0, .int .i64 0, .string ⟨#[]⟩, .slice none 0 0, .int .i64 0, .slice none 0 0, .int .i64 0, .int .i64 0, .int .i64 0, .int .i64 0, .int .u8 0, .bool false, .slice none 0 0, .slice none 0 0] 83)) gx 83 #[.int .u8 kind, .int .i64 home, .int .u8 k1, .int .i64 n1, .string s1, .slice A1 l1.length cap1, .int .i64 r1, .slice VA vs.length vc, .int .i64 n2, .int .i64 lost, .int .i64 ofr, .int .i64 byr, .int .u8 set, .bool full, .slice CA2 code.length cc2, .slice NA names.length nc] := hbx
  obtain ⟨d0, d1, d2, d3, d4, d5, d6, d7, d8, d9, d10, d11, d12, d13, d14, d15⟩ := hbx'.cells16
  have dq := hbx'.lt
  have HN := hide hN
  have HI := hide hI
  have HO := hide hO
  have HF0 := hide hf0
  have HB4 := hide hb4
  clear hN hI hO hf0 hb4 h0 hx hbx hbx' hi1 h hg hst hm hval
  go_enter Try.func53, Try.ntmps53
  go_wp2_with fail
  generalize hW0 : World.alloc W _ = W0 at *
  refine HN.out.mono ?_
  rintro e w' ⟨rfl, rfl⟩
  go_wp2_with fail
  refine HI.out.mono ?_
  rintro e w' ⟨rfl, rfl⟩
  go_wp2_with fail
  refine (HO.out w' (Fr.refl No w')).mono ?_
  rintro e w1 ⟨⟨ykind, yhome, ⟨yk1, yn1, ys1, yA1, ycap1, yl1, yr1⟩, yVA, yvc, yvs, yn2, ylost, yofr, ybyr, yset, yfull, yCA2, ycc2, ycode, yNA, ync, ynames⟩, rfl, hnum, hv1, hv2, hv3, hv4, hst, f1⟩
  have hyp : Tg.pl ⟨ykind, yhome, T.mk yk1 yn1 ys1 yA1 ycap1 yl1 yr1, yVA, yvc, yvs, yn2, ylost, yofr, ybyr, yset, yfull, yCA2, ycc2, ycode, yNA, ync, ynames⟩ = Tg.pl ⟨kind, home, T.mk k1 n1 s1 A1 cap1 l1 r1, VA, vc, vs, n2, lost, ofr, byr, set, full, CA2, cc2, code, NA, nc, names⟩ := by
    simp only at hnum hv1 hv2 hv3 hv4
    obtain ⟨a1, a2, a3, a4, a5, a6, a7, a8⟩ := hnum
    unfold Tg.pl
    simp only [TgV.mk.injEq]
    exact ⟨a1, a2, hv1, hv2, a3, a4, a5, a6, a7, a8, hv3, hv4⟩
  have hval : Tg.val ⟨ykind, yhome, T.mk yk1 yn1 ys1 yA1 ycap1 yl1 yr1, yVA, yvc, yvs, yn2, ylost, yofr, ybyr, yset, yfull, yCA2, ycc2, ycode, yNA, ync, ynames⟩ = .agg #[.int .u8 ykind, .int .i64 yhome, .int .u8 yk1, .int .i64 yn1, .string ys1, .slice yA1 yl1.length ycap1, .int .i64 yr1, .slice yVA yvs.length yvc, .int .i64 yn2, .int .i64 ylost, .int .i64 yofr, .int .i64 ybyr, .int .u8 yset, .bool yfull, .slice yCA2 ycode.length ycc2, .slice yNA ynames.length ync] := rfl
  rw [hval]
  have hb := HB4.out.fr f1 fun h => h
  obtain ⟨e0, e1, e2, e3, e4, e5, e6, e7, e8, e9, e10, e11, e12, e13, e14, e15⟩ := hb.cells16
  have ez := hb.frozen
  have eq_ := hb.lt
  have HYP := hide hyp
  have HST := hide hst
  have HF1 := hide f1
  clear hb hyp hst f1 hnum hv1 hv2 hv3 hv4 d0 d1 d2 d3 d4 d5 d6 d7 d8 d9 d10 d11 d12 d13 d14 d15 dq hval c0 q0 hl
  go_wp2_with fail
  refine bodyPost_ret (v := .tuple #[.agg #[.int .u8 ykind, .int .i64 yhome, .int .u8 yk1, .int .i64 yn1, .string ys1, .slice yA1 yl1.length ycap1, .int .i64 yr1, .slice yVA yvs.length yvc, .int .i64 yn2, .int .i64 ylost, .int .i64 yofr, .int .i64 ybyr, .int .u8 yset, .bool yfull, .slice yCA2 ycode.length ycc2, .slice yNA ynames.length ync], .int .i64 0]) (by simp [results, Try.results53, go_sem, *]) rfl ?_
  generalize hWe : World.setCell _ _ _ = We
  have fe : Fr (fun i => i = W.heap.size) w1 We := by
    rw [← hWe]
    repeat (first | with_reducible exact Fr.refl _ w1 | with_reducible refine Fr.set ?_ (by simp) _)
  have hs0 : W.heap.size + 1 ≤ w'.heap.size := by rw [← hW0]; simp
  have hbl : ∀ b, (Tg.Has ⟨ykind, yhome, T.mk yk1 yn1 ys1 yA1 ycap1 yl1 yr1, yVA, yvc, yvs, yn2, ylost, yofr, ybyr, yset, yfull, yCA2, ycc2, ycode, yNA, ync, ynames⟩ b) → w'.heap.size ≤ b := fun b hb => (HST.out.inn.has hb).1
  refine ⟨⟨ykind, yhome, T.mk yk1 yn1 ys1 yA1 ycap1 yl1 yr1, yVA, yvc, yvs, yn2, ylost, yofr, ybyr, yset, yfull, yCA2, ycc2, ycode, yNA, ync, ynames⟩, HYP.out, rfl, (HST.out.fr fe fun b hb h => ?_).more (by omega), (HF0.out.trans HF1.out).trans' fe fun i hi h => by omega⟩
  have h' : b = W.heap.size := h
  have := hbl b hb
  omega

theorem what_of {m : Gm} {lo : Nat} (hm : ∀ x ∈ m.th, x.2.2.Mays) : WhatOk m lo := by
  intro r x W hg h
  refine (What_any h hg (hm _ (Gm.get_mem hg))).mono ?_
  rintro e w' ⟨y, hy, rfl, -, f⟩
  have a1 := congrArg TgV.kind hy
  have a2 := congrArg TgV.ofr hy
  have a3 := congrArg TgV.byr hy
  have a4 := congrArg TgV.set hy
  have a5 := congrArg TgV.full hy
  have a6 := congrArg TgV.home hy
  exact ⟨y, a1, a2, a3, a4, a5, a6, rfl, f⟩

end Go.Proofs.Ytnddfiohofnbaaa

/- Layer 11 over any sound world: what narrowing leaves. -/
namespace Go.Proofs.Ytnddfiohofnbaaa
open Go.RowKit

/-- How a world stands in the laws on facets: sound, so many steps having been taken. -/
structure FW (m : Gm) (lo n : Nat) (W : World) : Prop where
  ok : m.Ok lo W
  lo1 : lo ≤ W.heap.size
  fs : m.Fs
  mays : ∀ x ∈ m.th, x.2.2.Mays
  bnd : m.last ≤ 600000 + (n : Int) ∧ m.th.length ≤ 600000 + n ∧ m.fac.length ≤ 600000 + n

section
variable {m m' : Gm} {lo n : Nat} {W W' : World} {r q t : Int} {a b c s : Nat}

theorem FW.no (h : FW m lo n W) (f : Fr No W W') : FW m lo n W' := ⟨h.ok.no f, Nat.le_trans h.lo1 f.size, h.fs, h.mays, h.bnd⟩

theorem FW.more (h : FW m lo n W) : FW m lo (n + 1) W := ⟨h.ok, h.lo1, h.fs, h.mays, by have := h.bnd; omega⟩

theorem FW.room (h : FW m lo n W) (hn : n ≤ 100000) : m.Room := by
  have hb := h.bnd
  have hl := h.fs.last
  exact ⟨by omega, fun y hy => (h.fs.num y hy).2, by omega, by omega⟩

theorem FW.what (h : FW m lo n W) : WhatOk m lo := what_of h.mays

theorem FW.rng (h : FW m lo n W) {x : Nat × Tg} (hg : m.get r = some x) : -9223372036854775808 ≤ r ∧ r ≤ 9223372036854775807 := by
  have h1 := h.fs.num _ (Gm.get_mem hg)
  have h2 := h.fs.last
  simp only at h1
  omega

theorem Gm.Ext.root (h : m.Ext m') {x : Nat × Tg} (hg : m.get r = some x) : m'.root r = m.root r := by
  unfold Gm.root
  rw [h.2.2 r x hg, hg]

/-- What a narrowing leaves: a thing of this root that can just this. -/
def NarR (m : Gm) (lo n : Nat) (t : Int) (c : Nat) (W : World) (e : Ending) (w' : World) : Prop :=
  ∃ (q : Int) (m' : Gm) (y : Nat × Tg), e = .returned (.tuple #[.int .i64 q, .int .i64 0]) ∧ m.Ext m' ∧ FW m' lo (n + 1) w' ∧ m'.get q = some y ∧ m'.root q = t ∧ m'.Abl q c ∧ Fr (fun i => lo ≤ i) W w' ∧ Fr m.B W w'

theorem FW.nar (h : FW m lo n W) {y : Nat × Tg} (hy : m.get t = some y) (hyk : y.2.kind ≠ 14) (ha : m.Abl t a) (hs : s < 64) (h1 : s &&& a = s) (hn : n ≤ 100000) {g : Nat} {w' : World} (hok : (m.nar g t s a).2.Ok lo w') (f : Fr m.B W w') :
    NarR m lo n t s W (.returned (.tuple #[.int .i64 (m.nar g t s a).1, .int .i64 0])) w' := by
  have hroom := h.room hn
  have hlo : ∀ i, m.B i → lo ≤ i := fun i hi => (h.ok.lt i hi).1
  have hF : Fr (fun i => lo ≤ i) W w' := f.mono fun i _ hi => hlo i hi
  have hl1 : lo ≤ w'.heap.size := Nat.le_trans h.lo1 f.size
  by_cases hsa : s = a
  · have e : m.nar g t s a = (t, m) := by simp [Gm.nar, hsa]
    rw [e] at hok ⊢
    refine ⟨t, m, y, rfl, Gm.Ext.refl m, FW.more ⟨hok, hl1, h.fs, h.mays, h.bnd⟩, hy, Gm.root_of hy hyk, ?_, hF, f⟩
    rw [hsa]
    exact ha
  · cases hq : m.fget t (s : Int) with
    | some q =>
      have e : m.nar g t s a = (q, m) := by simp [Gm.nar, hsa, hq]
      rw [e] at hok ⊢
      obtain ⟨j, hj, -⟩ := Gm.fget_some hq
      obtain ⟨x, hx, k1, k2, k3⟩ := (h.fs.fac t s q).1 (List.mem_of_getElem? hj)
      refine ⟨q, m, x, rfl, Gm.Ext.refl m, FW.more ⟨hok, hl1, h.fs, h.mays, h.bnd⟩, hx, by rw [Gm.root_fac hx k1, k2], ?_, hF, f⟩
      have := Gm.Abl.facet hx k1 k3 (by rw [k2]; exact ha)
      rwa [h1] at this
    | none =>
      have e : m.nar g t s a = (m.last + 1, m.addF g t s) := by simp [Gm.nar, hsa, hq]
      rw [e] at hok ⊢
      have hext := h.fs.ext_addF (t := t) (g := g) (s := s)
      have hnew := h.fs.get_new (t := t) (g := g) (s := s)
      have hfs := h.fs.addF (g := g) hroom.last.2 hy hyk hs ha h1 hsa
      refine ⟨m.last + 1, m.addF g t s, (g, Tg.fac t s), rfl, hext, ⟨hok, hl1, hfs, fun x hx => ?_, ?_⟩, hnew, by rw [Gm.root_fac hnew rfl]; rfl, ?_, hF, f⟩
      · rcases List.mem_append.1 hx with hx | hx
        · exact h.mays x hx
        · simp only [List.mem_singleton] at hx
          subst hx
          exact fac_mays t s
      · have := h.bnd
        refine ⟨by show m.last + 1 ≤ _; omega, ?_, ?_⟩
        · show (m.th ++ [_]).length ≤ _
          simp; omega
        · show (m.fac ++ [_]).length ≤ _
          simp; omega
      · have := Gm.Abl.facet hnew rfl rfl (ha.ext hext)
        rwa [h1] at this

/-- Narrow, of a thing and a set that may be. -/
theorem Narrow_f (h : FW m lo n W) (hn : n ≤ 100000) {x : Nat × Tg} (hg : m.get r = some x) (hb : m.Abl r b) (hs : s < 64) :
    Calls Try.prog 29 #[.pointer (some ⟨m.wb, 0, none⟩), .int .i64 r, .int .u8 (s : Int)] W (NarR m lo n (m.root r) (s &&& b) W) := by
  obtain ⟨y, hy, hyk⟩ := h.fs.root_is hg
  obtain ⟨a, ha⟩ := h.fs.abl _ y hy
  have hba := h.fs.able_root hg hb ha
  refine (Narrow_g h.ok h.lo1 h.what (h.room hn) hg hy hyk (h.rng hy) ha hb hba hs).mono ?_
  rintro e w' ⟨g, rfl, hok, f⟩
  exact h.nar hy hyk ha (and_lt hs) (by rw [Nat.and_assoc, hba]) hn hok f

set_option maxRecDepth 100000 in
set_option maxHeartbeats 4000000 in
/-- Narrow, of none, or of a set that may not be. -/
theorem Narrow_e (h : FW m lo n W) (r : Int) (s : Nat) (hs : s < 256) (hbad : 64 ≤ s ∨ m.get r = none) :
    Calls Try.prog 29 #[.pointer (some ⟨m.wb, 0, none⟩), .int .i64 r, .int .u8 (s : Int)] W fun e w' => (e = .returned (.tuple #[.int .i64 0, .int .i64 2]) ∨ e = .returned (.tuple #[.int .i64 0, .int .i64 5])) ∧ Fr No W w' := by
  have hf := ((Fr.refl No W).alloc (.cells #[.int .u8 (s : Int)] 52)).alloc (.cells #[.int .i64 r] 28)
  have b1 := (Blk.new W 52 #[.int .u8 (s : Int)]).alloc (.cells #[.int .i64 r] 28)
  have b2 := Blk.new' (W.alloc (.cells #[.int .u8 (s : Int)] 52)) 28 #[.int .i64 r] (g := W.heap.size + 1) (by simp)
  have hrow : RowA ((W.alloc (.cells #[.int .u8 (s : Int)] 52)).alloc (.cells #[.int .i64 r] 28)) (some ⟨W.heap.size, 0, none⟩) [s] := fun j hj => by
    have : j = 0 := by simp at hj; exact hj
    subst this
    exact ⟨_, _, rfl, b1.lt, b1.cell 0⟩
  have hask := ask_g (cap := 1) (h.ok.no hf) hrow (by simp; omega) (by simp) (b2.cell 0) b2.lt
  obtain ⟨c, hc, hc2⟩ : ∃ c : Int, m.askV [s] r = c ∧ (c = 2 ∨ c = 5) := by
    refine ⟨_, rfl, ?_⟩
    unfold Gm.askV
    split
    · rename_i hall
      right
      unfold Gm.isE
      have h64 : s < 64 := by simpa using hall
      have : m.get r = none := hbad.resolve_left (by omega)
      rw [this]
      simp
    · left; rfl
  rw [hc] at hask
  have HASK := hide hask
  have HF0 := hide hf
  clear hf b1 b2 hrow hask h hc hbad
  rcases hc2 with rfl | rfl
  all_goals
    go_enter Try.func29, Try.ntmps29
    go_wp2_with fail
    generalize World.alloc (World.alloc W _) _ = W0 at *
    refine HASK.out.mono ?_
    rintro e w1 ⟨rfl, rfl⟩
    go_wp2
    go_ret2
    first
      | exact ⟨.inl rfl, HF0.out⟩
      | exact ⟨.inr rfl, HF0.out⟩

theorem fthere2_g (h : m.Ok lo W) {g : Nat} {x y : Nat × Tg} (hr : m.get r = some x) (hq : m.get q = some y) (h0 : W.cell? ⟨g, 0, none⟩ = some (.int .i64 r)) (h1 : W.cell? ⟨g, 1, none⟩ = some (.int .i64 q)) (hg : g < W.heap.size) : Calls Try.prog 58 #[.pointer (some ⟨m.wb, 0, none⟩), .slice (some ⟨g, 0, none⟩) 2 2] W fun e w' => e = .returned (.int .i64 0) ∧ w' = W := by
  have hS := gSides_w h
  have hs1 : ((m.made.length : Int) == 0) = false := by have := h.sides; simp; intro hh; rw [hh] at this; simp at this
  have hI := gIs_w h r
  have hI2 := gIs_w h q
  rw [hr] at hI
  rw [hq] at hI2
  clear h hr hq
  go_enter Try.func58, Try.ntmps58
  go_wp2_with fail
  refine hS.mono ?_
  rintro e w' ⟨rfl, rfl⟩
  go_wp2_with fail
  refine wp_loop_rounds 3 ?_
  rw [rounds_succ]
  go_wp2_with fail
  refine hI.mono ?_
  rintro e w' ⟨rfl, rfl⟩
  go_wp2_with fail
  rw [rounds_succ]
  go_wp2_with fail
  refine hI2.mono ?_
  rintro e w' ⟨rfl, rfl⟩
  go_wp2_with fail
  rw [rounds_succ]
  go_wp2_with fail
  go_ret
  exact ⟨rfl, rfl⟩

set_option maxRecDepth 100000 in
set_option maxHeartbeats 4000000 in
/-- Meet, of two things of one root. -/
theorem Meet_f (h : FW m lo n W) (hn : n ≤ 100000) {x z : Nat × Tg} (hg : m.get r = some x) (hz : m.get q = some z) (hrt : m.root r = m.root q) (hb : m.Abl r b) (hc : m.Abl q c) :
    Calls Try.prog 31 #[.pointer (some ⟨m.wb, 0, none⟩), .int .i64 r, .int .i64 q] W (NarR m lo n (m.root r) (c &&& b) W) := by
  obtain ⟨y, hy, hyk⟩ := h.fs.root_is hg
  obtain ⟨a, ha⟩ := h.fs.abl _ y hy
  have hba := h.fs.able_root hg hb ha
  have hcl := hc.lt
  have hf := (Fr.refl No W).alloc (.cells #[.int .i64 r, .int .i64 q] 28)
  have b2 := Blk.new W 28 #[.int .i64 r, .int .i64 q]
  have hth := fthere2_g (h.ok.no hf) hg hz (b2.cell 0) (b2.cell 1) b2.lt
  have hR := fun w' (f : Fr No W w') => root_g (h.ok.no f) h.what hg
  have hQ := fun w' (f : Fr No W w') => root_g (h.ok.no f) h.what hz
  have hA := fun w' (f : Fr No W w') => Able_w (h.ok.no f) hc
  have hNar := fun w' (f : Fr No W w') => narrow_g (h.ok.no f) (Nat.le_trans h.lo1 f.size) h.what (h.room hn) hg hy hyk (h.rng hy) ha hb hba (s := c) hcl
  rw [← hrt] at hQ
  have HFIN : Hid (∀ (g : Nat) (w3 w' : World), Fr No W w3 → (m.nar g (m.root r) (c &&& b) a).2.Ok lo w' → Fr m.B w3 w' → NarR m lo n (m.root r) (c &&& b) W (.returned (.tuple #[.int .i64 (m.nar g (m.root r) (c &&& b) a).1, .int .i64 0])) w') := hide fun g w3 w' f3 hok f => by
    obtain ⟨q', m', y', e, h1, h2, h3, h4, h5, h6, h7⟩ := (h.no f3).nar hy hyk ha (and_lt hcl) (by rw [Nat.and_assoc, hba]) hn hok f
    exact ⟨q', m', y', e, h1, h2, h3, h4, h5, f3.no.trans h6, f3.no.trans h7⟩
  have HTH := hide hth
  have HR := hide hR
  have HQ := hide hQ
  have HA := hide hA
  have HNAR := hide hNar
  have HF0 := hide hf
  generalize c &&& b = cb at *
  clear hf b2 hth hR hQ hA hNar h hg hz hrt hb hc hy hyk ha hba hcl
  generalize m.root r = t at *
  go_enter Try.func31, Try.ntmps31
  go_wp2_with fail
  generalize World.alloc W _ = W0 at *
  refine HTH.out.mono ?_
  rintro e w1 ⟨rfl, rfl⟩
  go_wp2_with fail
  refine (HR.out w1 HF0.out).mono ?_
  rintro e w2 ⟨rfl, f2⟩
  have HF2 := hide (HF0.out.trans f2)
  clear f2
  go_wp2_with fail
  refine (HQ.out w2 HF2.out).mono ?_
  rintro e w3 ⟨rfl, f3⟩
  have HF3 := hide (HF2.out.trans f3)
  clear f3
  have e0 : (t != t) = false := by simp
  go_wp2_with fail
  refine (HA.out w3 HF3.out).mono ?_
  rintro e w4 ⟨rfl, f4⟩
  have HF4 := hide (HF3.out.trans f4)
  clear f4
  go_wp2_with fail
  refine (HNAR.out w4 HF4.out).mono ?_
  rintro e w5 ⟨g, rfl, hok, f5⟩
  have HFN := hide (HFIN.out g w4 w5 HF4.out hok f5)
  clear hok f5
  go_wp2
  go_ret2
  exact HFN.out

theorem sub_eq (a b : Nat) (ha : a < 64) (hb : b < 64) : ((bits .and .u8 (bits .andNot .u8 (a : Int) (b : Int)) 63) == 0) = decide (a &&& b = a) := by
  rw [u8_andNot_nat a b (by omega) (by omega)]
  have h1 : ∀ a b : Fin 64, a.val &&& (255 - b.val) < 256 := by decide +kernel
  have h2 : bits .and .u8 ((a &&& (255 - b) : Nat) : Int) 63 = (((a &&& (255 - b)) &&& 63 : Nat) : Int) := u8_and_nat (a &&& (255 - b)) 63 (h1 ⟨a, ha⟩ ⟨b, hb⟩) (by omega)
  rw [h2]
  have : ∀ a b : Fin 64, (((((a.val &&& (255 - b.val)) &&& 63 : Nat) : Int)) == 0) = decide (a.val &&& b.val = a.val) := by decide +kernel
  exact this ⟨a, ha⟩ ⟨b, hb⟩

theorem Has_w (hb : b < 64) (ha : a < 64) (W : World) : Calls Try.prog 60 #[.int .u8 (b : Int), .int .u8 (a : Int)] W fun e w' => e = .returned (.bool (decide (a &&& b = a))) ∧ w' = W := by
  have h1 := sub_eq a b ha hb
  have HL : ∀ W', Calls Try.prog 87 #[.int .u8 (a : Int), .int .u8 (b : Int)] W' fun e w' => e = .returned (.int .u8 (bits .and .u8 (bits .andNot .u8 (a : Int) (b : Int)) 63)) ∧ w' = W' := fun W' => by
    go_enter Try.func87, Try.ntmps87
    go_wp2
    go_ret
    exact ⟨rfl, rfl⟩
  generalize bits .and .u8 (bits .andNot .u8 (a : Int) (b : Int)) 63 = v at *
  go_enter Try.func60, Try.ntmps60
  go_wp2_with fail
  refine (HL W).mono ?_
  rintro e w' ⟨rfl, rfl⟩
  go_wp2
  go_ret
  exact ⟨rfl, rfl⟩

set_option maxRecDepth 100000 in
set_option maxHeartbeats 4000000 in
/-- Less, of two things of one root. -/
theorem Less_f (h : FW m lo n W) {x z : Nat × Tg} (hg : m.get r = some x) (hz : m.get q = some z) (hrt : m.root r = m.root q) (hb : m.Abl r b) (hc : m.Abl q c) :
    Calls Try.prog 30 #[.pointer (some ⟨m.wb, 0, none⟩), .int .i64 r, .int .i64 q] W fun e w' => e = .returned (.tuple #[.bool (decide (b &&& c = b)), .int .i64 0]) ∧ Fr No W w' := by
  have hf := (Fr.refl No W).alloc (.cells #[.int .i64 r, .int .i64 q] 28)
  have b2 := Blk.new W 28 #[.int .i64 r, .int .i64 q]
  have HTH := hide (fthere2_g (h.ok.no hf) hg hz (b2.cell 0) (b2.cell 1) b2.lt)
  have HR := hide fun w' (f : Fr No W w') => root_g (h.ok.no f) h.what hg
  have hQ := fun w' (f : Fr No W w') => root_g (h.ok.no f) h.what hz
  rw [← hrt] at hQ
  have HQ := hide hQ
  have HA := hide fun w' (f : Fr No W w') => Able_w (h.ok.no f) hc
  have HB := hide fun w' (f : Fr No W w') => Able_w (h.ok.no f) hb
  have HH := hide fun w' => Has_w hc.lt hb.lt w'
  have HF0 := hide hf
  generalize decide (b &&& c = b) = ans at *
  clear hf b2 hQ h hg hz hrt hb hc
  generalize m.root r = t at *
  go_enter Try.func30, Try.ntmps30
  go_wp2_with fail
  generalize World.alloc W _ = W0 at *
  refine HTH.out.mono ?_
  rintro e w1 ⟨rfl, rfl⟩
  go_wp2_with fail
  refine (HR.out w1 HF0.out).mono ?_
  rintro e w2 ⟨rfl, f2⟩
  have HF2 := hide (HF0.out.trans f2)
  clear f2
  go_wp2_with fail
  refine (HQ.out w2 HF2.out).mono ?_
  rintro e w3 ⟨rfl, f3⟩
  have HF3 := hide (HF2.out.trans f3)
  clear f3
  have e0 : (t != t) = false := by simp
  go_wp2_with fail
  refine (HA.out w3 HF3.out).mono ?_
  rintro e w4 ⟨rfl, f4⟩
  have HF4 := hide (HF3.out.trans f4)
  clear f4
  go_wp2_with fail
  refine (HB.out w4 HF4.out).mono ?_
  rintro e w5 ⟨rfl, f5⟩
  have HF5 := hide (HF4.out.trans f5)
  clear f5
  go_wp2_with fail
  refine (HH.out w5).mono ?_
  rintro e w' ⟨rfl, rfl⟩
  go_wp2
  go_ret2
  exact ⟨rfl, HF5.out⟩
end

end Go.Proofs.Ytnddfiohofnbaaa

/- Texts joined: Gf6, Gf7, Gf8, Gf9. -/
import Derived.Test.YtlejelbefmkakaaGreatJn1
import Derived.Test.YtlejelbefmkakaaGreatJn4
import Derived.Test.YtlejelbefmkakaaGreatJn8
import Derived.LoopN
namespace Go.Proofs.YtlejelbefmkakaaGreat
open Go.RowKit
theorem fac_in (W : World) (lo hi : Nat) (t : Int) (ht : -9223372036854775808 ≤ t ∧ t ≤ 9223372036854775807) (s : Nat) (hs : s < 64) : (Tg.fac t s).In W lo hi := by
 refine ⟨⟨by simp [Tg.fac], by simp [Tg.fac], by simp [Tg.fac], by simp [Tg.fac], ht, by simp [Tg.fac], ⟨by simp [Tg.fac], by show (s : Int) < 256; omega⟩⟩, (T.zero_ow W lo hi).inn, ?_, ⟨by simp [Tg.fac], by simp [Tg.fac], by simp [Tg.fac], ?_⟩, ⟨by simp [Tg.fac], by simp [Tg.fac], fun h => absurd rfl h, by simp [Tg.fac]⟩⟩
 · exact T.in_mk.2 ⟨fit_row, fun h => absurd rfl h, by simp [Tg.fac]⟩
 · exact G.row_in.2 ⟨fun h => absurd rfl h, by simp [Tg.fac]⟩
theorem fac_st (W : World) (lo : Nat) (t : Int) (ht : -9223372036854775808 ≤ t ∧ t ≤ 9223372036854775807) (s : Nat) (hs : s < 64) : (Tg.fac t s).St W lo := by
 refine ⟨fac_in W lo _ t ht s hs, fun b hb => ?_, fun b hb => ?_, fun b hb => ?_, fun y hy => ?_⟩
 · exfalso
   rcases hb with hb | hb
   · simp [Tg.fac, T.zero, T.blocks_mk] at hb
   · simp [Tg.fac, T.row, T.blocks_mk] at hb
 · exfalso
   rcases G.row_has hb with ⟨a, ha, -⟩ | ⟨x, hx, -⟩
   · cases ha
   · cases hx
 · exfalso
   obtain ⟨a, ha, -⟩ := hb
   cases ha
 · cases hy
set_option maxRecDepth 100000 in
set_option maxHeartbeats 8000000 in
theorem layF {m : Gm} {lo : Nat} {W : World} (h : m.Ok lo W) (hlo : lo ≤ W.heap.size) (hl0 : 0 ≤ m.last ∧ m.last < 10000000) (hnum : ∀ y ∈ m.th, y.1 ≤ m.last) (t : Int) (ht : -9223372036854775808 ≤ t ∧ t ≤ 9223372036854775807) (s : Nat) (hs : s < 64) (hn : m.fget t s = none) (hlen : m.th.length < 1000000) (hfl : m.fac.length < 1000000) :
 Calls Tryz.prog 159 #[.pointer (some ⟨m.wb, 0, none⟩), .agg #[.int .u8 14, .int .i64 0, .int .u8 0, .int .i64 0, .string ⟨#[]⟩, .slice none 0 0, .int .i64 0, .slice none 0 0, .int .i64 0, .int .i64 0, .int .i64 t, .int .i64 0, .int .u8 (s : Int), .bool false, .slice none 0 0, .slice none 0 0]] W fun e w' => e = .returned (.int .i64 (m.last + 1)) ∧ (m.addF W.heap.size t s).Ok lo w' ∧ Fr m.B W w' := by
 obtain ⟨es, cl, hm, hes, hst⟩ := h.things
 have hb0 := Blk.new W 138 #[.int .u8 14, .int .i64 0, .int .u8 0, .int .i64 0, .string ⟨#[]⟩, .slice none 0 0, .int .i64 0, .slice none 0 0, .int .i64 0, .int .i64 0, .int .i64 t, .int .i64 0, .int .u8 (s : Int), .bool false, .slice none 0 0, .slice none 0 0]
 have hf0 := (Fr.refl No W).alloc (.cells #[.int .u8 14, .int .i64 0, .int .u8 0, .int .i64 0, .string ⟨#[]⟩, .slice none 0 0, .int .i64 0, .slice none 0 0, .int .i64 0, .int .i64 0, .int .i64 t, .int .i64 0, .int .u8 (s : Int), .bool false, .slice none 0 0, .slice none 0 0] 138)
 have hwb := h.blk.fr hf0 fun h => h
 have c4 := hwb.cell 4
 have z4 := hwb.frozen 4
 have q4 := hwb.lt
 simp only [Gm.cells, lq1, lq3, lq2] at c4
 have hw1 : IntKind.i64.wrap (m.last + 1) = m.last + 1 := IntWalk.i64_in _ (by omega)
 have HOK := hide h
 have HB0 := hide hb0
 have HF0 := hide hf0
 have HWB := hide hwb
 have HM := hide hm
 have HES := hide hes
 have HNUM := hide hnum
 clear hb0 hf0 hwb hm hes hst h
 go_enter Tryz.func159, Tryz.ntmps159
 go_upto_region 2 with (fail)
 have f1 : Fr (fun i => i = m.wb) W ((W.alloc (.cells #[.int .u8 14, .int .i64 0, .int .u8 0, .int .i64 0, .string ⟨#[]⟩, .slice none 0 0, .int .i64 0, .slice none 0 0, .int .i64 0, .int .i64 0, .int .i64 t, .int .i64 0, .int .u8 (s : Int), .bool false, .slice none 0 0, .slice none 0 0] 138)).setCell ⟨m.wb, 4, none⟩ (.int .i64 (m.last + 1))) := (HF0.out.no (S := fun i => i = m.wb)).set (fun _ => rfl) _
 have hb1 := HB0.out.far (p := ⟨m.wb, 4, none⟩) (by have := HOK.out.blk.lt; simp; omega) (.int .i64 (m.last + 1))
 have hw := HWB.out.set_ 4 (.int .i64 (m.last + 1))
 generalize hW1 : World.setCell (World.alloc W _) _ _ = W1 at *
 have hm1 : W1.heap[m.M]? = some (.map es cl) := (f1.block _ (lt_of_heap HM.out) fun hh => HOK.out.wbs.1 hh.symm).trans HM.out
 have hu : (Instr.mapUpdate 34 (.map (some m.M)) (.int .i64 (m.last + 1)) (.pointer (some ⟨W.heap.size, 0, none⟩))).run Tryz.prog W1.drew = .ok () (W1.drew.putObj m.M (.map (es.push { key := .int .i64 (m.last + 1), val := .pointer (some ⟨W.heap.size, 0, none⟩), born := cl }) (cl + 1))) :=
  update_num Tryz.underlying22 Tryz.underlying34 _ _ (show W1.drew.heap[m.M]? = some (.map es cl) from hm1) (fun e he => by
   obtain ⟨i, hi, rfl⟩ := List.mem_iff_getElem.1 he
   have hi' : i < m.th.length := by rw [← HES.out.1]; exact hi
   refine ⟨_, (HES.out.2 i _ _ (List.getElem?_eq_getElem hi) (List.getElem?_eq_getElem hi')).1, ?_⟩
   have := HNUM.out _ (List.getElem_mem hi')
   omega)
 have c2 := hw.cell 2
 have c5 := hw.cell 4
 have q5 := hw.lt
 simp only [Gm.cells, lq4, lq5, lq6, lq1, lq3, lq2] at c2 c5
 have HF1 := hide f1
 have HB1 := hide hb1
 have HW1 := hide hw
 have HM1 := hide hm1
 clear c4 z4 q4 f1 hb1 hw hm1 hW1 HB0 HF0 HWB
 go_region
 all_goals
  go_simp
  go_upto_region 3 with (fail)
  generalize hW2 : World.putObj W1.drew _ _ = W2 at *
  have f2 : Fr (fun i => i = m.M) W1 W2 := by
   rw [← hW2]
   exact ((Fr.refl _ W1).drew).trans (fr_putObj _ _ _)
  have hlM := lt_of_heap HM1.out
  have hm2 : W2.heap[m.M]? = some (.map (es.push { key := .int .i64 (m.last + 1), val := .pointer (some ⟨W.heap.size, 0, none⟩), born := cl }) (cl + 1)) := by
   rw [← hW2]
   have hlM' : m.M < W1.drew.heap.size := hlM
   show (W1.drew.heap.setIfInBounds m.M _)[m.M]? = _
   rw [Array.getElem?_setIfInBounds, if_pos rfl, if_pos hlM']
  have hMg : W.heap.size ≠ m.M := by have := lt_of_heap HM.out; omega
  have hb2 := HB1.out.fr f2 hMg
  have hw2 := HW1.out.fr f2 HOK.out.wbs.1
  have f02 : Fr (fun i => i = m.wb ∨ i = m.M) W W2 := (HF1.out.mono fun i _ h => .inl h).trans' f2 fun i _ h => .inr h
  have hok := gok_lay1 (r := m.last + 1) (x := Tg.fac t s) HOK.out f02 (Nat.le_refl _) hlo (fun y hy => by have := HNUM.out y hy; omega) hb2 (fac_st W2 lo t ht s hs) hlen (by simpa [Gm.cells] using hw2) HM.out hm2
  have hfresh : m.get (m.last + 1) = none := by
   cases hq : m.get (m.last + 1) with
   | none => rfl
   | some x => have := HNUM.out _ (Gm.get_mem hq); simp at this; omega
  have hget : ({ m with last := m.last + 1, th := m.th ++ [(m.last + 1, W.heap.size, Tg.fac t s)] } : Gm).get (m.last + 1) = some (W.heap.size, Tg.fac t s) := by
   have h1 := hfresh
   unfold Gm.get at h1 ⊢
   rw [List.find?_append]
   rw [Option.map_eq_none_iff] at h1
   rw [h1]
   simp
  have hix := index_g (t := t) (s := (s : Int)) hok hget rfl rfl rfl hn hfl
  have d0 : W2.cell? ⟨W.heap.size, 0, none⟩ = some (.int .u8 14) := hb2.cell 0
  have dq := hb2.lt
  have x4 : W2.cell? ⟨m.wb, 4, none⟩ = some (.int .i64 (m.last + 1)) := by
   have := hw2.cell 4
   simpa [Gm.cells] using this
  have xq := hw2.lt
  have hFne : W.heap.size ≠ m.F := by
   obtain ⟨ef, cf, hf, -⟩ := HOK.out.facets
   have := lt_of_heap hf
   omega
  have HIX := hide hix
  have HF2 := hide f02
  have HB2 := hide hb2
  have HW2 := hide hw2
  have HFne := hide hFne
  clear hu c2 c5 q5 hW2 f2 hlM hm2 hMg hb2 hw2 f02 hok hfresh hget hix HB1 HW1 HM1 HF1 hFne
  go_wp2_with fail
  refine HIX.out.mono ?_
  rintro e w' ⟨⟨v, rfl⟩, hok3, f3⟩
  have hb3 := HB2.out.fr f3 HFne.out
  have hw3 := HW2.out.fr f3 HOK.out.wbs.2
  have hfr : Fr m.B W w' := (HF2.out.mono fun i _ h => (by
   rcases h with rfl | rfl
   · exact .inl rfl
   · exact .inr (.inl rfl) : m.B i)).trans' f3 fun i _ h => .inr (.inr (.inl h))
  have e0 : w'.cell? ⟨W.heap.size, 0, none⟩ = some (.int .u8 14) := hb3.cell 0
  have eq0 := hb3.lt
  have e4 : w'.cell? ⟨m.wb, 4, none⟩ = some (.int .i64 (m.last + 1)) := by
   have := hw3.cell 4
   simpa [Gm.cells] using this
  have eq4 := hw3.lt
  have HOK3 := hide hok3
  have HFR := hide hfr
  clear d0 dq x4 xq hb3 hw3 hok3 hfr f3 HIX HF2 HB2 HW2
  go_wp2
  go_ret
  exact ⟨rfl, HOK3.out, HFR.out⟩
end Go.Proofs.YtlejelbefmkakaaGreat

namespace Go.Proofs.YtlejelbefmkakaaGreat
open Go.RowKit
theorem andNot_sub {s a : Nat} (hs : s < 64) (ha : a < 64) (h : s &&& a = s) : bits .andNot .u8 (s : Int) (a : Int) = 0 := by
 rw [u8_andNot_nat s a (by omega) (by omega)]
 have : ∀ s a : Fin 64, s.val &&& a.val = s.val → s.val &&& (255 - a.val) = 0 := by decide +kernel
 have := this ⟨s, hs⟩ ⟨a, ha⟩ h
 simp only at this
 rw [this]
 rfl
def Gm.nar (m : Gm) (g : Nat) (t : Int) (s a : Nat) : Int × Gm :=
 if s = a then (t, m) else match m.fget t s with
  | some q => (q, m)
  | none => (m.last + 1, m.addF g t s)
structure Gm.Room (m : Gm) : Prop where
 last : 0 ≤ m.last ∧ m.last < 10000000
 num : ∀ y ∈ m.th, y.1 ≤ m.last
 th : m.th.length < 1000000
 fac : m.fac.length < 1000000
set_option maxRecDepth 100000 in
set_option maxHeartbeats 4000000 in
theorem Facet_g {m : Gm} {lo : Nat} {W : World} (h : m.Ok lo W) (hlo : lo ≤ W.heap.size) (hr : m.Room) {t : Int} (ht : -9223372036854775808 ≤ t ∧ t ≤ 9223372036854775807) {y : Nat × Tg} (hy : m.get t = some y) (hk : y.2.kind ≠ 14) {s a : Nat} (hs : s < 64) (ha : m.Abl t a) (h1 : s &&& a = s) (h2 : s ≠ a) :
 Calls Tryz.prog 194 #[.pointer (some ⟨m.wb, 0, none⟩), .int .i64 t, .int .u8 (s : Int)] W fun e w' => ∃ g, e = .returned (.tuple #[.int .i64 (m.nar g t s a).1, .int .i64 0]) ∧ (m.nar g t s a).2.Ok lo w' ∧ Fr m.B W w' := by
 have HN := hide (gnone_w h)
 have hI := gIs_w h t
 rw [hy] at hI
 have HI := hide hI
 have HA := hide (Able_w h ha)
 have hKd := fun w' (f : Fr No W w') => gKind_w (h.no f) t
 have hkt : m.kind t = y.2.kind := by unfold Gm.kind; rw [hy]; rfl
 rw [hkt] at hKd
 have HK := hide hKd
 have HFi := hide fun w' (f : Fr No W w') => gFind_w (h.no f) t (s : Int)
 have hk' : (y.2.kind == 14) = false := by simpa using hk
 have e1 : ((s : Int) == (a : Int)) = false := by simp; omega
 have e2 := andNot_sub hs ha.lt h1
 have HL := hide fun w' (f : Fr No W w') (hn : m.fget t s = none) => layF (h.no f) (Nat.le_trans hlo f.size) hr.last hr.num t ht s hs hn hr.th hr.fac
 have HOK := hide h
 have H2 := hide h2
 clear h hI hKd hkt hk hs ha h1 h2 hr hy
 generalize y.2.kind = kd at *
 go_enter Tryz.func194, Tryz.ntmps194
 go_wp2_with fail
 refine HN.out.mono ?_
 rintro e w' ⟨rfl, rfl⟩
 go_wp2_with fail
 refine HI.out.mono ?_
 rintro e w' ⟨rfl, rfl⟩
 go_wp2_with fail
 refine HA.out.mono ?_
 rintro e w1 ⟨rfl, f1⟩
 have HF1 := hide f1
 clear f1 HA HI HN
 go_wp2_with fail
 refine (HK.out w1 HF1.out).mono ?_
 rintro e w2 ⟨rfl, rfl⟩
 go_wp2_with fail
 refine (HFi.out w2 HF1.out).mono ?_
 rintro e w3 ⟨rfl, rfl⟩
 unfold Gm.findV
 cases hg : m.fget t (s : Int) with
 | some q =>
  go_wp2
  go_ret2
  refine ⟨0, ?_, ?_, HF1.out.no⟩
  · simp [Gm.nar, H2.out, hg]
  · have : (m.nar 0 t s a).2 = m := by simp [Gm.nar, H2.out, hg]
    rw [this]
    exact HOK.out.no HF1.out
 | none =>
  have hl := HL.out w3 HF1.out hg
  have HLL := hide hl
  clear hl HL
  go_wp2_with fail
  refine HLL.out.mono ?_
  rintro e w4 ⟨rfl, hok, f4⟩
  have HOK4 := hide hok
  have HF4 := hide (HF1.out.no.trans f4)
  clear hok f4
  go_wp2
  go_ret2
  refine ⟨w3.heap.size, ?_, ?_, HF4.out⟩
  · simp [Gm.nar, H2.out, hg]
  · have : (m.nar w3.heap.size t s a).2 = m.addF w3.heap.size t s := by simp [Gm.nar, H2.out, hg]
    rw [this]
    exact HOK4.out
end Go.Proofs.YtlejelbefmkakaaGreat

namespace Go.Proofs.YtlejelbefmkakaaGreat
open Go.RowKit
def WhatOk (m : Gm) (lo : Nat) : Prop := ∀ (r : Int) (x : Nat × Tg) (W : World), m.get r = some x → m.Ok lo W → Calls Tryz.prog 89 #[.pointer (some ⟨m.wb, 0, none⟩), .int .i64 r] W fun e w' =>
 ∃ y : Tg, y.kind = x.2.kind ∧ y.ofr = x.2.ofr ∧ y.byr = x.2.byr ∧ y.set = x.2.set ∧ y.full = x.2.full ∧ y.home = x.2.home ∧ e = .returned (.tuple #[y.val, .int .i64 0]) ∧ Fr No W w'
section
variable {m : Gm} {lo : Nat} {W : World}
theorem fthere0_g (h : m.Ok lo W) : Calls Tryz.prog 139 #[.pointer (some ⟨m.wb, 0, none⟩), .slice none 0 0] W fun e w' => e = .returned (.int .i64 0) ∧ w' = W := by
 have hS := gSides_w h
 have h1 : ((m.made.length : Int) == 0) = false := by have := h.sides; simp; intro hh; rw [hh] at this; simp at this
 clear h
 go_enter Tryz.func139, Tryz.ntmps139
 go_wp2_with fail
 refine hS.mono ?_
 rintro e w' ⟨rfl, rfl⟩
 go_wp2_with fail
 refine wp_loop_rounds 1 ?_
 rw [rounds_succ]
 go_wp2_with fail
 go_ret
 exact ⟨rfl, rfl⟩
def Gm.isE (m : Gm) (r : Int) : Int := if (m.get r).isSome then 0 else 5
theorem fthere1_g (h : m.Ok lo W) {g : Nat} {r : Int} (h0 : W.cell? ⟨g, 0, none⟩ = some (.int .i64 r)) (hg : g < W.heap.size) : Calls Tryz.prog 139 #[.pointer (some ⟨m.wb, 0, none⟩), .slice (some ⟨g, 0, none⟩) 1 1] W fun e w' => e = .returned (.int .i64 (m.isE r)) ∧ w' = W := by
 have hS := gSides_w h
 have h1 : ((m.made.length : Int) == 0) = false := by have := h.sides; simp; intro hh; rw [hh] at this; simp at this
 have hI := gIs_w h r
 unfold Gm.isE
 clear h
 cases hq : (m.get r).isSome with
 | true =>
  rw [hq] at hI
  go_enter Tryz.func139, Tryz.ntmps139
  go_wp2_with fail
  refine hS.mono ?_
  rintro e w' ⟨rfl, rfl⟩
  go_wp2_with fail
  refine wp_loop_rounds 2 ?_
  rw [rounds_succ]
  go_wp2_with fail
  refine hI.mono ?_
  rintro e w' ⟨rfl, rfl⟩
  go_wp2_with fail
  rw [rounds_succ]
  go_wp2_with fail
  go_ret
  exact ⟨rfl, rfl⟩
 | false =>
  rw [hq] at hI
  go_enter Tryz.func139, Tryz.ntmps139
  go_wp2_with fail
  refine hS.mono ?_
  rintro e w' ⟨rfl, rfl⟩
  go_wp2_with fail
  refine wp_loop_rounds 2 ?_
  rw [rounds_succ]
  go_wp2_with fail
  refine hI.mono ?_
  rintro e w' ⟨rfl, rfl⟩
  go_wp2_with fail
  go_ret
  exact ⟨rfl, rfl⟩
set_option maxRecDepth 100000 in
theorem root_g (h : m.Ok lo W) (hw : WhatOk m lo) {r : Int} {x : Nat × Tg} (hg : m.get r = some x) : Calls Tryz.prog 140 #[.pointer (some ⟨m.wb, 0, none⟩), .int .i64 r] W fun e w' => e = .returned (.int .i64 (m.root r)) ∧ Fr No W w' := by
 have HW := hide (hw r x W hg h)
 by_cases hk : x.2.kind = 14
 · have hr := Gm.root_fac hg hk
   rw [hr]
   clear h hw hg hr
   go_enter Tryz.func140, Tryz.ntmps140
   go_wp2_with fail
   refine HW.out.mono ?_
   rintro e w1 ⟨⟨kind, home, ⟨k, n, s, A, cap, l, r0⟩, VA, vc, vs, n1, lost, ofr, byr, set, full, CA, cc, code, NA, nc, names⟩, e1, e2, -, -, -, -, rfl, f1⟩
   simp only at e1 e2
   rw [hk] at e1
   subst e1
   have hval : (Tg.val ⟨14, home, T.mk k n s A cap l r0, VA, vc, vs, n1, lost, ofr, byr, set, full, CA, cc, code, NA, nc, names⟩) = .agg (c16 14 home k n s A l.length cap r0 VA vs.length vc n1 lost ofr byr set full CA code.length cc NA names.length nc) := rfl
   rw [hval]
   unfold c16
   clear hval
   have HF1 := hide f1
   clear f1 HW
   go_wp2
   go_ret
   exact ⟨rfl, HF1.out.alloc _⟩
 · have hr := Gm.root_of hg hk
   rw [hr]
   have hk' : (x.2.kind == 14) = false := by simpa using hk
   clear h hw hg hr hk
   go_enter Tryz.func140, Tryz.ntmps140
   go_wp2_with fail
   refine HW.out.mono ?_
   rintro e w1 ⟨⟨kind, home, ⟨k, n, s, A, cap, l, r0⟩, VA, vc, vs, n1, lost, ofr, byr, set, full, CA, cc, code, NA, nc, names⟩, e1, -, -, -, -, -, rfl, f1⟩
   simp only at e1
   rw [← e1] at hk'
   have hval : (Tg.val ⟨kind, home, T.mk k n s A cap l r0, VA, vc, vs, n1, lost, ofr, byr, set, full, CA, cc, code, NA, nc, names⟩) = .agg (c16 kind home k n s A l.length cap r0 VA vs.length vc n1 lost ofr byr set full CA code.length cc NA names.length nc) := rfl
   rw [hval]
   unfold c16
   clear hval
   have HF1 := hide f1
   clear f1 HW e1
   go_wp2
   go_ret
   exact ⟨rfl, HF1.out.alloc _⟩
def RowA (W : World) (A : Option Addr) (S : List Nat) : Prop := ∀ j (hj : j < S.length), ∃ g o, A = some ⟨g, o, none⟩ ∧ g < W.heap.size ∧ W.cell? ⟨g, o + j, none⟩ = some (.int .u8 (S[j] : Int))
def Gm.askV (m : Gm) (S : List Nat) (r : Int) : Int := if S.all (fun x => decide (x < 64)) then m.isE r else 2
set_option maxRecDepth 100000 in
theorem ask_g (h : m.Ok lo W) {A : Option Addr} {cap : Nat} {S : List Nat} (hA : RowA W A S) (hS : ∀ x ∈ S, x < 256) (hn : S.length ≤ 1000000) {g : Nat} {r : Int} (h0 : W.cell? ⟨g, 0, none⟩ = some (.int .i64 r)) (hg : g < W.heap.size) :
 Calls Tryz.prog 137 #[.pointer (some ⟨m.wb, 0, none⟩), .slice A S.length cap, .slice (some ⟨g, 0, none⟩) 1 1] W fun e w' => e = .returned (.int .i64 (m.askV S r)) ∧ w' = W := by
 have HT0 := hide (fthere0_g h)
 have HT1 := hide (fthere1_g h h0 hg)
 have HA := hide hA
 have HS := hide hS
 clear h hA hS h0 hg
 go_enter Tryz.func137, Tryz.ntmps137
 go_wp2_with fail
 refine HT0.out.mono ?_
 rintro e w' ⟨rfl, rfl⟩
 go_wp2_with fail
 go_loopw [17] (fun i wr => ∃ j : Nat, j ≤ S.length ∧ i = .int .i64 j ∧ wr = w' ∧ (∀ k (hk : k < S.length), k < j → S[k] < 64)) (fun i _ => S.length - (intOf i).toNat)
 case atStart => exact ⟨0, Nat.zero_le _, rfl, rfl, fun k hk h => by omega⟩
 case round =>
  obtain ⟨j, hj, rfl, rfl, hall⟩ := hrel
  by_cases hlt : j < S.length
  · obtain ⟨b, o, rfl, hb1, e0⟩ := HA.out j hlt
    have hx : S[j] < 256 := HS.out _ (List.getElem_mem hlt)
    have HM := hide (May_w S[j] hx wr)
    by_cases h64 : S[j] < 64
    · have hd : decide (S[j] < 64) = true := by simpa using h64
      rw [hd] at HM
      have HALL := hide hall
      have HJ : Hid (∀ k (hk : k < S.length), k = j → S[k] < 64) := hide fun k hk e => by subst e; exact h64
      generalize S[j] = u at *
      clear hall h64 hd hx
      go_wp2_with fail
      refine HM.out.mono ?_
      rintro e w2 ⟨rfl, rfl⟩
      go_wp2
      go_roundw
      case rel =>
       refine ⟨j + 1, hlt, by go_num, trivial, fun k hk hkj => ?_⟩
       rcases Nat.lt_or_ge k j with h | h
       · exact HALL.out k hk h
       · exact HJ.out k hk (by omega)
      case measure => simp [intOf]; omega
    · have hd : decide (S[j] < 64) = false := by simpa using h64
      rw [hd] at HM
      have hv : m.askV S r = 2 := by
       unfold Gm.askV
       rw [if_neg]
       intro hh
       have := List.all_eq_true.1 hh _ (List.getElem_mem hlt)
       simp at this
       omega
      have HV := hide hv
      generalize S[j] = u at *
      clear hall h64 hd hx hv
      go_wp2_with fail
      refine HM.out.mono ?_
      rintro e w2 ⟨rfl, rfl⟩
      go_wp2
      go_ret
      exact ⟨by rw [HV.out]; rfl, rfl⟩
  · have hv : m.askV S r = m.isE r := by
     unfold Gm.askV
     rw [if_pos]
     refine List.all_eq_true.2 fun x hx => ?_
     obtain ⟨k, hk, rfl⟩ := List.mem_iff_getElem.1 hx
     have := hall k hk (by omega)
     simpa using this
    have HV := hide hv
    clear hall hv
    go_wp2_with fail
    refine HT1.out.mono ?_
    rintro e w2 ⟨rfl, rfl⟩
    go_wp2
    go_ret
    exact ⟨by rw [HV.out]; rfl, rfl⟩
end
end Go.Proofs.YtlejelbefmkakaaGreat

namespace Go.Proofs.YtlejelbefmkakaaGreat
open Go.RowKit
section
variable {m : Gm} {lo : Nat} {W : World}
set_option maxRecDepth 100000 in
set_option maxHeartbeats 4000000 in
theorem narrow_g (h : m.Ok lo W) (hlo : lo ≤ W.heap.size) (hw : WhatOk m lo) (hr : m.Room) {r : Int} {x y : Nat × Tg} (hg : m.get r = some x) (hy : m.get (m.root r) = some y) (hyk : y.2.kind ≠ 14) (ht : -9223372036854775808 ≤ m.root r ∧ m.root r ≤ 9223372036854775807) {a b s : Nat} (ha : m.Abl (m.root r) a) (hb : m.Abl r b) (hba : b &&& a = b) (hs : s < 64) :
 Calls Tryz.prog 138 #[.pointer (some ⟨m.wb, 0, none⟩), .int .i64 r, .int .u8 (s : Int)] W fun e w' => ∃ g, e = .returned (.tuple #[.int .i64 (m.nar g (m.root r) (s &&& b) a).1, .int .i64 0]) ∧ (m.nar g (m.root r) (s &&& b) a).2.Ok lo w' ∧ Fr m.B W w' := by
 have HRt := hide (root_g h hw hg)
 have HA := hide fun w' (f : Fr No W w') => Able_w (h.no f) ha
 have HB := hide fun w' (f : Fr No W w') => Able_w (h.no f) hb
 have e1 : bits .and .u8 (s : Int) (b : Int) = ((s &&& b : Nat) : Int) := u8_and_nat s b (by omega) (by have := hb.lt; omega)
 have hsub : (s &&& b) &&& a = s &&& b := by rw [Nat.and_assoc, hba]
 have hlt : s &&& b < 64 := and_lt hs
 generalize s &&& b = q at *
 have HF := hide fun w' (f : Fr No W w') (hne : q ≠ a) => Facet_g (h.no f) (Nat.le_trans hlo f.size) hr ht hy hyk hlt ha hsub hne
 have HOK := hide h
 clear h hw hg ha hb hsub hlt hs hr ht hyk hba hy
 generalize m.root r = t at *
 go_enter Tryz.func138, Tryz.ntmps138
 go_wp2_with fail
 refine HRt.out.mono ?_
 rintro e w1 ⟨rfl, f1⟩
 have HF1 := hide f1
 clear f1 HRt
 go_wp2_with fail
 refine (HA.out w1 HF1.out).mono ?_
 rintro e w2 ⟨rfl, f2⟩
 have HF2 := hide (HF1.out.trans f2)
 clear f2 HA HF1
 go_wp2_with fail
 refine (HB.out w2 HF2.out).mono ?_
 rintro e w3 ⟨rfl, f3⟩
 have HF3 := hide (HF2.out.trans f3)
 clear f3 HB HF2
 by_cases hqa : q = a
 · have hd : ((q : Int) == (a : Int)) = true := by simp [hqa]
   have HQ := hide hqa
   clear hqa
   go_wp2
   go_ret2
   refine ⟨0, ?_, ?_, HF3.out.no⟩
   · simp [Gm.nar, HQ.out]
   · have : (m.nar 0 t q a).2 = m := by simp [Gm.nar, HQ.out]
     rw [this]
     exact HOK.out.no HF3.out
 · have hd : ((q : Int) == (a : Int)) = false := by simp; omega
   have HFF := hide (HF.out w3 HF3.out hqa)
   clear hqa HF
   go_wp2_with fail
   refine HFF.out.mono ?_
   rintro e w4 ⟨g, rfl, hok, f4⟩
   have HOK4 := hide hok
   have HF4 := hide (HF3.out.no.trans f4)
   clear hok f4
   go_wp2
   go_ret2
   exact ⟨g, rfl, HOK4.out, HF4.out⟩
set_option maxRecDepth 100000 in
set_option maxHeartbeats 4000000 in
theorem Narrow_g (h : m.Ok lo W) (hlo : lo ≤ W.heap.size) (hw : WhatOk m lo) (hr : m.Room) {r : Int} {x y : Nat × Tg} (hg : m.get r = some x) (hy : m.get (m.root r) = some y) (hyk : y.2.kind ≠ 14) (ht : -9223372036854775808 ≤ m.root r ∧ m.root r ≤ 9223372036854775807) {a b s : Nat} (ha : m.Abl (m.root r) a) (hb : m.Abl r b) (hba : b &&& a = b) (hs : s < 64) :
 Calls Tryz.prog 69 #[.pointer (some ⟨m.wb, 0, none⟩), .int .i64 r, .int .u8 (s : Int)] W fun e w' => ∃ g, e = .returned (.tuple #[.int .i64 (m.nar g (m.root r) (s &&& b) a).1, .int .i64 0]) ∧ (m.nar g (m.root r) (s &&& b) a).2.Ok lo w' ∧ Fr m.B W w' := by
 have hf := ((Fr.refl No W).alloc (.cells #[.int .u8 (s : Int)] 24)).alloc (.cells #[.int .i64 r] 22)
 have b1 := (Blk.new W 24 #[.int .u8 (s : Int)]).alloc (.cells #[.int .i64 r] 22)
 have b2 := Blk.new' (W.alloc (.cells #[.int .u8 (s : Int)] 24)) 22 #[.int .i64 r] (g := W.heap.size + 1) (by simp)
 have hrow : RowA ((W.alloc (.cells #[.int .u8 (s : Int)] 24)).alloc (.cells #[.int .i64 r] 22)) (some ⟨W.heap.size, 0, none⟩) [s] := fun j hj => by
  have : j = 0 := by simp at hj; exact hj
  subst this
  exact ⟨_, _, rfl, b1.lt, b1.cell 0⟩
 have hask := ask_g (cap := 1) (h.no hf) hrow (by simp; omega) (by simp) (b2.cell 0) b2.lt
 have hv : m.askV [s] r = 0 := by simp [Gm.askV, hs, Gm.isE, hg]
 rw [hv] at hask
 have HASK := hide hask
 have HNAR := hide fun w' (f : Fr No W w') => narrow_g (h.no f) (Nat.le_trans hlo f.size) hw hr hg hy hyk ht ha hb hba hs
 have HF0 := hide hf
 clear hf b1 b2 hrow hask hv h hw hr hg hy hyk ht ha hb hba hs
 go_enter Tryz.func69, Tryz.ntmps69
 go_wp2_with fail
 generalize World.alloc (World.alloc W _) _ = W0 at *
 refine HASK.out.mono ?_
 rintro e w1 ⟨rfl, rfl⟩
 go_wp2_with fail
 refine (HNAR.out w1 HF0.out).mono ?_
 rintro e w2 ⟨g, rfl, hok, f2⟩
 have HOK2 := hide hok
 have HF2 := hide (HF0.out.no.trans f2)
 clear hok f2
 go_wp2
 go_ret2
 exact ⟨g, rfl, HOK2.out, HF2.out⟩
end
end Go.Proofs.YtlejelbefmkakaaGreat

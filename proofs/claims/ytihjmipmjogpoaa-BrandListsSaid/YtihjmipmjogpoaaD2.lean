/- BrandLists: what it computes. -/
import Derived.Test.YtihjmipmjogpoaaD1
import Derived.Test.YtihjmipmjogpoaaU1
import Derived.Test.YtihjmipmjogpoaaA1
import Derived.Test.YtihjmipmjogpoaaL1
import Derived.Deep.Cut
import Derived.Deep.RegionWith
import Derived.Deep.CutRange
import Derived.Deep.DrawnRows
import Derived.Deep.AppendLies
namespace Go.Proofs.Ytihjmipmjogpoaa
open Go.RowKit
attribute [local go_sem ↓] Go.wp_at_zero Go.wp_at_succ


/-- Where the calls of Put stand. -/
structure LInv (w : World) (tb M O : Nat) (ks vs : List T) (j : Nat) (mv : Value) (wr : World) : Prop where
  fr : Fr No w wr
  ex : ∃ l met, Tab wr w.heap.size wr.heap.size tb M O l l.length ∧ wr.ownsRow w.heap.size 27 5 mv met.length (rowCells met) ∧ (∀ g, mv.ownBlock = some g → ¬ tabBlocks tb M O l g) ∧ Says ks vs j l met ∧ l.length ≤ j

/-- What stands behind a call of Put. -/
def PutCut (a b : V) (lo tb M O : Nat) (l : List Ent) (wr : World) (s9 s10 : Value) (wx : World) : Prop :=
  ∃ (old : V) (had : Bool) (l' : List Ent) (c' : Nat), s9 = .bool had ∧ s10 = .int .i64 (putErr a b) ∧ Tab wx lo wx.heap.size tb M O l' c' ∧ Fr (fun i => i = tb ∨ i = M ∨ i = O) wr wx ∧
    (∀ i, tabBlocks tb M O l' i → i < wr.heap.size → tabBlocks tb M O l i) ∧ PutSays a b l l.length l' c' old had

theorem says_len {a b : V} {l : List Ent} {came : Nat} {l' : List Ent} {c' : Nat} {old : V} {had : Bool} (h : PutSays a b l came l' c' old had) (hc : came = l.length) : c' = l'.length ∧ l'.length ≤ l.length + 1 := by
  cases h with
  | err => exact ⟨hc, by omega⟩
  | new x => exact ⟨by simp [hc], by simp⟩
  | old i x v' => exact ⟨by simp [hc], by simp⟩

theorem box_kept {wr w2 : World} {S : Nat → Prop} {cs : Array Value} (fr : Fr S (wr.alloc (.cells cs 27)).drew w2) (hn : ¬ S wr.heap.size) : Blk w2 wr.heap.size 27 cs :=
  Blk.fr (a := (wr.alloc (.cells cs 27)).drew) ((Blk.new' wr 27 cs rfl).drew) fr hn

theorem box_set (w : World) (g : Nat) (x0 x1 x2 x3 x4 : Value) : Fr (fun i => i = g) w (((((w.setCell ⟨g, 0, none⟩ x0).setCell ⟨g, 1, none⟩ x1).setCell ⟨g, 2, none⟩ x2).setCell ⟨g, 3, none⟩ x3).setCell ⟨g, 4, none⟩ x4) :=
  (((((Fr.refl (fun i => i = g) w).set (fun _ => rfl) _).set (fun _ => rfl) _).set (fun _ => rfl) _).set (fun _ => rfl) _).set (fun _ => rfl) _

theorem putcut_after {a b : V} {lo tb M O : Nat} {l l' : List Ent} {c' : Nat} {wr w2 : World} {old : V} {had : Bool} (hT2 : Tab w2 lo w2.heap.size tb M O l' c') (fr2 : Fr (fun i => i = tb ∨ i = M ∨ i = O) wr.drew w2)
    (hbl : ∀ i, tabBlocks tb M O l' i → i < wr.drew.heap.size → tabBlocks tb M O l i) (hps : PutSays a b l l.length l' c' old had) (o : Obj) : PutCut a b lo tb M O l wr (.bool had) (.int .i64 (putErr a b)) (w2.alloc o) :=
  ⟨old, had, l', c', rfl, rfl, (hT2.no ((Fr.refl No w2).alloc o) (Nat.le_refl _)).more (Nat.le_refl _) (by simp), (((Fr.refl _ wr).drew).trans fr2).alloc o, hbl, hps⟩

theorem putcut_before {a b : V} {lo tb M O : Nat} {l l' : List Ent} {c' : Nat} {wr w2 wx : World} {o : Obj} {old : V} {had : Bool} (hlt : ∀ i, tabBlocks tb M O l i → i < wr.heap.size) (hT2 : Tab w2 lo w2.heap.size tb M O l' c') (fr2 : Fr (fun i => i = tb ∨ i = M ∨ i = O) ((wr.alloc o).drew) w2)
    (hbl : ∀ i, tabBlocks tb M O l' i → i < ((wr.alloc o).drew).heap.size → tabBlocks tb M O l i) (hps : PutSays a b l l.length l' c' old had) (hx : Fr (fun i => i = wr.heap.size) w2 wx) : PutCut a b lo tb M O l wr (.bool had) (.int .i64 (putErr a b)) wx := by
  have hsz : ((wr.alloc o).drew).heap.size = wr.heap.size + 1 := by simp
  have hs2 := fr2.size
  refine ⟨old, had, l', c', rfl, rfl, (hT2.frB hx (Nat.le_refl _) ?_).more (Nat.le_refl _) hx.size, ?_, fun i hi hl => hbl i hi (by omega), hps⟩
  · intro i hi h
    have h' : i = wr.heap.size := h
    have := hlt i (hbl i hi (by omega))
    omega
  · exact ((((Fr.refl _ wr).alloc o).drew).trans fr2).trans' hx fun i hi h => by have h' : i = wr.heap.size := h; omega

theorem LInv.no {w : World} {tb M O : Nat} {ks vs : List T} {j : Nat} {mv : Value} {a b : World} (h : LInv w tb M O ks vs j mv a) (f : Fr No a b) : LInv w tb M O ks vs j mv b := by
  obtain ⟨fr, l, met, hT, ho, hn, hs, hl⟩ := h
  exact ⟨fr.trans f, l, met, (hT.no f (Nat.le_refl _)).more (Nat.le_refl _) f.size, owns_fr ho f (fun _ _ h => h), hn, hs, hl⟩

/-- A key more that was met. -/
theorem LInv.push {w : World} {tb M O : Nat} {ks vs met : List T} {j c' g cap : Nat} {v : Value} {l' : List Ent} {wr w1 : World} {o : Obj} {a : T} (hT : Tab wr w.heap.size wr.heap.size tb M O l' c') (frw : Fr No w wr)
    (hown : wr.ownsRow w.heap.size 27 5 v met.length (rowCells met)) (hnot : ∀ g, v.ownBlock = some g → ¬ tabBlocks tb M O l' g) (hgrow : (wr.alloc o).grownBy w1 v.ownBlock)
    (hown1 : w1.ownsRow w.heap.size 27 5 (.slice (some ⟨g, 0, none⟩) (met.length + 1) cap) (met.length + 1) (rowCells met ++ a.cells)) (hat : v.ownBlock = some g ∨ g = wr.heap.size + 1) (says : Says ks vs (j + 1) l' (met ++ [a])) (hc : c' = l'.length) (hle : l'.length ≤ j + 1) :
    LInv w tb M O ks vs (j + 1) (.slice (some ⟨g, 0, none⟩) (met.length + 1) cap) w1 := by
  subst hc
  have hol := owns_lt hown
  have f1 : Fr (fun i => v.ownBlock = some i) wr w1 := ((Fr.refl _ wr).alloc o).grown hgrow (fun k hk _ => hk)
  have hsz := f1.size
  refine ⟨frw.trans' f1 (fun i hi h => by have := hol i h; omega), l', met ++ [a], (hT.frB f1 (Nat.le_refl _) (fun i hi h => hnot i h hi)).more (Nat.le_refl _) hsz, ?_, ?_, says, hle⟩
  · rw [rowCells_snoc, List.length_append]; exact hown1
  · intro g' hg' hi
    simp [Value.ownBlock] at hg'
    subst hg'
    rcases hat with h | h
    · exact hnot _ h hi
    · have := (hT.lt _ hi).2
      omega

/-- Was the key among the first m? -/
def WasP (met : List T) (a : V) (m : Nat) (q : Bool) : Prop := q = true ↔ ∃ (k : Nat) (x : T), k < m ∧ met[k]? = some x ∧ x.v = a

theorem WasP.zero (met : List T) (a : V) : WasP met a 0 false := by simp [WasP]

theorem WasP.yes {met : List T} {a : V} {m : Nat} (h : WasP met a m true) : WasP met a (m + 1) true := by
  obtain ⟨k, x, h0, h1, h2⟩ := h.1 rfl
  exact ⟨fun _ => ⟨k, x, by omega, h1, h2⟩, fun _ => rfl⟩

theorem WasP.next {met : List T} {a : V} {m : Nat} (h : WasP met a m false) {x : T} (hx : met[m]? = some x) {q : Bool} (hq : q = true ↔ x.v = a) : WasP met a (m + 1) q := by
  unfold WasP at *
  rw [hq]
  constructor
  · exact fun h1 => ⟨m, x, by omega, hx, h1⟩
  · rintro ⟨k, y, h0, h1, h2⟩
    rcases Nat.lt_or_ge k m with hk | hk
    · exact absurd (h.2 ⟨k, y, hk, h1, h2⟩) (by simp)
    · obtain rfl : k = m := by omega
      rw [hx] at h1
      injection h1 with h1
      subst h1
      exact h2

theorem WasP.done {met : List T} {a : V} {q had : Bool} (h : WasP met a met.length q) (hw : had = true ↔ ∃ (k : Nat) (x : T), met[k]? = some x ∧ x.v = a) : q = had := by
  have : q = true ↔ had = true := by
    unfold WasP at h
    rw [h, hw]
    constructor
    · rintro ⟨k, x, -, h1, h2⟩; exact ⟨k, x, h1, h2⟩
    · rintro ⟨k, x, h1, h2⟩; exact ⟨k, x, (List.getElem?_eq_some_iff.1 h1).1, h1, h2⟩
  cases q <;> cases had <;> simp_all

set_option maxRecDepth 100000 in
set_option maxHeartbeats 4000000 in
theorem lists_any (Ak : Option Addr) (ck : Nat) (ks : List T) (Av : Option Addr) (cv : Nat) (vs : List T) (w : World) (hk : (T.row Ak ck ks).In w 0 w.heap.size) (hv : (T.row Av cv vs).In w 0 w.heap.size) :
    Calls Try.prog 5 #[.slice Ak ks.length ck, .slice Av vs.length cv] w fun e w' => e = .returned (.bool true) ∧ Fr No w w' := by
  unfold T.row at hk hv
  have hlk := (T.in_mk.1 hk).1.len1
  have hlv := (T.in_mk.1 hv).1.len1
  by_cases h100 : 100 < ks.length
  · have h1 : (100 : Int) < (ks.length : Int) := by omega
    have hL := lives_any
    clear hk hv
    go_enter Try.func5, Try.ntmps5
    go_wp2_with fail
    refine (New_any w).mono ?_
    rintro e w1 ⟨tb, rfl, hT, fr1⟩
    clear hT
    go_wp2_with fail
    refine (hL w1).mono ?_
    rintro e w2 ⟨rfl, fr2⟩
    go_wp2
    go_ret
    exact ⟨rfl, fr1.trans fr2⟩
  by_cases hvs : vs.length < ks.length
  · have h1 : ¬ (100 : Int) < (ks.length : Int) := by omega
    have h2 : (vs.length : Int) < (ks.length : Int) := by omega
    have hL := lives_any
    clear hk hv
    go_enter Try.func5, Try.ntmps5
    go_wp2_with fail
    refine (New_any w).mono ?_
    rintro e w1 ⟨tb, rfl, hT, fr1⟩
    clear hT
    go_wp2_with fail
    refine (hL w1).mono ?_
    rintro e w2 ⟨rfl, fr2⟩
    go_wp2
    go_ret
    exact ⟨rfl, fr1.trans fr2⟩
  have h1 : decide ((100 : Int) < (ks.length : Int)) = false := by simp; omega
  have h2 : decide (vs.length < ks.length) = false := by simp; omega
  have h3 : ks.length ≤ 100 := by omega
  have h4 : ks.length ≤ vs.length := by omega
  have HK := hide hk
  have HV := hide hv
  clear h100 hvs hk hv
  go_enter Try.func5, Try.ntmps5
  go_wp2_with fail
  refine (New_any w).mono ?_
  rintro e w1 ⟨tb, rfl, hT, fr1⟩
  have hst : LInv w tb w.heap.size (w.heap.size + 1) ks vs 0 (.slice none 0 0) w1 := ⟨fr1, [], [], hT, World.ownsRow_nil _ _ _ _, by simp [Value.ownBlock], Says.zero _ _, Nat.le_refl _⟩
  have hM0 : w.heap.size ≤ w.heap.size := Nat.le_refl _
  obtain ⟨M, O, hst⟩ : ∃ M O, LInv w tb M O ks vs 0 (.slice none 0 0) w1 := ⟨_, _, hst⟩
  have HS := hide hst
  clear hT fr1 hst hM0
  go_wp2_with fail
  go_loopw [6, 7] (fun mv i wr => ∃ j : Nat, j ≤ ks.length ∧ i = .int .i64 j ∧ LInv w tb M O ks vs j mv wr) (fun _ i _ => ks.length - (intOf i).toNat)
  case atStart => exact ⟨0, Nat.zero_le _, rfl, HS.out⟩
  case round =>
    obtain ⟨j, hj, rfl, inv⟩ := hrel
    obtain ⟨wo, rfl⟩ : ∃ wo : World, wo = wr := ⟨_, rfl⟩
    by_cases hlt : j < ks.length
    · obtain ⟨fr, l, met, hT, hown, hnot, says, hle⟩ := inv
      have hlt' : j < vs.length := by omega
      obtain ⟨b, o, k1, n1, s1, A1, cap1, l1, r1, rfl, hb0, hb1, hx, hin, e0, e1, e2, e3, e4⟩ := T.elem (HK.out.no fr (Nat.le_refl _)) hlt
      obtain ⟨b', o', k2, n2, s2, A2, cap2, l2, r2, rfl, hb0', hb1', hx', hin', f0, f1, f2, f3, f4⟩ := T.elem (HV.out.no fr (Nat.le_refl _)) hlt'
      have hP : ∀ w', Fr No wo w' → Calls Try.prog 26 #[.pointer (some ⟨tb, 0, none⟩), ks[j].val, vs[j].val] w' (PutRes ks[j].v vs[j].v w.heap.size tb M O l l.length w') := by
        intro w' f
        have t0 := hT.tb0
        have t1 := hT.m0
        have t2 := hT.o0
        rw [← hx] at hin
        rw [← hx'] at hin'
        exact Put_any _ _ w' 0 w.heap.size (hin.no f fr.size) (hin'.no f fr.size) (Nat.le_trans fr.size f.size) w.heap.size tb M O l l.length ((hT.no f (Nat.le_refl _)).more (Nat.le_refl _) f.size)
          (fun i hi => by
            have : i < w.heap.size := by
              rcases hi with hi | hi
              · exact (T.In.blocks _ hin i hi).2
              · exact (T.In.blocks _ hin' i hi).2
            omega) (by omega)
      rw [hx, hx', T.val_mk, T.val_mk] at hP
      obtain ⟨Am, cm, rfl⟩ := owns_form hown
      have hsz := fr.size
      have g0 : b < wo.heap.size := by omega
      have g1 : b' < wo.heap.size := by omega
      have t0 : tb < wo.heap.size := hT.tb0.2
      have t1 : M < wo.heap.size := hT.m0.2
      have t2 : O < wo.heap.size := hT.o0.2
      have HP := hide hP
      have HX := hide hx
      have HX' := hide hx'
      have HFR := hide fr
      have HT := hide hT
      have HOW := hide hown
      have HNOT := hide hnot
      have HSAYS := hide says
      have HIN := hide hin
      have HIN' := hide hin'
      clear hP hx hx' fr hT hown hnot says hin hin'
      go_upto_region 8 with (fail)
      go_cut [8, 9, 10] from 41 to 92 (fun _ s9 s10 wx => PutCut (T.mk k1 n1 s1 A1 cap1 l1 r1).v (T.mk k2 n2 s2 A2 cap2 l2 r2).v w.heap.size tb M O l wo s9 s10 wx)
      case first =>
        go_region_with (go_at_call 26; (refine (HP.out _ ?_).mono ?_); (repeat (first | with_reducible exact Fr.refl No wo | with_reducible refine Fr.drew ?_ | with_reducible refine Fr.alloc ?_ _)); rintro e w2 ⟨⟨k5, n5, s5, A5, cap5, l5, r5⟩, had, l', c', rfl, hold, hT2, fr2, hbl, hps⟩; rw [T.val_mk]; have HT2 := hide hT2; have HF2 := hide fr2; have HBL := hide hbl; clear hT2 hbl hold; (try (have hbx := box_kept fr2 (by omega); obtain ⟨x0, x1, x2, x3, x4, xf⟩ := hbx.cells5; have q9 := hbx.lt)); clear fr2)
        all_goals
          go_simp
          go_wp2_with fail
          go_meet
          have hlt0 := fun i hi => (HT.out.lt i hi).2
          first
            | with_reducible exact putcut_after HT2.out HF2.out HBL.out hps _
            | with_reducible exact putcut_before hlt0 HT2.out HF2.out HBL.out hps (box_set _ _ _ _ _ _ _)
      case rest =>
        obtain ⟨old, had, l', c', rfl, rfl, hT2, fr2, hbl, hps⟩ := hcut
        have hsx := fr2.size
        have hgk : ks[j]? = some ks[j] := List.getElem?_eq_getElem hlt
        have hgv : vs[j]? = some vs[j] := List.getElem?_eq_getElem hlt'
        rw [HX.out] at hgk
        rw [HX'.out] at hgv
        have tb0 := HT.out.tb0
        have tb1 := HT.out.m0
        have tb2 := HT.out.o0
        have frN : Fr No w wc := HFR.out.trans' fr2 (fun i hi h => by rcases h with h | h | h <;> omega)
        have hmay : ∀ e ∈ l, e.k.v.may = true ∧ e.k.v.keys = true := fun e he => ⟨(HT.out.may e he).1, (HT.out.may e he).2.1⟩
        have hown2 := owns_fr HOW.out fr2 (fun g hg h => HNOT.out g hg (by rcases h with h | h | h <;> simp [tabBlocks, h]))
        have hnot2 : ∀ g, (Value.slice Am met.length cm).ownBlock = some g → ¬ tabBlocks tb M O l' g := fun g hg h => HNOT.out g hg (hbl g h (by have := owns_lt HOW.out g hg; omega))
        have hmlen := HSAYS.out.len
        have hml : met.length ≤ 100 := by omega
        have HML := hide hmlen
        clear hmlen
        have hel : ∀ x ∈ met, x.In wc 0 w.heap.size := fun x hx => by
          obtain ⟨i, hi, rfl⟩ := List.mem_iff_getElem.1 (HSAYS.out.mem x hx)
          exact ((T.in_mk.1 HK.out).2.2 _ (List.getElem_mem hi)).no frN (Nat.le_refl _)
        generalize hua : (T.mk k1 n1 s1 A1 cap1 l1 r1).v = ua at *
        generalize hvb : (T.mk k2 n2 s2 A2 cap2 l2 r2).v = vb at *
        by_cases he : putErr ua vb = 0
        · have hmk := putErr_zero he
          have hwas : had = true ↔ ∃ (k : Nat) (x : T), met[k]? = some x ∧ x.v = ua := by
            have h := HSAYS.out.was (a := T.mk k1 n1 s1 A1 cap1 l1 r1) (fun e he => (hmay e he).1) (by rw [hua]; exact hmk.1) (by rw [hua]; exact hmk.2.2)
            rw [hua] at h
            rw [← h]
            cases hps with
            | err h => exact absurd he h
            | new x h hp => rw [hp]; simp
            | old i x v' h hp => rw [hp]; simp
          have HS2 : Hid (LInv w tb M O ks vs (j + 1) (.slice Am met.length cm) wc ∨ had = false) := by
            cases hps with
            | err h => exact absurd he h
            | new x => exact .inr rfl
            | old i x v' h hp hx hv =>
              refine .inl ⟨frN, l.set i ⟨x.k, v', x.c⟩, met, by simpa using hT2, hown2, hnot2, HSAYS.out.old hgk hgv (by rw [hua, hvb]; exact he) hmay HT.out.dist (by rw [hua]; exact hp) hx (by rw [hvb]; exact hv), by simp; omega⟩
          have HS3 : Hid (had = false → ∃ x : Ent, x.k.v = ua ∧ x.v.v = vb ∧ l' = l ++ [x] ∧ c' = l.length + 1 ∧ pos ua (l.map fun e => e.k.v) = none) := by
            intro hf
            cases hps with
            | err h => exact absurd he h
            | new x h hp hk hv => exact ⟨x, hk, hv, rfl, rfl, hp⟩
            | old i x v' => cases hf
          have hmr := owns_row hown2 hel (by omega) (Nat.zero_le _) frN.size
          unfold T.row at hmr
          have HW := hide hwas
          have HT2 := hide hT2
          have HF2 := hide fr2
          have HFN := hide frN
          have HO2 := hide hown2
          have HN2 := hide hnot2
          have HEL := hide hel
          have HMR := hide hmr
          have HMY := hide hmay
          have HUA := hide hua
          have HVB := hide hvb
          have HGK := hide hgk
          have HGV := hide hgv
          have HBL := hide hbl
          have HE := hide he
          have HMK := hide hmk
          rw [he]
          have g3 : b < wc.heap.size := by omega
          clear hwas hT2 fr2 frN hown2 hnot2 hel hmr hmay hua hvb hgk hgv hbl he hmk hps e0 e1 e2 e3 e4 f0 f1 f2 f3 f4
          have hAw := alike_any
          go_wp2_with fail
          go_loopw [11, 12] (fun s11 s12 wk => ∃ (q : Bool) (m : Nat), m ≤ met.length ∧ s12 = .int .i64 m ∧ s11 = .bool q ∧ Fr No wc wk ∧ WasP met ua m q) (fun _ s12 _ => met.length - (intOf s12).toNat)
          case atStart => exact ⟨false, 0, Nat.zero_le _, rfl, rfl, Fr.refl _ _, WasP.zero _ _⟩
          case round =>
            obtain ⟨q, m, hm, rfl, rfl, frk, hq⟩ := hrel
            have frwk := HFN.out.trans frk
            have hsk := frk.size
            by_cases hlm : m < met.length
            · obtain ⟨d0, d1, d2, d3, d4⟩ := T.cells_at (HK.out.no frwk (Nat.le_refl _)) hlt HX.out
              obtain ⟨bm, om, k6, n6, s6, A6, cap6, l6, r6, rfl, hm0, hm1, hxm, him, f0, f1, f2, f3, f4⟩ := T.elem (HMR.out.no frk (Nat.le_refl _)) hlm
              have IH := hAw (T.mk k6 n6 s6 A6 cap6 l6 r6) (T.mk k1 n1 s1 A1 cap1 l1 r1)
              rw [T.val_mk, T.val_mk, HUA.out] at IH
              have hi1 : ∀ w2, Fr No wr w2 → (T.mk k1 n1 s1 A1 cap1 l1 r1).In w2 0 w.heap.size := fun w2 f => by
                have h := (T.in_mk.1 HK.out).2.2 _ (List.getElem_mem hlt)
                rw [HX.out] at h
                exact h.no (frwk.trans f) (Nat.le_refl _)
              have HI := hide hi1
              have g4 : bm < wr.heap.size := by omega
              have g5 : b < wr.heap.size := by omega
              have g6 := frwk.size
              have hgm : met[m]? = some (T.mk k6 n6 s6 A6 cap6 l6 r6) := by rw [← hxm]; exact List.getElem?_eq_getElem hlm
              have HGM := hide hgm
              have HFK := hide frk
              have HQ := hide hq
              have g7 := Nat.le_of_lt hlm
              clear hi1 hxm hgm frk frwk hq hAw
              cases q with
              | true =>
                go_wp2_with fail
                go_quiet (fail)
                go_wp2
                go_roundw
                case rel => exact ⟨true, m + 1, hlm, by go_num, rfl, HFK.out.drewN _, HQ.out.yes⟩
                case measure => simp [intOf]; omega
              | false =>
                go_wp2_with fail
                go_region_held3 (fun w' => (∀ c i, c < wr.heap.size → w'.cell? ⟨c, i, none⟩ = wr.cell? ⟨c, i, none⟩) ∧ Fr No wr w')
                  (first | exact ⟨fun _ _ _ => rfl, Fr.drew (Fr.refl No wr)⟩ | (have hq : Fr No wr _ := (‹_ ∧ Fr No wr _›).2.trans ‹Fr No _ _›; exact ⟨hq.cells, hq⟩))
                  (first
                    | (go_at_call 27; have hs0 := (‹_ ∧ Fr No wr _›).2; ((with_reducible refine (IH _ 0 wc.heap.size 0 w.heap.size ?_ ?_ ?_ ?_).mono ?_); (exact him.no hs0 hsk); (exact Nat.le_trans hsk hs0.size); (exact HI.out _ hs0); (exact Nat.le_trans g6 hs0.size); rintro e w2 ⟨q, rfl, hq, fr1⟩)))
                have hfr := (‹_ ∧ Fr No wr _›).2
                go_wp2
                go_roundw
                case rel =>
                  first
                    | exact ⟨q, m + 1, hlm, by go_num, rfl, HFK.out.trans hfr, HQ.out.next HGM.out hq⟩
                    | ((repeat apply Exists.intro); exact ⟨⟨q, m + 1, hlm, by go_num, rfl, HFK.out.trans hfr, HQ.out.next HGM.out hq⟩, rfl⟩)
                case measure => simp [intOf]; omega
            · obtain rfl : m = met.length := by omega
              obtain rfl := hq.done HW.out
              have hsz5 := frwk.size
              have g5 : b < wr.heap.size := by omega
              cases q with
              | true =>
                have HR := hide ((HS2.out.resolve_right (by simp)).no frk)
                clear hq hAw frk frwk
                go_wp2
                go_roundw
                case rel => exact ⟨j + 1, hlt, by go_num, HR.out⟩
                case measure => simp [intOf]; omega
              | false =>
                obtain ⟨d0, d1, d2, d3, d4⟩ := T.cells_at (HK.out.no frwk (Nat.le_refl _)) hlt HX.out
                obtain ⟨i0, hi0, hz0, hz1, hz2⟩ := info_parts value_row
                have hownR := owns_fr HO2.out frk (fun g _ h => h)
                have hownA := hownR.alloc (.cells #[.int .u8 k1, .int .i64 n1, .string s1, .slice A1 l1.length cap1, .int .i64 r1] 27)
                have hTR := hide ((HT2.out.no frk (Nat.le_refl _)).more (Nat.le_refl _) frk.size)
                have HFK := hide frk
                have HFWK := hide frwk
                have HOR := hide hownR
                clear frk frwk hownR hq hAw
                go_wp2_with (at_builtin; refine wpList_append_lies _ (by rfl) _ _ _ (by rfl) w.heap.size 27 i0 _ 5 64 Try.underlying24 hi0 hz0 hz1 hz2 (by rfl) (by omega) _ met.length (rowCells met) (by rfl) hownA ⟨wr.heap.size, 0, none⟩ 1 1 [.int .u8 k1, .int .i64 n1, .string s1, .slice A1 l1.length cap1, .int .i64 r1] (by rfl) (by rfl) (World.news_of_block (heap_alloc_new wr _)) (by simp [Value.oneCell']) (by omega) (by unfold maxLen; omega) (by omega) (by simp; omega) (wr.heap.size + 1) (by simp) ?_; intro g cap w1 hown1 hgrow hat hlt1)
                go_roundw
                case rel =>
                  obtain ⟨x, hx1, hx2, rfl, rfl, hx5⟩ := HS3.out rfl
                  refine ⟨j + 1, hlt, by go_num, LInv.push (a := T.mk k1 n1 s1 A1 cap1 l1 r1) hTR.out HFWK.out HOR.out HN2.out hgrow hown1 hat ?_ (by simp) (by simp; omega)⟩
                  exact HSAYS.out.new HGK.out HGV.out (by rw [HUA.out, HVB.out]; exact HE.out) HMY.out (by rw [HUA.out]; exact hx5) (by rw [hx1, HUA.out]) (by rw [hx2, HVB.out])
                case measure => simp [intOf]; omega
        · have hR : LInv w tb M O ks vs (j + 1) (.slice Am met.length cm) wc := by
            cases hps with
            | err h => exact ⟨frN, l, met, hT2, hown2, hnot2, HSAYS.out.err hgk hgv (by rw [hua, hvb]; exact he) hmay, by omega⟩
            | new x h => exact absurd h he
            | old i x v' h => exact absurd h he
          have HR := hide hR
          have hpe := (putErr_or ua vb).resolve_left he
          clear hR hT2 fr2 frN hown2 hnot2 hel hmay hua hvb hgk hgv hbl he hps e0 e1 e2 e3 e4 f0 f1 f2 f3 f4
          rcases hpe with hpe | hpe
          all_goals
            rw [hpe]
            clear hpe
            go_wp2
            go_roundw
            case rel => exact ⟨j + 1, hlt, by go_num, HR.out⟩
            case measure => simp [intOf]; omega
    · obtain rfl : j = ks.length := by omega
      obtain ⟨fr, l, met, hT, hown, hnot, says, hle⟩ := inv
      obtain ⟨Am, cm, rfl⟩ := owns_form hown
      have hmlen := says.len
      have hml : met.length ≤ 100 := by omega
      have hel : ∀ x ∈ met, x.In wo 0 w.heap.size := fun x hx => by
        obtain ⟨i, hi, rfl⟩ := List.mem_iff_getElem.1 (says.mem x hx)
        exact ((T.in_mk.1 HK.out).2.2 _ (List.getElem_mem hi)).no fr (Nat.le_refl _)
      have hmr := owns_row hown hel (by omega) (Nat.zero_le _) fr.size
      unfold T.row at hmr
      have hLen := Len_any wo _ _ tb M O l l.length hT
      rw [← hmlen] at hLen
      have hsz := fr.size
      have HFR := hide fr
      have HT := hide hT
      have HSAYS := hide says
      have HML := hide hmlen
      have HMR := hide hmr
      have HLEN := hide hLen
      have HV' := hide (HV.out.no fr (Nat.le_refl _))
      have HK' := hide (HK.out.no fr (Nat.le_refl _))
      clear fr hT hown hnot says hmlen hmr hel hLen hle
      go_wp2_with fail
      refine HLEN.out.mono ?_
      rintro e wo ⟨rfl, rfl⟩
      clear HLEN
      go_wp2_with fail
      go_loopw [13] (fun s13 wk => ∃ m : Nat, m ≤ met.length ∧ s13 = .int .i64 m ∧ Fr No wo wk) (fun s13 _ => met.length - (intOf s13).toNat)
      case atStart => exact ⟨0, Nat.zero_le _, rfl, Fr.refl _ _⟩
      case round =>
        obtain ⟨m, hm, rfl, frm⟩ := hrel
        obtain ⟨wp, rfl⟩ : ∃ wp : World, wp = wr := ⟨_, rfl⟩
        by_cases hlm : m < met.length
        · obtain ⟨bm, om, k6, n6, s6, A6, cap6, l6, r6, rfl, hm0, hm1, hxm, him, -, -, -, -, -⟩ := T.elem (HMR.out.no frm (Nat.le_refl _)) hlm
          have hgm : met[m]? = some (T.mk k6 n6 s6 A6 cap6 l6 r6) := by rw [← hxm]; exact List.getElem?_eq_getElem hlm
          have hmay : ∀ e ∈ l, e.k.v.may = true ∧ e.k.v.keys = true := fun e he => ⟨(HT.out.may e he).1, (HT.out.may e he).2.1⟩
          obtain ⟨en, hen, hea, hma, hmk, hpos⟩ := HSAYS.out.got hmay HT.out.dist hgm
          have hTm := (HT.out.no frm (Nat.le_refl _)).more (Nat.le_refl _) frm.size
          have hsm := frm.size
          have HEN := hide hen
          have HEA := hide hea
          have HMA := hide hma
          have HMK := hide hmk
          have HPOS := hide hpos
          have HTM := hide hTm
          have HXM := hide hxm
          have HIM := hide him
          have HFM := hide frm
          have g0 : bm < wp.heap.size := by omega
          have g1 := Nat.le_of_lt hlm
          have hAw := alike_any
          have hOf := Of_any
          have HM2 := hide (HMR.out.no frm (Nat.le_refl _))
          have HK2 := hide (HK'.out.no frm hsz)
          have HV2 := hide (HV'.out.no frm hsz)
          clear hgm hmay hen hea hma hmk hpos hTm hxm him frm
          go_wp2_with fail
          go_loopw [14, 15] (fun s14 s15 wk => ∃ (z : Int) (k : Nat), k ≤ ks.length ∧ s15 = .int .i64 k ∧ s14 = .int .i64 z ∧ Fr No wp wk ∧ LastP ks vs (T.mk k6 n6 s6 A6 cap6 l6 r6).v k z) (fun _ s15 _ => ks.length - (intOf s15).toNat)
          case atStart => exact ⟨-1, 0, Nat.zero_le _, rfl, rfl, Fr.refl _ _, LastP.zero _ _ _⟩
          case round =>
            obtain ⟨z, k, hk, rfl, rfl, frk, hlast⟩ := hrel
            have hsk := frk.size
            have g2 : bm < wr.heap.size := by omega
            by_cases hlk : k < ks.length
            · have hlk' : k < vs.length := by omega
              obtain ⟨b, o, k1, n1, s1, A1, cap1, l1, r1, rfl, hb0, hb1, hx, hin, e0, e1, e2, e3, e4⟩ := T.elem (HK2.out.no frk (by omega)) hlk
              obtain ⟨b', o', k2, n2, s2, A2, cap2, l2, r2, rfl, hb0', hb1', hx', hin', f0, f1, f2, f3, f4⟩ := T.elem (HV2.out.no frk (by omega)) hlk'
              obtain ⟨d0, d1, d2, d3, d4⟩ := T.cells_at (HM2.out.no frk (by omega)) hlm HXM.out
              have hgk : ks[k]? = some (T.mk k1 n1 s1 A1 cap1 l1 r1) := by rw [← hx]; exact List.getElem?_eq_getElem hlk
              have hgv : vs[k]? = some (T.mk k2 n2 s2 A2 cap2 l2 r2) := by rw [← hx']; exact List.getElem?_eq_getElem hlk'
              have g3 : b < wr.heap.size := by omega
              have g4 : b' < wr.heap.size := by omega
              have hO := hOf (T.mk k2 n2 s2 A2 cap2 l2 r2)
              have hA := hAw (T.mk k1 n1 s1 A1 cap1 l1 r1) (T.mk k6 n6 s6 A6 cap6 l6 r6)
              rw [T.val_mk] at hO hA
              rw [T.val_mk] at hA
              have HGK := hide hgk
              have HGV := hide hgv
              have HFK := hide frk
              have HL := hide hlast
              have hz := hlast.bd
              have hi6 : ∀ w2, Fr No wr w2 → (T.mk k6 n6 s6 A6 cap6 l6 r6).In w2 0 wo.heap.size := fun w2 f => HIM.out.no (frk.trans f) hsm
              have HI6 := hide hi6
              generalize hva : (T.mk k6 n6 s6 A6 cap6 l6 r6).v = va at *
              generalize hvk : (T.mk k1 n1 s1 A1 cap1 l1 r1).v = vk at *
              generalize hvv : (T.mk k2 n2 s2 A2 cap2 l2 r2).v = vv at *
              have HVK := hide hvk
              have HVV := hide hvv
              clear hgk hgv frk hlast hi6 hx hx' hOf hAw hva hvk hvv
              go_wp2_with fail
              refine (hO wr 0 w.heap.size hin' (by omega)).mono ?_
              rintro e w2 hP
              obtain ⟨mk, en', rfl, hen', frO⟩ : ∃ (mk : Value) (en' : Int), e = .returned (.tuple #[mk, .int .i64 en']) ∧ (en' = 0 ∧ vv.may = true ∨ en' = 2 ∧ vv.may = false) ∧ Fr No wr w2 := by
                cases hmv : vv.may with
                | true => obtain ⟨mm, h1, _, h2⟩ := hP.1 hmv; exact ⟨mm, 0, h1, .inl ⟨rfl, rfl⟩, h2⟩
                | false => obtain ⟨h1, h2⟩ := hP.2 hmv; exact ⟨_, 2, h1, .inr ⟨rfl, rfl⟩, h2⟩
              have hcO := frO.cells
              have hsO := frO.size
              have HIK := hide (hin.no frO (by omega))
              have HI7 := hide (HI6.out w2 frO)
              have HFO := hide frO
              rw [← hcO _ _ g3] at e0 e1 e2 e3 e4
              rw [← hcO _ _ g2] at d0 d1 d2 d3 d4
              have g5 : b < w2.heap.size := by omega
              have g6 : bm < w2.heap.size := by omega
              clear hP hO f0 f1 f2 f3 f4 hcO frO hin hin'
              obtain ⟨q, hq⟩ : ∃ q : Bool, q = true ↔ vk = va := ⟨@decide (vk = va) (Classical.propDecidable _), by simp⟩
              have hA' : ∀ w2 lo hi lo' hi', (T.mk k1 n1 s1 A1 cap1 l1 r1).In w2 lo hi → hi ≤ w2.heap.size → (T.mk k6 n6 s6 A6 cap6 l6 r6).In w2 lo' hi' → hi' ≤ w2.heap.size →
                  Calls Try.prog 27 #[.agg #[.int .u8 k1, .int .i64 n1, .string s1, .slice A1 l1.length cap1, .int .i64 r1], .agg #[.int .u8 k6, .int .i64 n6, .string s6, .slice A6 l6.length cap6, .int .i64 r6]] w2 fun e w' => e = .returned (.bool q) ∧ Fr No w2 w' :=
                fun w2 lo hi lo' hi' a1 a2 a3 a4 => (hA w2 lo hi lo' hi' a1 a2 a3 a4).mono fun e w' ⟨q', h1, h2, h3⟩ => ⟨by rw [h1]; congr 2; cases q <;> cases q' <;> simp_all, h3⟩
              have HQ := hide hq
              clear hq hA
              have HLN : Hid (LastP ks vs va (k + 1) (if en' = 0 ∧ q = true then (k : Int) else z)) := by
                have h1 := HVK.out
                have h2 := HVV.out
                have h3 := HQ.out
                rcases hen' with ⟨rfl, hmv⟩ | ⟨rfl, hmv⟩
                · cases q with
                  | true => exact LastP.take HGK.out HGV.out (by rw [h1]; exact h3.1 rfl) (by rw [h2]; exact hmv)
                  | false => exact LastP.pass HL.out HGK.out HGV.out fun h => absurd (h3.2 (h1.symm.trans h)) (by simp)
                · have h4 : LastP ks vs va (k + 1) z := LastP.pass HL.out HGK.out HGV.out fun _ => by rw [h2]; exact hmv
                  have h5 : LastP ks vs va (k + 1) (if (2 : Int) = 0 ∧ q = true then (k : Int) else z) := by rw [if_neg (by simp)]; exact h4
                  exact h5
              have HF02 := hide ((Fr.refl No w2).drew)
              have hs02 : w.heap.size ≤ w2.heap.size := by omega
              have hs03 : wo.heap.size ≤ w2.heap.size := by omega
              cases q <;> rcases hen' with ⟨rfl, hmv⟩ | ⟨rfl, hmv⟩
              all_goals
                clear hmv
                have HLN' := HLN.out
                simp at HLN'
                have HLX := hide HLN'
                clear HLN'
                go_wp2_with fail
                first
                  | (go_region_held3 (fun w' => (∀ c i, c < w2.heap.size → w'.cell? ⟨c, i, none⟩ = w2.cell? ⟨c, i, none⟩) ∧ Fr No w2 w')
                      (first | exact ⟨fun _ _ _ => rfl, Fr.drew (Fr.refl No w2)⟩ | (have hq : Fr No w2 _ := (‹_ ∧ Fr No w2 _›).2.trans ‹Fr No _ _›; exact ⟨hq.cells, hq⟩))
                      (first
                        | (go_at_call 27; have hs0 := (‹_ ∧ Fr No w2 _›).2; ((with_reducible refine (hA' _ 0 w.heap.size 0 wo.heap.size ?_ ?_ ?_ ?_).mono ?_); (exact HIK.out.no hs0 hs02); (exact Nat.le_trans hs02 hs0.size); (exact HI7.out.no hs0 hs03); (exact Nat.le_trans hs03 hs0.size); rintro e w3 ⟨rfl, fr1⟩)))
                     have hfr := (‹_ ∧ Fr No w2 _›).2
                     have HFR2 := hide hfr
                     clear hfr)
                  | (go_region_with (go_at_call 27; ((with_reducible refine (hA' _ 0 w.heap.size 0 wo.heap.size ?_ ?_ ?_ ?_).mono ?_); (exact HIK.out.no HF02.out hs02); (exact hs02); (exact HI7.out.no HF02.out hs03); (exact hs03); rintro e w3 ⟨rfl, fr1⟩))
                     all_goals
                       have HFR2 := hide (HF02.out.trans fr1)
                       clear fr1)
                  | fail
                all_goals
                  go_wp2
                  go_roundw
                  case rel =>
                    first
                      | exact ⟨_, k + 1, hlk, by go_num, rfl, (HFK.out.trans HFO.out).trans HFR2.out, HLX.out⟩
                      | ((repeat apply Exists.intro); exact ⟨⟨_, k + 1, hlk, by go_num, rfl, (HFK.out.trans HFO.out).trans HFR2.out, HLX.out⟩, rfl⟩)
                  case measure => simp [intOf]; omega
            · obtain rfl : k = ks.length := by omega
              obtain ⟨d0, d1, d2, d3, d4⟩ := T.cells_at (HM2.out.no frk hsm) hlm HXM.out
              obtain ⟨k0, y, rfl, hk0, hvy, hyv⟩ := hlast.got HSAYS.out (List.mem_of_getElem? HEN.out) HEA.out
              have hk1 : k0 < vs.length := by omega
              obtain ⟨b', o', k2, n2, s2, A2, cap2, l2, r2, rfl, hb0', hb1', hx', hin', f0, f1, f2, f3, f4⟩ := T.elem (HV2.out.no frk (by omega)) hk1
              have hy2 : (T.mk k2 n2 s2 A2 cap2 l2 r2).v = en.v.v := by
                rw [← hyv, ← hx']
                rw [List.getElem?_eq_getElem hk1] at hvy
                injection hvy with hvy
                rw [hvy]
              have hTr := (HTM.out.no frk (Nat.le_refl _)).more (Nat.le_refl _) frk.size
              have hG := Get_ok (T.mk k6 n6 s6 A6 cap6 l6 r6) wr 0 wo.heap.size (HIM.out.no frk hsm) (by omega) w.heap.size tb M O l l.length hTr HMA.out HMK.out
              rw [T.val_mk, HPOS.out] at hG
              simp only [HEN.out, Option.map_some, Option.getD_some, Option.isSome_some] at hG
              have hFL := lives_any
              have HG := hide hG
              have HY2 := hide hy2
              have HFK := hide frk
              have HIN2 := hide hin'
              have g3 : b' < wr.heap.size := by omega
              have gz : ¬ ((k0 : Int) < 0) := by omega
              have g7 : w.heap.size ≤ wr.heap.size := by omega
              clear hTr hG hy2 frk hlast hin' hvy hyv hx' hOf hFL
              go_wp2_with fail
              refine HG.out.mono ?_
              rintro e w2 ⟨⟨k3, n3, s3, A3, cap3, l3, r3⟩, rfl, hv', ow', fr2⟩
              rw [T.val_mk]
              have hA := hAw (T.mk k3 n3 s3 A3 cap3 l3 r3) (T.mk k2 n2 s2 A2 cap2 l2 r2)
              rw [T.val_mk, T.val_mk] at hA
              have hA' : ∀ w2 lo hi lo' hi', (T.mk k3 n3 s3 A3 cap3 l3 r3).In w2 lo hi → hi ≤ w2.heap.size → (T.mk k2 n2 s2 A2 cap2 l2 r2).In w2 lo' hi' → hi' ≤ w2.heap.size →
                  Calls Try.prog 27 #[.agg #[.int .u8 k3, .int .i64 n3, .string s3, .slice A3 l3.length cap3, .int .i64 r3], .agg #[.int .u8 k2, .int .i64 n2, .string s2, .slice A2 l2.length cap2, .int .i64 r2]] w2 fun e w' => e = .returned (.bool true) ∧ Fr No w2 w' :=
                fun w2 lo hi lo' hi' a1 a2 a3 a4 => (hA w2 lo hi lo' hi' a1 a2 a3 a4).mono fun e w' ⟨q', h1, h2, h3⟩ => ⟨by rw [h1, h2.2 (hv'.trans HY2.out.symm)], h3⟩
              have frB := (Fr.refl No w2).alloc (.cells #[.int .u8 k3, .int .i64 n3, .string s3, .slice A3 l3.length cap3, .int .i64 r3] 27)
              have hcB := (fr2.trans frB).cells
              have hbx := Blk.new w2 27 #[.int .u8 k3, .int .i64 n3, .string s3, .slice A3 l3.length cap3, .int .i64 r3]
              have hszB : (w2.alloc (.cells #[.int .u8 k3, .int .i64 n3, .string s3, .slice A3 l3.length cap3, .int .i64 r3] 27)).heap.size = w2.heap.size + 1 := by simp
              have hin3 := (HIN2.out.no (fr2.trans frB) g7)
              have how3 := ow'.inn.no frB (Nat.le_refl _)
              have HFB := hide (fr2.trans frB)
              have hs2 := fr2.size
              rw [← hcB _ _ g3] at f0 f1 f2 f3 f4
              have HF2 := hide fr2
              have HV3 := hide hv'
              have HOW3 := hide ow'
              clear fr2 frB hcB hv' ow' hA hAw d0 d1 d2 d3 d4
              go_wp2_with fail
              generalize World.alloc w2 _ = w3 at *
              obtain ⟨c0, c1, c2, c3, c4, cf⟩ := hbx.cells5
              have g5 : b' < w3.heap.size := by omega
              have g6 : w2.heap.size < w3.heap.size := by omega
              have g8 : w.heap.size ≤ w3.heap.size := by omega
              have g9 : w2.heap.size ≤ w3.heap.size := by omega
              clear hbx hszB
              go_region_held3 (fun w' => (∀ c i, c < w3.heap.size → w'.cell? ⟨c, i, none⟩ = w3.cell? ⟨c, i, none⟩) ∧ Fr No w3 w')
                (first | exact ⟨fun _ _ _ => rfl, Fr.drew (Fr.refl No w3)⟩ | (have hq : Fr No w3 _ := (‹_ ∧ Fr No w3 _›).2.trans ‹Fr No _ _›; exact ⟨hq.cells, hq⟩))
                (first
                  | (go_at_call 27; have hs0 := (‹_ ∧ Fr No w3 _›).2; ((with_reducible refine (hA' _ wr.heap.size w2.heap.size 0 w.heap.size ?_ ?_ ?_ ?_).mono ?_); (exact how3.no hs0 g9); (exact Nat.le_trans g9 hs0.size); (exact hin3.no hs0 g8); (exact Nat.le_trans g8 hs0.size); rintro e w4 ⟨rfl, fr1⟩)))
              have hfr := (‹_ ∧ Fr No w3 _›).2
              have HFR2 := hide hfr
              clear hfr
              go_wp2
              go_roundw
              case rel =>
                first
                  | exact ⟨m + 1, hlm, by go_num, ((HFM.out.trans HFK.out).trans HFB.out).trans HFR2.out⟩
                  | ((repeat apply Exists.intro); exact ⟨⟨m + 1, hlm, by go_num, ((HFM.out.trans HFK.out).trans HFB.out).trans HFR2.out⟩, rfl⟩)
              case measure => simp [intOf]; omega
        · obtain rfl : m = met.length := by omega
          have hL := lives_any wp
          have HFM := hide frm
          clear frm
          go_wp2_with fail
          refine hL.mono ?_
          rintro e w2 ⟨rfl, fr2⟩
          go_wp2
          go_ret
          exact ⟨rfl, (HFR.out.trans HFM.out).trans fr2⟩

end Go.Proofs.Ytihjmipmjogpoaa

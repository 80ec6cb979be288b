/- Texts joined: P3, B8, P5, P6, P7, Z6, P8. -/
import Derived.Test.YtihjmipmjogpoaaJn11
import Derived.Deep.RegionHeld3
import Derived.Deep.QuietTactic
import Derived.BigQuiet
import Derived.IntWalk
import Derived.Laws.AppendOwnNone
/- Chapter 2: the law's own kept: is it as it was, the marks too? -/
namespace Go.Proofs.Ytihjmipmjogpoaa
open Go.RowKit

set_option maxRecDepth 100000 in
set_option maxHeartbeats 8000000 in
theorem kept_any (t : T) : ∀ (t' : T) (w : World) (lo hi lo' hi' : Nat), t.In w lo hi → hi ≤ w.heap.size → t.Mk w → t'.In w lo' hi' → hi' ≤ w.heap.size → t.v = t'.v →
    Calls Try.prog 45 #[t.val, t'.val] w fun e w' => e = .returned (.bool true) ∧ Fr No w w' := by
  induction t using T.ind with
  | h k n s A cap l r ih =>
    intro t' w lo hi lo' hi' ht hh hm ht' hh' he
    cases t' with
    | mk k' n' s' A' cap' l' r' =>
      rw [T.v_mk, T.v_mk] at he
      injection he with e1 e2 e3 e4 e5
      subst e1 e2 e3 e5
      have hl : l.length = l'.length := by simpa using congrArg List.length e4
      rw [T.val_mk, T.val_mk]
      have fr2 := ((Fr.refl No w).alloc (.cells #[.int .u8 k, .int .i64 n, .string s, .slice A l.length cap, .int .i64 r] 27)).alloc (.cells #[.int .u8 k, .int .i64 n, .string s, .slice A' l'.length cap', .int .i64 r] 27)
      have hlen := (T.in_mk.1 ht').1.len1
      rw [hl]
      rw [hl] at fr2
      have hK0 := (Blk.new' w 27 #[.int .u8 k, .int .i64 n, .string s, .slice A l'.length cap, .int .i64 r] rfl).alloc (.cells #[.int .u8 k, .int .i64 n, .string s, .slice A' l'.length cap', .int .i64 r] 27)
      have hV0 := Blk.new' (w.alloc (.cells #[.int .u8 k, .int .i64 n, .string s, .slice A l'.length cap, .int .i64 r] 27)) 27 #[.int .u8 k, .int .i64 n, .string s, .slice A' l'.length cap', .int .i64 r] (g := w.heap.size + 1) (by simp)
      have HL := hide hl
      have HE := hide e4
      clear hl e4
      by_cases h0 : l'.length = 0
      · obtain rfl : l' = [] := List.eq_nil_of_length_eq_zero h0
        clear ih ht ht' hm h0
        go_enter Try.func45, Try.ntmps45
        go_wp2
        go_ret
        exact ⟨rfl, fr2⟩
      have hl0 : ((l'.length : Int) == 0) = false := by simp; intro h; exact h0 (by rw [h]; rfl)
      have hl1 : (0 : Int) < (l'.length : Int) := by omega
      go_enter Try.func45, Try.ntmps45
      go_wp2_with fail
      go_loopw [5] (fun i wr => ∃ j : Nat, j ≤ l'.length ∧ i = .int .i64 j ∧ Fr No ((w.alloc (.cells #[.int .u8 k, .int .i64 n, .string s, .slice A l'.length cap, .int .i64 r] 27)).alloc (.cells #[.int .u8 k, .int .i64 n, .string s, .slice A' l'.length cap', .int .i64 r] 27)) wr) (fun i _ => l'.length - (intOf i).toNat)
      case atStart => exact ⟨0, Nat.zero_le _, rfl, Fr.refl _ _⟩
      case round =>
        obtain ⟨j, hj, rfl, fr⟩ := hrel
        have hK := hK0.fr fr (fun h => h)
        have hV := hV0.fr fr (fun h => h)
        have frw := fr2.trans fr
        have hszr := fr.size
        simp at hszr
        obtain ⟨c0, c1, c2, c3, c4, cf⟩ := hK.cells5
        obtain ⟨d0, d1, d2, d3, d4, df⟩ := hV.cells5
        have g2 : w.heap.size < wr.heap.size := by omega
        have g3 : w.heap.size + 1 < wr.heap.size := by omega
        have hh0 : hi ≤ wr.heap.size := by omega
        have hh1 : hi' ≤ wr.heap.size := by omega
        have htr := ht.no frw hh
        have hmr := T.Mk.no frw hh ht hm
        by_cases hlt' : j < l'.length
        · have hlt : j < l.length := by have := HL.out; omega
          obtain ⟨b, o, k1, n1, s1, A1, cap1, l1, r1, rfl, hb0, hb1, hx, hin, e0, e1, e2, e3, e4⟩ := T.elem htr hlt
          obtain ⟨b', o', k2, n2, s2, A2, cap2, l2, r2, rfl, hb0', hb1', hx', hin', f0, f1, f2, f3, f4⟩ := T.elem (ht'.no frw hh') hlt'
          have hm1 : (T.mk k1 n1 s1 A1 cap1 l1 r1).Mk wr := by rw [← hx]; exact (T.mk_mk.1 hmr).2 _ (List.getElem_mem hlt)
          have hve : (T.mk k1 n1 s1 A1 cap1 l1 r1).v = (T.mk k2 n2 s2 A2 cap2 l2 r2).v := by
            have := congrArg (fun q => q[j]?) HE.out
            simp [hlt, hlt'] at this
            rw [hx, hx'] at this
            exact this
          have IH := fun w1 (f : Fr No wr w1) => ih l[j] (List.getElem_mem hlt) (T.mk k2 n2 s2 A2 cap2 l2 r2) w1 lo hi lo' hi' (by rw [hx]; exact hin.no f hh0) (Nat.le_trans hh0 f.size) (by rw [hx]; exact T.Mk.no f hh0 hin hm1) (hin'.no f hh1) (Nat.le_trans hh1 f.size) (by rw [hx]; exact hve)
          rw [hx, T.val_mk, T.val_mk] at IH
          have HIH := hide IH
          have g0 : b < wr.heap.size := by omega
          have g1 : b' < wr.heap.size := by omega
          have HF := hide fr
          have HW := hide frw
          clear hx hx' ih hK hV fr frw ht ht' fr2 hm htr hmr hm1 hve IH hin hin' hK0 hV0
          go_wp2_with fail
          go_region_held3 (fun w' => (∀ c i, c < wr.heap.size → w'.cell? ⟨c, i, none⟩ = wr.cell? ⟨c, i, none⟩) ∧ Fr No wr w')
            (first | exact ⟨fun _ _ _ => rfl, Fr.drew (Fr.refl No wr)⟩ | (have hq : Fr No wr _ := (‹_ ∧ Fr No wr _›).2.trans ‹Fr No _ _›; exact ⟨hq.cells, hq⟩))
            (first
              | (go_at_call 45; have hs0 := (‹_ ∧ Fr No wr _›).2; ((with_reducible refine (HIH.out _ ?_).mono ?_); (exact hs0); rintro e w2 ⟨rfl, fr1⟩)))
          have HF2 := hide (‹_ ∧ Fr No wr _›).2
          go_wp2
          go_roundw
          case rel => exact ⟨j + 1, hlt', by go_num, HF.out.trans HF2.out⟩
          case measure => simp [intOf]; omega
        · obtain rfl : l'.length = j := by omega
          have hne : l ≠ [] := by rintro rfl; have := HL.out; simp at this; omega
          obtain ⟨b, o, rfl, hc, hcell⟩ := (T.mk_mk.1 hmr).1 hne
          obtain ⟨b', o', hA, hb0, hb1, -⟩ := (T.in_mk.1 htr).2.1 hne
          simp only [Option.some.injEq, Addr.mk.injEq, and_true] at hA
          obtain ⟨rfl, rfl⟩ := hA
          rw [HL.out] at hcell hc
          have hc2 : (l'.length : Int) + 1 ≤ (cap : Int) := by omega
          have g0 : b < wr.heap.size := by omega
          have HW := hide frw
          clear ih hmr htr ht ht' hm fr fr2 frw hK hV hc hne hK0 hV0
          have hw1 : IntKind.i64.wrap ((l'.length : Int) + 1) = (l'.length : Int) + 1 := IntWalk.i64_in _ (by omega)
          have hw2 : (0 : Int) ≤ (l'.length : Int) + 1 := by omega
          have hw3 : ((l'.length : Int) + 1).toNat = l'.length + 1 := by omega
          have hw4 : (l'.length : Int) < (l'.length : Int) + 1 := by omega
          go_wp2_with fail
          go_quiet (fail)
          go_wp2
          go_ret
          exact ⟨rfl, HW.out.drewN _⟩

end Go.Proofs.Ytihjmipmjogpoaa

/- Chapter 2: the document's answer: Order, Same. -/
namespace Go.Proofs.Ytihjmipmjogpoaa
open Go.RowKit

set_option maxRecDepth 100000 in
set_option maxHeartbeats 4000000 in
/-- The document's Order. -/
theorem refOrder_any (a b : T) (w : World) (lo hi : Nat) (ha : a.In w lo hi) (hb : b.In w lo hi) (hh : hi ≤ w.heap.size) :
    Calls Try.prog 75 #[a.val, b.val] w fun e w' => e = .returned (.tuple #[.int .i64 (if (a.v.may && b.v.may) = true then a.v.ord b.v else 0), .int .i64 (if (a.v.may && b.v.may) = true then 0 else 2)]) ∧ Fr No w w' := by
  have hMa := fun w' h h' => refMay_any a w' lo hi h h'
  have hMb := fun w' h h' => refMay_any b w' lo hi h h'
  have hO := fun w' h h' h'' o o' => reforder_any a b w' lo hi lo hi h h'' h' h'' o o'
  cases a with
  | mk k n s A cap l r =>
  cases b with
  | mk k' n' s' A' cap' l' r' =>
    rw [T.val_mk] at *
    rw [T.val_mk] at *
    generalize hu : (T.mk k n s A cap l r).v = u at *
    generalize hv : (T.mk k' n' s' A' cap' l' r').v = v at *
    have fr1 := ((Fr.refl No w).alloc (.cells #[.int .u8 k, .int .i64 n, .string s, .slice A l.length cap, .int .i64 r] 27)).alloc (.cells #[.int .u8 k', .int .i64 n', .string s', .slice A' l'.length cap', .int .i64 r'] 27)
    have hK := (Blk.new' w 27 #[.int .u8 k, .int .i64 n, .string s, .slice A l.length cap, .int .i64 r] rfl).alloc (.cells #[.int .u8 k', .int .i64 n', .string s', .slice A' l'.length cap', .int .i64 r'] 27)
    have hV := Blk.new' (w.alloc (.cells #[.int .u8 k, .int .i64 n, .string s, .slice A l.length cap, .int .i64 r] 27)) 27 #[.int .u8 k', .int .i64 n', .string s', .slice A' l'.length cap', .int .i64 r'] (g := w.heap.size + 1) (by simp)
    have ha1 := ha.no fr1 hh
    have hb1 := hb.no fr1 hh
    have hs1 := Nat.le_trans hh fr1.size
    have HU := hide hu
    have HV := hide hv
    clear hu hv ha hb
    cases hma : u.may with
    | false =>
      rw [hma] at hMa
      simp only [Bool.false_and, Bool.false_eq_true, if_false]
      clear hma
      go_enter Try.func75, Try.ntmps75
      go_wp2_with fail
      refine (hMa _ ha1 hs1).mono ?_
      rintro e w2 ⟨rfl, fr2⟩
      go_wp2
      go_ret2
      exact ⟨rfl, fr1.trans fr2⟩
    | true =>
      rw [hma] at hMa
      cases hmb : v.may with
      | false =>
        rw [hmb] at hMb
        simp only [Bool.and_false, Bool.false_eq_true, if_false]
        clear hma hmb
        go_enter Try.func75, Try.ntmps75
        go_wp2_with fail
        generalize World.alloc _ _ = W0 at *
        refine (hMa _ ha1 hs1).mono ?_
        rintro e w2 ⟨rfl, fr2⟩
        obtain ⟨v0, v1, v2, v3, v4, -⟩ := (hV.fr fr2 fun h => h).cells5
        have hb2 := hb1.no fr2 hs1
        have hs2 := Nat.le_trans hs1 fr2.size
        have HF := hide (fr1.trans fr2)
        clear fr1 fr2 hK hV
        go_wp2_with fail
        refine (hMb _ hb2 hs2).mono ?_
        rintro e w3 ⟨rfl, fr3⟩
        go_wp2
        go_ret2
        exact ⟨rfl, HF.out.trans fr3⟩
      | true =>
        rw [hmb] at hMb
        simp only [Bool.and_true, if_true]
        have hO := fun w' h h' h'' => hO w' h h' h'' (may_ok hma) (may_ok hmb)
        generalize u.ord v = c at *
        clear hma hmb
        go_enter Try.func75, Try.ntmps75
        go_wp2_with fail
        generalize World.alloc _ _ = W0 at *
        refine (hMa _ ha1 hs1).mono ?_
        rintro e w2 ⟨rfl, fr2⟩
        have hK2 := hK.fr fr2 fun h => h
        have hV2 := hV.fr fr2 fun h => h
        obtain ⟨v0, v1, v2, v3, v4, -⟩ := hV2.cells5
        have ha2 := ha1.no fr2 hs1
        have hb2 := hb1.no fr2 hs1
        have hs2 := Nat.le_trans hs1 fr2.size
        have HF := hide (fr1.trans fr2)
        clear fr1 fr2 hK hV
        go_wp2_with fail
        refine (hMb _ hb2 hs2).mono ?_
        rintro e w3 ⟨rfl, fr3⟩
        clear v0 v1 v2 v3 v4
        obtain ⟨v0, v1, v2, v3, v4, -⟩ := (hV2.fr fr3 fun h => h).cells5
        obtain ⟨c0, c1, c2, c3, c4, -⟩ := (hK2.fr fr3 fun h => h).cells5
        have ha3 := ha2.no fr3 hs2
        have hb3 := hb2.no fr3 hs2
        have hs3 := Nat.le_trans hs2 fr3.size
        have HF3 := hide (HF.out.trans fr3)
        clear fr3 hK2 hV2
        go_wp2_with fail
        refine (hO _ ha3 hb3 hs3).mono ?_
        rintro e w4 ⟨rfl, fr4⟩
        go_wp2
        go_ret2
        exact ⟨rfl, HF3.out.trans fr4⟩

/-- The document's Same. -/
theorem refSame_any (a b : T) (w : World) (lo hi : Nat) (ha : a.In w lo hi) (hb : b.In w lo hi) (hh : hi ≤ w.heap.size) : Calls Try.prog 43 #[a.val, b.val] w fun e w' => e = .returned (.bool (a.v.same2 b.v)) ∧ Fr No w w' := by
  have hO := fun w' h h' h'' => refOrder_any a b w' lo hi h h' h''
  have hr := ord_range a.v b.v
  cases a with
  | mk k n s A cap l r =>
  cases b with
  | mk k' n' s' A' cap' l' r' =>
    rw [T.val_mk] at *
    rw [T.val_mk] at *
    generalize hu : (T.mk k n s A cap l r).v = u at *
    generalize hv : (T.mk k' n' s' A' cap' l' r').v = v at *
    have fr1 := ((Fr.refl No w).alloc (.cells #[.int .u8 k, .int .i64 n, .string s, .slice A l.length cap, .int .i64 r] 27)).alloc (.cells #[.int .u8 k', .int .i64 n', .string s', .slice A' l'.length cap', .int .i64 r'] 27)
    have ha1 := ha.no fr1 hh
    have hb1 := hb.no fr1 hh
    have hs1 := Nat.le_trans hh fr1.size
    have HU := hide hu
    have HV := hide hv
    clear hu hv ha hb
    have hcase : ∃ (c d : Int) (q : Bool), (if (u.may && v.may) = true then u.ord v else 0) = c ∧ (if (u.may && v.may) = true then (0 : Int) else 2) = d ∧ u.same2 v = q ∧ ((d = 2 ∧ q = false) ∨ (d = 0 ∧ c = 0 ∧ q = true) ∨ (d = 0 ∧ (c = -1 ∨ c = 1) ∧ q = false)) := by
      refine ⟨_, _, _, rfl, rfl, rfl, ?_⟩
      unfold V.same2
      cases u.may
      · simp
      cases v.may
      · simp
      simp
      omega
    obtain ⟨c, d, q, h1, h2, h3, h4⟩ := hcase
    rw [h1, h2] at hO
    rw [h3]
    clear h1 h2 h3 hr
    rcases h4 with ⟨rfl, rfl⟩ | ⟨rfl, rfl, rfl⟩ | ⟨rfl, rfl | rfl, rfl⟩
    all_goals
      go_enter Try.func43, Try.ntmps43
      go_wp2_with fail
      refine (hO _ ha1 hb1 hs1).mono ?_
      rintro e w2 ⟨rfl, fr2⟩
      go_wp2
      go_ret
      exact ⟨rfl, fr1.trans fr2⟩

end Go.Proofs.Ytihjmipmjogpoaa

/- Chapter 2: the law's own held: are both answers the value that it must be? Then the one is written over. -/
namespace Go.Proofs.Ytihjmipmjogpoaa
open Go.RowKit

set_option maxRecDepth 100000 in
set_option maxHeartbeats 8000000 in
theorem held_any (a b c : T) (u : V) (w : World) (lo hi lb hb lc hc : Nat) (ha : a.Sh w lo hi) (hh : hi ≤ w.heap.size) (hl : lo ≤ w.heap.size) (ib : b.In w lb hb) (hhb : hb ≤ w.heap.size) (db : ∀ i, lb ≤ i → i < hb → i ∉ a.blocks) (ic : c.In w lc hc) (hhc : hc ≤ w.heap.size) (dc : ∀ i, lc ≤ i → i < hc → i ∉ a.blocks)
    (ea : a.v = u) (eb : b.v = u) (ec : c.v = u) (hm : u.may = true) : Calls Try.prog 50 #[a.val, b.val, c.val] w fun e w' => e = .returned (.bool true) ∧ Fr (fun i => i ∈ a.blocks) w w' := by
  have hsz : u.size ≤ 512 := by simp [V.may, V.fits] at hm; omega
  have hbl : ∀ i ∈ a.blocks, i < w.heap.size := fun i hi => by have := T.In.blocks a ha.inn i hi; omega
  generalize hBL : a.blocks = bl at *
  cases a with
  | mk k n s A cap l r =>
  cases b with
  | mk k' n' s' A' cap' l' r' =>
  cases c with
  | mk k2 n2 s2 A2 cap2 l2 r2 =>
    rw [T.val_mk, T.val_mk, T.val_mk]
    have fr0 := (((Fr.refl No w).alloc (.cells #[.int .u8 k, .int .i64 n, .string s, .slice A l.length cap, .int .i64 r] 27)).alloc (.cells #[.int .u8 k', .int .i64 n', .string s', .slice A' l'.length cap', .int .i64 r'] 27)).alloc (.cells #[.int .u8 k2, .int .i64 n2, .string s2, .slice A2 l2.length cap2, .int .i64 r2] 27)
    have ba := ((Blk.new w 27 #[.int .u8 k, .int .i64 n, .string s, .slice A l.length cap, .int .i64 r]).alloc (.cells #[.int .u8 k', .int .i64 n', .string s', .slice A' l'.length cap', .int .i64 r'] 27)).alloc (.cells #[.int .u8 k2, .int .i64 n2, .string s2, .slice A2 l2.length cap2, .int .i64 r2] 27)
    have bb := (Blk.new' (w.alloc (.cells #[.int .u8 k, .int .i64 n, .string s, .slice A l.length cap, .int .i64 r] 27)) 27 #[.int .u8 k', .int .i64 n', .string s', .slice A' l'.length cap', .int .i64 r'] (g := w.heap.size + 1) (by simp)).alloc (.cells #[.int .u8 k2, .int .i64 n2, .string s2, .slice A2 l2.length cap2, .int .i64 r2] 27)
    have bc := Blk.new' ((w.alloc (.cells #[.int .u8 k, .int .i64 n, .string s, .slice A l.length cap, .int .i64 r] 27)).alloc (.cells #[.int .u8 k', .int .i64 n', .string s', .slice A' l'.length cap', .int .i64 r'] 27)) 27 #[.int .u8 k2, .int .i64 n2, .string s2, .slice A2 l2.length cap2, .int .i64 r2] (g := w.heap.size + 1 + 1) (by simp)
    obtain ⟨z0, z1, z2, z3, z4, -⟩ := bc.cells5
    have zq := bc.lt
    have ha0 := ha.no fr0
    have ib0 := ib.no fr0 hhb
    have ic0 := ic.no fr0 hhc
    have hs0 := fr0.size
    have HBL := hide hBL
    have HEA := hide ea
    have HEB := hide eb
    have HEC := hide ec
    have HBLT := hide hbl
    have HDB := hide db
    have HDC := hide dc
    have hself := same2_self hm
    have HM := hide hm
    have HSELF := hide hself
    clear hBL ea eb ec hbl db dc hm hself ha ib ic
    have hgoal : ∀ (w1 : World), Fr No ((((w.alloc (.cells #[.int .u8 k, .int .i64 n, .string s, .slice A l.length cap, .int .i64 r] 27)).alloc (.cells #[.int .u8 k', .int .i64 n', .string s', .slice A' l'.length cap', .int .i64 r'] 27)).alloc (.cells #[.int .u8 k2, .int .i64 n2, .string s2, .slice A2 l2.length cap2, .int .i64 r2] 27))) w1 →
        (Blk w1 w.heap.size 27 #[.int .u8 k, .int .i64 n, .string s, .slice A l.length cap, .int .i64 r] ∧ Blk w1 (w.heap.size + 1) 27 #[.int .u8 k', .int .i64 n', .string s', .slice A' l'.length cap', .int .i64 r'] ∧ Blk w1 (w.heap.size + 1 + 1) 27 #[.int .u8 k2, .int .i64 n2, .string s2, .slice A2 l2.length cap2, .int .i64 r2] ∧
          (T.mk k n s A cap l r).Sh w1 lo hi ∧ (T.mk k' n' s' A' cap' l' r').In w1 lb hb ∧ (T.mk k2 n2 s2 A2 cap2 l2 r2).In w1 lc hc ∧ Fr No w w1 ∧ w.heap.size ≤ w1.heap.size) := fun w1 f =>
      ⟨ba.fr f fun h => h, bb.fr f fun h => h, bc.fr f fun h => h, ha0.no f, ib0.no f (by omega), ic0.no f (by omega), fr0.trans f, (fr0.trans f).size⟩
    have HG := hide hgoal
    have fr00 := Fr.refl No ((((w.alloc (.cells #[.int .u8 k, .int .i64 n, .string s, .slice A l.length cap, .int .i64 r] 27)).alloc (.cells #[.int .u8 k', .int .i64 n', .string s', .slice A' l'.length cap', .int .i64 r'] 27)).alloc (.cells #[.int .u8 k2, .int .i64 n2, .string s2, .slice A2 l2.length cap2, .int .i64 r2] 27)))
    obtain ⟨a0, a1, a2, a3, a4, -⟩ := ba.cells5
    obtain ⟨b0, b1, b2, b3, b4, -⟩ := bb.cells5
    have aq := ba.lt
    have bq := bb.lt
    clear hgoal ba bb bc ha0 ib0 ic0 fr0
    by_cases hk : k2 = 0
    · subst hk
      go_enter Try.func50, Try.ntmps50
      go_wp2_with fail
      obtain ⟨-, -, -, s0, -, -, g0, h0⟩ := HG.out _ fr00
      have hmy := refMay_any (T.mk k n s A cap l r) _ lo hi s0.inn (Nat.le_trans hh h0)
      rw [T.val_mk, HEA.out, HM.out] at hmy
      refine hmy.mono ?_
      rintro e w1 ⟨rfl, f1⟩
      clear hmy s0 g0 h0 z0 z1 z2 z3 z4 zq a0 a1 a2 a3 a4 b0 b1 b2 b3 b4 aq bq
      obtain ⟨ba1, bb1, bc1, -⟩ := HG.out w1 f1
      obtain ⟨z0, z1, z2, z3, z4, -⟩ := bc1.cells5
      obtain ⟨a0, a1, a2, a3, a4, -⟩ := ba1.cells5
      have zq := bc1.lt
      have aq := ba1.lt
      clear ba1 bb1 bc1
      go_wp2_with fail
      obtain ⟨-, -, -, s1, i1b, i1c, g1, h1⟩ := HG.out _ f1
      have hsm := refSame_any (T.mk k n s A cap l r) (T.mk 0 n2 s2 A2 cap2 l2 r2) w1 0 (w1).heap.size (T.In.more (Nat.zero_le _) (Nat.le_trans hh h1) _ s1.inn) (T.In.more (Nat.zero_le _) (Nat.le_trans hhc h1) _ i1c) (Nat.le_refl _)
      rw [T.val_mk, T.val_mk, HEA.out, HEC.out, HSELF.out] at hsm
      refine hsm.mono ?_
      rintro e w2 ⟨rfl, f2⟩
      obtain ⟨ba2, bb2, bc2, s2', i2b, i2c, g2, h2⟩ := HG.out w2 ((f1).trans f2)
      clear hsm s1 i1b i1c g1 h1 f2 z0 z1 z2 z3 z4 zq a0 a1 a2 a3 a4 aq
      obtain ⟨a0, a1, a2, a3, a4, -⟩ := ba2.cells5
      have aq := ba2.lt
      have hsp := spoil_any (T.mk k n s A cap l r) w2 lo hi s2' (Nat.le_trans hh h2) (Nat.le_trans hl h2) (by rw [HEA.out]; omega)
      rw [T.val_mk, HBL.out] at hsp
      have HSP := hide hsp
      have HB2 := hide bb2
      have HC2 := hide bc2
      have HIB := hide i2b
      have HIC := hide i2c
      have HG2 := hide g2
      clear hsp ba2 bb2 bc2 s2' i2b i2c g2
      go_wp2_with fail
      refine HSP.out.mono ?_
      rintro e w3 ⟨⟨z, rfl, hz, -⟩, f3⟩
      have hz' : (0 : Int) < (z : Int) := by omega
      clear a0 a1 a2 a3 a4 aq
      have hnb : ∀ i, w.heap.size ≤ i → ¬ i ∈ bl := fun i hi h => by have := HBLT.out i h; omega
      have bb3 := HB2.out.fr f3 (hnb _ (by omega))
      have bc3 := HC2.out.fr f3 (hnb _ (by omega))
      have i3b := HIB.out.fr f3 (Nat.le_trans hhb h2) HDB.out
      have i3c := HIC.out.fr f3 (Nat.le_trans hhc h2) HDC.out
      have hs3 := f3.size
      have HF3 := hide ((HG2.out.no (S := fun i => i ∈ bl)).trans f3)
      obtain ⟨b0, b1, b2, b3, b4, -⟩ := bb3.cells5
      obtain ⟨z0, z1, z2, z3, z4, -⟩ := bc3.cells5
      have bq := bb3.lt
      have zq := bc3.lt
      clear hnb bb3 bc3 f3
      go_wp2_with fail
      have hsm := refSame_any (T.mk k' n' s' A' cap' l' r') (T.mk 0 n2 s2 A2 cap2 l2 r2) w3 0 w3.heap.size (T.In.more (Nat.zero_le _) (by omega) _ i3b) (T.In.more (Nat.zero_le _) (by omega) _ i3c) (Nat.le_refl _)
      rw [T.val_mk, T.val_mk, HEB.out, HEC.out, HSELF.out] at hsm
      refine hsm.mono ?_
      rintro e w4 ⟨rfl, f4⟩
      go_wp2
      go_ret
      exact ⟨rfl, HF3.out.thenNo f4⟩
    · have hk' : (k2 == 0) = false := by simpa using hk
      go_enter Try.func50, Try.ntmps50
      go_wp2_with fail
      clear z0 z1 z2 z3 z4 zq a0 a1 a2 a3 a4 aq b0 b1 b2 b3 b4 bq
      generalize World.alloc (World.alloc (World.alloc w _) _) _ = W0 at *
      obtain ⟨-, -, -, s1, i1b, i1c, g1, h1⟩ := HG.out _ fr00
      have hsm := refSame_any (T.mk k n s A cap l r) (T.mk k2 n2 s2 A2 cap2 l2 r2) W0 0 (W0).heap.size (T.In.more (Nat.zero_le _) (Nat.le_trans hh h1) _ s1.inn) (T.In.more (Nat.zero_le _) (Nat.le_trans hhc h1) _ i1c) (Nat.le_refl _)
      rw [T.val_mk, T.val_mk, HEA.out, HEC.out, HSELF.out] at hsm
      refine hsm.mono ?_
      rintro e w2 ⟨rfl, f2⟩
      obtain ⟨ba2, bb2, bc2, s2', i2b, i2c, g2, h2⟩ := HG.out w2 ((fr00).trans f2)
      clear hsm s1 i1b i1c g1 h1 f2 fr00
      obtain ⟨a0, a1, a2, a3, a4, -⟩ := ba2.cells5
      have aq := ba2.lt
      have hsp := spoil_any (T.mk k n s A cap l r) w2 lo hi s2' (Nat.le_trans hh h2) (Nat.le_trans hl h2) (by rw [HEA.out]; omega)
      rw [T.val_mk, HBL.out] at hsp
      have HSP := hide hsp
      have HB2 := hide bb2
      have HC2 := hide bc2
      have HIB := hide i2b
      have HIC := hide i2c
      have HG2 := hide g2
      clear hsp ba2 bb2 bc2 s2' i2b i2c g2
      go_wp2_with fail
      refine HSP.out.mono ?_
      rintro e w3 ⟨⟨z, rfl, hz, -⟩, f3⟩
      have hz' : (0 : Int) < (z : Int) := by omega
      clear a0 a1 a2 a3 a4 aq
      have hnb : ∀ i, w.heap.size ≤ i → ¬ i ∈ bl := fun i hi h => by have := HBLT.out i h; omega
      have bb3 := HB2.out.fr f3 (hnb _ (by omega))
      have bc3 := HC2.out.fr f3 (hnb _ (by omega))
      have i3b := HIB.out.fr f3 (Nat.le_trans hhb h2) HDB.out
      have i3c := HIC.out.fr f3 (Nat.le_trans hhc h2) HDC.out
      have hs3 := f3.size
      have HF3 := hide ((HG2.out.no (S := fun i => i ∈ bl)).trans f3)
      obtain ⟨b0, b1, b2, b3, b4, -⟩ := bb3.cells5
      obtain ⟨z0, z1, z2, z3, z4, -⟩ := bc3.cells5
      have bq := bb3.lt
      have zq := bc3.lt
      clear hnb bb3 bc3 f3
      go_wp2_with fail
      have hsm := refSame_any (T.mk k' n' s' A' cap' l' r') (T.mk k2 n2 s2 A2 cap2 l2 r2) w3 0 w3.heap.size (T.In.more (Nat.zero_le _) (by omega) _ i3b) (T.In.more (Nat.zero_le _) (by omega) _ i3c) (Nat.le_refl _)
      rw [T.val_mk, T.val_mk, HEB.out, HEC.out, HSELF.out] at hsm
      refine hsm.mono ?_
      rintro e w4 ⟨rfl, f4⟩
      go_wp2
      go_ret
      exact ⟨rfl, HF3.out.thenNo f4⟩

end Go.Proofs.Ytihjmipmjogpoaa

/- Chapter 2: Own, At: their answers lie in rows of their own. -/
namespace Go.Proofs.Ytihjmipmjogpoaa
open Go.RowKit

theorem T.zero_sh (w : World) (lo hi : Nat) : T.zero.Sh w lo hi := T.sh_leaf ⟨by decide, by decide, by decide, by decide, by decide, by decide, by decide, by decide, by decide⟩

def OwnE2 (v : V) (n : Int) (w : World) (e : Ending) (w' : World) : Prop :=
  ∃ t' : T, e = .returned (.tuple #[t'.val, .int .i64 n]) ∧ t'.v = v ∧ t'.Sh w' w.heap.size w'.heap.size ∧ Fr No w w'

set_option maxHeartbeats 1000000 in
theorem Own2_any (t : T) (w : World) (lo hi : Nat) (ht : t.In w lo hi) (hh : hi ≤ w.heap.size) :
    Calls Try.prog 61 #[t.val] w (OwnE2 (if t.v.may = true then t.v else V.zero) (if t.v.may = true then 0 else 2) w) := by
  have hM := fun w' h h' => may_any t w' lo hi h h'
  have hO := fun w' h h' => own2_any t w' lo hi h h'
  cases t with
  | mk k n s A cap l r =>
    rw [T.val_mk] at *
    cases hm : (T.mk k n s A cap l r).v.may
    · rw [hm] at hM
      go_enter Try.func61, Try.ntmps61
      go_wp2_with fail
      refine (hM _ (ht.no (((Fr.refl No w).alloc _).alloc _) hh) (by simp; omega)).mono ?_
      rintro e w2 ⟨rfl, fr2⟩
      have hsz := fr2.size
      simp only [World.size_alloc] at hsz
      have hs0 : w.heap.size + 1 < w2.heap.size := by omega
      have b1 := (Blk.new' (w.alloc (.cells #[.int .u8 k, .int .i64 n, .string s, .slice A l.length cap, .int .i64 r] 27)) 27 #[.int .u8 0, .int .i64 0, .string ⟨#[]⟩, .slice none 0 0, .int .i64 0] (g := w.heap.size + 1) (by simp)).fr fr2 (fun h => h)
      obtain ⟨d0, d1, d2, d3, d4, df⟩ := b1.cells5
      have hF2 : Fr No w w2 := (((Fr.refl No w).alloc _).alloc _).trans fr2
      have HF := hide hF2
      clear b1 hO hF2
      go_wp2
      refine bodyPost_ret (v := .tuple #[.agg #[.int .u8 0, .int .i64 0, .string ⟨#[]⟩, .slice none 0 0, .int .i64 0], .int .i64 2]) (by simp [results, Try.results61, go_sem, *]) rfl ?_
      have hF2 := HF.out
      exact ⟨T.zero, rfl, T.zero_v, T.zero_sh _ _ _, (by repeat (first | with_reducible exact hF2 | with_reducible refine Fr.setNew ?_ (by simp) _ | with_reducible refine Fr.alloc ?_ _))⟩
    · rw [hm] at hM
      go_enter Try.func61, Try.ntmps61
      go_wp2_with fail
      refine (hM _ (ht.no (((Fr.refl No w).alloc _).alloc _) hh) (by simp; omega)).mono ?_
      rintro e w2 ⟨rfl, fr2⟩
      have hsz := fr2.size
      simp only [World.size_alloc] at hsz
      have hs0 : w.heap.size + 1 < w2.heap.size := by omega
      have b0 := ((Blk.new' w 27 #[.int .u8 k, .int .i64 n, .string s, .slice A l.length cap, .int .i64 r] (g := w.heap.size) rfl).alloc (.cells #[.int .u8 0, .int .i64 0, .string ⟨#[]⟩, .slice none 0 0, .int .i64 0] 27)).fr fr2 (fun h => h)
      have b1 := (Blk.new' (w.alloc (.cells #[.int .u8 k, .int .i64 n, .string s, .slice A l.length cap, .int .i64 r] 27)) 27 #[.int .u8 0, .int .i64 0, .string ⟨#[]⟩, .slice none 0 0, .int .i64 0] (g := w.heap.size + 1) (by simp)).fr fr2 (fun h => h)
      obtain ⟨c0, c1, c2, c3, c4, cf⟩ := b0.cells5
      obtain ⟨d0, d1, d2, d3, d4, df⟩ := b1.cells5
      have hF2 : Fr No w w2 := (((Fr.refl No w).alloc _).alloc _).trans fr2
      have HT := hide (ht.no hF2 hh)
      clear ht
      have HF := hide hF2
      have HB := hide b1
      clear b1 b0 hF2
      go_wp2_with fail
      refine (hO _ HT.out (by omega)).mono ?_
      rintro e w3 ⟨t', rfl, hv, ow, fr3⟩
      have b1 := HB.out.fr fr3 (fun h => h)
      obtain ⟨d0, d1, d2, d3, d4, df⟩ := b1.cells5
      have hF2 := HF.out.trans fr3
      have HF2 := hide hF2
      have HV := hide hv
      have HO := hide ow
      have hsz3 := fr3.size
      clear hv ow hF2 b1
      cases t' with
      | mk k2 n2 s2 A2 cap2 l2 r2 =>
        rw [T.val_mk]
        go_wp2
        refine bodyPost_ret (v := .tuple #[.agg #[.int .u8 k2, .int .i64 n2, .string s2, .slice A2 l2.length cap2, .int .i64 r2], .int .i64 0]) (by simp [results, Try.results61, go_sem, *]) rfl ?_
        have hF2 := HF2.out
        refine ⟨T.mk k2 n2 s2 A2 cap2 l2 r2, rfl, HV.out, ?_, (by repeat (first | with_reducible exact hF2 | with_reducible refine Fr.setNew ?_ (by simp) _ | with_reducible refine Fr.alloc ?_ _))⟩
        refine (HO.out.fr' (S := (· = w.heap.size + 1)) ?_ (fun i h0 h1 h2 => by have h' : i = w.heap.size + 1 := h2; omega)).more (by omega) (by simp)
        repeat (first | with_reducible exact Fr.refl _ w3 | with_reducible refine Fr.set ?_ (by simp) _)

set_option maxRecDepth 100000 in
set_option maxHeartbeats 4000000 in
theorem At2_any (t : T) (w : World) (lo hi : Nat) (ht : t.In w lo hi) (hh : hi ≤ w.heap.size) (A : Option Addr) (cap : Nat) (p : List Int) (lo' hi' : Nat) (hp : Ints w lo' hi' A cap p) (hh' : hi' ≤ w.heap.size) :
    Calls Try.prog 68 #[t.val, .slice A p.length cap] w (OwnE2 (atOf t.v p).1 (atOf t.v p).2 w) := by
  have hM := fun w' h h' => may_any t w' lo hi h h'
  have hF := fun w' h h' h1 h2 => find2_any t w' lo hi h h' A cap p lo' hi' h1 h2
  have hO := own2_any
  cases t with
  | mk k n s A1 cap1 l r =>
    rw [T.val_mk] at *
    generalize hu : (T.mk k n s A1 cap1 l r).v = u at *
    have fr1 : Fr No w ((w.alloc (.cells #[.int .u8 k, .int .i64 n, .string s, .slice A1 l.length cap1, .int .i64 r] 27)).alloc (.cells #[.int .u8 0, .int .i64 0, .string ⟨#[]⟩, .slice none 0 0, .int .i64 0] 27)) := ((Fr.refl No w).alloc _).alloc _
    have hK : Blk ((w.alloc (.cells #[.int .u8 k, .int .i64 n, .string s, .slice A1 l.length cap1, .int .i64 r] 27)).alloc (.cells #[.int .u8 0, .int .i64 0, .string ⟨#[]⟩, .slice none 0 0, .int .i64 0] 27)) w.heap.size 27 #[.int .u8 k, .int .i64 n, .string s, .slice A1 l.length cap1, .int .i64 r] := (Blk.new' w 27 _ rfl).alloc _
    have hZ : Blk ((w.alloc (.cells #[.int .u8 k, .int .i64 n, .string s, .slice A1 l.length cap1, .int .i64 r] 27)).alloc (.cells #[.int .u8 0, .int .i64 0, .string ⟨#[]⟩, .slice none 0 0, .int .i64 0] 27)) (w.heap.size + 1) 27 #[.int .u8 0, .int .i64 0, .string ⟨#[]⟩, .slice none 0 0, .int .i64 0] := Blk.new' (w.alloc _) 27 _ (by simp)
    have ht1 := ht.no fr1 hh
    have hp1 := hp.no fr1 hh'
    have hs0 : w.heap.size + 2 ≤ ((w.alloc (.cells #[.int .u8 k, .int .i64 n, .string s, .slice A1 l.length cap1, .int .i64 r] 27)).alloc (.cells #[.int .u8 0, .int .i64 0, .string ⟨#[]⟩, .slice none 0 0, .int .i64 0] 27)).heap.size := by simp
    have HU := hide hu
    clear hu ht hp
    cases hm : u.may with
    | false =>
      have e1 : atOf u p = (V.zero, 2) := by simp [atOf, hm]
      rw [e1]
      rw [hm] at hM
      clear hm e1 hF
      go_enter Try.func68, Try.ntmps68
      go_wp2_with fail
      generalize World.alloc _ (.cells #[.int .u8 0, .int .i64 0, .string ⟨#[]⟩, .slice none 0 0, .int .i64 0] 27) = W0 at *
      refine (hM _ ht1 (by omega)).mono ?_
      rintro e w2 ⟨rfl, fr2⟩
      have hZ2 := hZ.fr fr2 fun h => h
      obtain ⟨d0, d1, d2, d3, d4, df⟩ := hZ2.cells5
      have q0 := hZ2.lt
      have HF := hide (fr1.trans fr2)
      clear fr1 fr2 hK hZ hZ2 hM
      go_wp2
      refine bodyPost_ret (v := .tuple #[.agg #[.int .u8 0, .int .i64 0, .string ⟨#[]⟩, .slice none 0 0, .int .i64 0], .int .i64 2]) (by simp [results, Try.results68, go_sem, *]) rfl ?_
      have hF2 := HF.out
      refine ⟨T.zero, rfl, T.zero_v, T.zero_sh _ _ _, ?_⟩
      repeat (first | with_reducible exact hF2 | with_reducible refine Fr.setNew ?_ (by first | (simp; done) | (simp; omega)) _)
    | true =>
      have e1 : atOf u p = (match vAt p u with | some x => (x, 0) | none => (V.zero, 22)) := by unfold atOf; rw [if_pos hm]; rfl
      have E1 := hide e1
      rw [hm] at hM
      clear hm e1
      go_enter Try.func68, Try.ntmps68
      go_wp2_with fail
      generalize World.alloc _ (.cells #[.int .u8 0, .int .i64 0, .string ⟨#[]⟩, .slice none 0 0, .int .i64 0] 27) = W0 at *
      refine (hM _ ht1 (by omega)).mono ?_
      rintro e w2 ⟨rfl, fr2⟩
      have hZ2 := hZ.fr fr2 fun h => h
      obtain ⟨c0, c1, c2, c3, c4, cf⟩ := (hK.fr fr2 fun h => h).cells5
      have ht2 := ht1.no fr2 (by omega)
      have hp2 := hp1.no fr2 (by omega)
      have hs2 := fr2.size
      have HF := hide (fr1.trans fr2)
      clear fr1 fr2 hK hZ hM
      go_wp2_with fail
      refine (hF _ ht2 (by omega) hp2 (by omega)).mono ?_
      rintro e w3 ⟨fr3, hP⟩
      have hZ3 := hZ2.fr fr3 fun h => h
      have hs3 := fr3.size
      have HF3 := hide (HF.out.trans fr3)
      clear c0 c1 c2 c3 c4 cf hF hZ2 fr3
      rcases hP with ⟨⟨k2, n2, s2, A2, cap2, l2, r2⟩, rfl, hv, hin⟩ | ⟨rfl, hv⟩
      · have e2 : atOf u p = ((T.mk k2 n2 s2 A2 cap2 l2 r2).v, 0) := by rw [E1.out, hv]
        have E2 := hide e2
        rw [T.val_mk]
        have frB := (Fr.refl No w3).alloc (.cells #[.int .u8 k2, .int .i64 n2, .string s2, .slice A2 l2.length cap2, .int .i64 r2] 27)
        have hinB := hin.no frB (by omega)
        have hO1 := hO (T.mk k2 n2 s2 A2 cap2 l2 r2) (w3.alloc (.cells #[.int .u8 k2, .int .i64 n2, .string s2, .slice A2 l2.length cap2, .int .i64 r2] 27)) lo hi hinB (Nat.le_trans (by omega) frB.size)
        rw [T.val_mk] at hO1
        have HO := hide hO1
        have HZB := hide (hZ3.alloc (.cells #[.int .u8 k2, .int .i64 n2, .string s2, .slice A2 l2.length cap2, .int .i64 r2] 27))
        have HFB := hide (HF3.out.alloc (.cells #[.int .u8 k2, .int .i64 n2, .string s2, .slice A2 l2.length cap2, .int .i64 r2] 27))
        have hsB : w.heap.size + 2 ≤ (w3.alloc (.cells #[.int .u8 k2, .int .i64 n2, .string s2, .slice A2 l2.length cap2, .int .i64 r2] 27)).heap.size := by simp; omega
        have HSB := hide hsB
        clear e2 hv hin frB hinB hO1 hZ3 hO hsB
        go_wp2_with fail
        refine HO.out.mono ?_
        rintro e w4 ⟨⟨k3, n3, s3, A3, cap3, l3, r3⟩, rfl, hv3, how, fr4⟩
        rw [T.val_mk]
        have hZ4 := HZB.out.fr fr4 fun h => h
        obtain ⟨d0, d1, d2, d3, d4, df⟩ := hZ4.cells5
        have q0 := hZ4.lt
        have HF4 := hide (HFB.out.trans fr4)
        have HV3 := hide hv3
        have HOW := hide how
        have hs5 := HSB.out
        have hs6 := fr4.size
        clear hZ4 fr4 hv3 how
        go_wp2
        refine bodyPost_ret (v := .tuple #[.agg #[.int .u8 k3, .int .i64 n3, .string s3, .slice A3 l3.length cap3, .int .i64 r3], .int .i64 0]) (by simp [results, Try.results68, go_sem, *]) rfl ?_
        have hF2 := HF4.out
        have hO2 := HOW.out
        refine ⟨T.mk k3 n3 s3 A3 cap3 l3 r3, by rw [E2.out]; rfl, by rw [E2.out]; exact HV3.out, ?_, ?_⟩
        · refine ((hO2.fr' (S := (· = w.heap.size + 1)) ?_ (fun i h0 h1 h2 => by have h' : i = w.heap.size + 1 := h2; omega)).more (by omega) (by simp))
          repeat (first | with_reducible exact Fr.refl _ w4 | with_reducible refine Fr.set ?_ (by simp) _)
        · repeat (first | with_reducible exact hF2 | with_reducible refine Fr.setNew ?_ (by first | (simp; done) | (simp; omega)) _)
      · have e2 : atOf u p = (V.zero, 22) := by rw [E1.out, hv]
        have E2 := hide e2
        clear e2 hv hO
        have HZ3 := hide (hZ3.alloc (.cells #[.int .u8 0, .int .i64 0, .string ⟨#[]⟩, .slice none 0 0, .int .i64 0] 27))
        obtain ⟨d0, d1, d2, d3, d4, df⟩ := hZ3.cells5
        have q0 := hZ3.lt
        clear hZ3
        go_wp2
        refine bodyPost_ret (v := .tuple #[.agg #[.int .u8 0, .int .i64 0, .string ⟨#[]⟩, .slice none 0 0, .int .i64 0], .int .i64 22]) (by simp [results, Try.results68, go_sem, *]) rfl ?_
        have hF2 := HF3.out
        refine ⟨T.zero, by rw [E2.out]; rfl, by rw [E2.out]; exact T.zero_v, T.zero_sh _ _ _, ?_⟩
        repeat (first | with_reducible exact hF2 | with_reducible refine Fr.setNew ?_ (by first | (simp; done) | (simp; omega)) _ | with_reducible refine Fr.alloc ?_ _)

end Go.Proofs.Ytihjmipmjogpoaa

/- Chapter 2: the document's answer: Deep, Refs. -/
namespace Go.Proofs.Ytihjmipmjogpoaa
open Go.RowKit

set_option maxRecDepth 100000 in
set_option maxHeartbeats 2000000 in
/-- The document's Deep. -/
theorem refDeep_any (t : T) : ∀ (w : World) (lo hi : Nat), t.In w lo hi → hi ≤ w.heap.size → t.v.dep ≤ 16 → Calls Try.prog 63 #[t.val] w fun e w' => e = .returned (.int .i64 (t.v.dep : Int)) ∧ Fr No w w' := by
  induction t using T.ind with
  | h k n s A cap l r ih =>
    intro w lo hi ht hh hd
    rw [T.val_mk]
    have fit := (T.in_mk.1 ht).1
    have hlen := fit.len1
    have hK := Blk.new' w 27 #[.int .u8 k, .int .i64 n, .string s, .slice A l.length cap, .int .i64 r] rfl
    have fr1 := (Fr.refl No w).alloc (.cells #[.int .u8 k, .int .i64 n, .string s, .slice A l.length cap, .int .i64 r] 27)
    by_cases h3 : k = 3
    case neg =>
      have h3' : (k != 3) = true := by simpa using h3
      have e : (T.mk k n s A cap l r).v.dep = 0 := by rw [T.v_mk, V.dep_mk, if_neg h3]
      rw [e]
      clear ih
      go_enter Try.func63, Try.ntmps63
      go_wp2
      go_ret
      exact ⟨rfl, fr1⟩
    subst h3
    have e : (T.mk 3 n s A cap l r).v.dep = top ((l.map T.v).map V.dep) + 1 := by rw [T.v_mk, V.dep_mk, if_pos rfl]; omega
    rw [e] at hd ⊢
    have hchild : ∀ x ∈ l, x.v.dep ≤ 15 := by
      intro x hx
      have := le_top (List.mem_map_of_mem (f := V.dep) (List.mem_map_of_mem (f := T.v) hx))
      omega
    clear e
    go_enter Try.func63, Try.ntmps63
    go_wp2_with fail
    go_loopw [3, 4, 5] (fun v i _ wr => ∃ j m : Nat, j ≤ l.length ∧ i = .int .i64 j ∧ v = .int .i64 (m : Int) ∧ m = top (((l.map T.v).map V.dep).take j) ∧ m ≤ 16 ∧ Fr No (w.alloc (.cells #[.int .u8 3, .int .i64 n, .string s, .slice A l.length cap, .int .i64 r] 27)) wr) (fun _ i _ _ => l.length - (intOf i).toNat)
    case atStart =>
      exact ⟨0, 0, Nat.zero_le _, rfl, rfl, by simp [top], by omega, Fr.refl _ _⟩
    case round =>
      obtain ⟨j, m, hj, rfl, rfl, hm, hm17, fr⟩ := hrel
      have frw := fr1.trans fr
      have HM := hide hm
      obtain ⟨c0, c1, c2, c3, c4, cf⟩ := (hK.fr fr fun h => h).cells5
      clear hm
      by_cases hlt : j < l.length
      · obtain ⟨b, o, k1, n1, s1, A1, cap1, l1, r1, rfl, hb0, hb1, hx, hin, e0, e1, e2, e3, e4⟩ := T.elem (ht.no frw hh) hlt
        have IH := ih l[j] (List.getElem_mem hlt)
        have hc := hchild l[j] (List.getElem_mem hlt)
        have hto := top_take_succ ((l.map T.v).map V.dep) j (by simpa using hlt)
        rw [List.getElem_map, List.getElem_map] at hto
        rw [hx] at IH hc hto
        rw [T.val_mk] at IH
        generalize (T.mk k1 n1 s1 A1 cap1 l1 r1).v = u at *
        have g0 : b < wr.heap.size := by have := frw.size; omega
        have IH2 := IH wr lo hi hin (by have := frw.size; omega) (by omega)
        have HIH := hide IH2
        have HF := hide fr
        have HT := hide hto
        clear hx ih fr frw fr1 hto hchild hin IH IH2
        generalize hq : u.dep = q at *
        have HQ := hide hq
        clear hq
        go_wp2_with fail
        refine HIH.out.mono ?_
        rintro e w2 ⟨rfl, fr2⟩
        have HF2 := hide fr2
        clear fr2
        by_cases hlt2 : m < q
        · go_wp2
          go_roundw
          case rel => exact ⟨j + 1, q, hlt, by go_num, rfl, by rw [HT.out, ← HM.out, Nat.max_eq_right (by omega)], by omega, HF.out.trans HF2.out⟩
          case measure => simp [intOf]; omega
        · go_wp2
          go_roundw
          case rel => exact ⟨j + 1, m, hlt, by go_num, rfl, by rw [HT.out, ← HM.out, Nat.max_eq_left (by omega)], by omega, HF.out.trans HF2.out⟩
          case measure => simp [intOf]; omega
      · obtain rfl : l.length = j := by omega
        have HW := hide frw
        clear ih
        have hm2 : m = top ((l.map T.v).map V.dep) := by rw [HM.out, List.take_of_length_le (by simp)]
        have HM2 := hide hm2
        clear hm2
        go_wp2
        go_ret
        exact ⟨by rw [← HM2.out]; rfl, HW.out⟩

/-- The references of a value, by the document. -/
def V.rf : V → List Int
  | .mk k _ _ l r => if k = 4 then [r] else (l.map V.rf).flatten
termination_by v => v
theorem V.rf_mk (k n : Int) (s : ByteArray) (l : List V) (r : Int) : (V.mk k n s l r).rf = if k = 4 then [r] else (l.map V.rf).flatten := by rw [V.rf]

theorem rf_walkL (l : List V) : ∀ (i : Nat) (p : List Int), (∀ v ∈ l, ∀ p, refsOf (v.walk p) = v.rf) → refsOf (walkL (l.map V.walk) i p) = (l.map V.rf).flatten := by
  induction l with
  | nil => intro i p _; rfl
  | cons x l ih =>
    intro i p h
    simp only [List.map_cons, walkL, refsOf_append, List.flatten_cons]
    rw [h x (by simp), ih (i + 1) p fun v hv => h v (by simp [hv])]

theorem rf_walk (v : V) : v.ok = true → ∀ p, refsOf (v.walk p) = v.rf := by
  induction v using V.ind with
  | h k n s l r ih =>
    intro hok p
    rw [V.ok_mk, Bool.and_eq_true, List.all_eq_true] at hok
    rw [V.walk_mk, V.rf_mk]
    simp only [refsOf]
    by_cases h4 : k = 4
    · obtain rfl : l = [] := List.eq_nil_of_length_eq_zero (fok_len (by omega) hok.1)
      simp [h4, walkL, refsOf]
    · rw [if_neg h4, if_neg h4, rf_walkL l 0 p fun v hv => ih v hv (hok.2 v hv)]

theorem refs_rf {v : V} (h : v.may = true) : v.refs = v.rf := by
  rw [V.refs, if_pos h, rf_walk v (may_ok h)]

theorem rf_length (v : V) : v.rf.length ≤ v.size := by
  induction v using V.ind with
  | h k n s l r ih =>
    rw [V.rf_mk, V.size_mk]
    split
    · simp
    · have : ((l.map V.rf).flatten).length ≤ (l.map V.size).sum := by
        rename_i h4
        clear h4
        induction l with
        | nil => simp
        | cons x l ih2 =>
          have h1 := ih x (by simp)
          have h2 := ih2 fun v hv => ih v (by simp [hv])
          simp only [List.map_cons, List.flatten_cons, List.length_append, List.sum_cons]
          omega
      omega

abbrev refCells (L : List Int) : List Value := L.map fun r => Value.int .i64 r

/-- What the document's Refs gives. -/
def RfP (L : List Int) (w : World) (e : Ending) (w' : World) : Prop :=
  ∃ v, e = .returned v ∧ w'.ownsRow w.heap.size 25 1 v L.length (refCells L) ∧ (L = [] → v = .slice none 0 0) ∧ Fr No w w'

set_option maxRecDepth 100000 in
set_option maxHeartbeats 4000000 in
theorem refRefs_any (t : T) : ∀ (w : World) (lo hi : Nat), t.In w lo hi → hi ≤ w.heap.size → t.v.size ≤ 1000000 → Calls Try.prog 62 #[t.val] w (RfP t.v.rf w) := by
  induction t using T.ind with
  | h k n s A cap l r ih =>
    intro w lo hi ht hh hsz
    rw [T.val_mk]
    have fit := (T.in_mk.1 ht).1
    have hlen := fit.len1
    have hK := Blk.new' w 27 #[.int .u8 k, .int .i64 n, .string s, .slice A l.length cap, .int .i64 r] rfl
    have fr1 := (Fr.refl No w).alloc (.cells #[.int .u8 k, .int .i64 n, .string s, .slice A l.length cap, .int .i64 r] 27)
    by_cases h4 : k = 4
    · subst h4
      have e : (T.mk 4 n s A cap l r).v.rf = [r] := by rw [T.v_mk, V.rf_mk, if_pos rfl]
      rw [e]
      have hB := Blk.new (w.alloc (.cells #[.int .u8 4, .int .i64 n, .string s, .slice A l.length cap, .int .i64 r] 27)) 25 #[.int .i64 r]
      have hP : RfP [r] w (.returned (.slice (some ⟨w.heap.size + 1, 0, none⟩) 1 1)) ((w.alloc (.cells #[.int .u8 4, .int .i64 n, .string s, .slice A l.length cap, .int .i64 r] 27)).alloc (.cells #[.int .i64 r] 25)) := by
        refine ⟨_, rfl, ⟨rfl, .inr ⟨w.heap.size + 1, 1, #[.int .i64 r], rfl, by omega, ?_, Nat.le_refl _, by unfold maxLen; omega, rfl, rfl⟩⟩, (fun h => by cases h), fr1.alloc _⟩
        rw [World.size_alloc] at hB
        exact hB
      have HP := hide hP
      clear ih hP hB
      go_enter Try.func62, Try.ntmps62
      go_wp2
      go_ret
      exact HP.out
    have h4' : (k == 4) = false := by simpa using h4
    have hrf : (T.mk k n s A cap l r).v.rf = ((l.map T.v).map V.rf).flatten := by rw [T.v_mk, V.rf_mk, if_neg h4]
    have hsize : (T.mk k n s A cap l r).v.size = 1 + ((l.map T.v).map V.size).sum := by rw [T.v_mk, V.size_mk]
    rw [hsize] at hsz
    have HRF := hide hrf
    clear hsize hrf
    obtain ⟨i0, hi0, hz0, hz1, hz2⟩ := info_parts ref_info
    go_enter Try.func62, Try.ntmps62
    go_wp2_with fail
    go_loopw [3, 4] (fun v i wr => ∃ (j : Nat) (A3 : Option Addr) (c3 : Nat) (L : List Int), j ≤ l.length ∧ i = .int .i64 j ∧ v = .slice A3 L.length c3 ∧ L = (((l.map T.v).take j).map V.rf).flatten ∧ wr.ownsRow (w.heap.size + 1) 25 1 v L.length (refCells L) ∧ (L = [] → v = .slice none 0 0) ∧ L.length ≤ (((l.map T.v).map V.size).take j).sum ∧ Fr No w wr ∧ Blk wr w.heap.size 27 #[.int .u8 k, .int .i64 n, .string s, .slice A l.length cap, .int .i64 r]) (fun _ i _ => l.length - (intOf i).toNat)
    case atStart =>
      exact ⟨0, none, 0, [], Nat.zero_le _, rfl, rfl, by simp, World.ownsRow_nil _ _ _ _, fun _ => rfl, by simp, fr1, hK⟩
    case round =>
      obtain ⟨j, A3, c3, L, hj, rfl, rfl, hL, own, hnil, hLs, fr, blk⟩ := hrel
      obtain ⟨c0, c1, c2, c3', c4, cf⟩ := blk.cells5
      have q0 := blk.lt
      have hts := sum_take_le ((l.map T.v).map V.size) j
      by_cases hlt : j < l.length
      · obtain ⟨b, o, k1, n1, s1, A1, cap1, l1, r1, rfl, hb0, hb1, hx, hin, e0, e1, e2, e3, e4⟩ := T.elem (ht.no fr hh) hlt
        have hto := sum_take_succ ((l.map T.v).map V.size) j (by simpa using hlt)
        have hts2 := sum_take_le ((l.map T.v).map V.size) (j + 1)
        rw [List.getElem_map, List.getElem_map, hx] at hto
        have hj' : j < (l.map T.v).length := by simpa using hlt
        have hap : (((l.map T.v).take (j + 1)).map V.rf).flatten = L ++ (T.mk k1 n1 s1 A1 cap1 l1 r1).v.rf := by
          rw [List.take_succ_eq_append_getElem hj', List.map_append, List.flatten_append, ← hL, List.getElem_map, hx]; simp
        have hrl := rf_length (T.mk k1 n1 s1 A1 cap1 l1 r1).v
        have IH := ih l[j] (List.getElem_mem hlt) wr lo hi (by rw [hx]; exact hin) (by have := fr.size; omega)
        rw [hx, T.val_mk] at IH
        generalize (T.mk k1 n1 s1 A1 cap1 l1 r1).v = u at *
        have IH2 := IH (by omega)
        have hus : u.size ≤ 1000000 := by omega
        have g0 : b < wr.heap.size := by have := fr.size; omega
        have HIH := hide IH2
        have HO := hide own
        have HF := hide fr
        have HB := hide blk
        have HN := hide hnil
        have HAP := hide hap
        have HTO := hide hto
        have HLS := hide hLs
        clear ih IH IH2 own fr blk hnil hap hto hL hx hin ht hLs hts2
        generalize hR : u.rf = R at *
        have HR := hide hR
        have hRl : R.length ≤ 1000000 := by omega
        have hLl : L.length ≤ 1000000 := by have := HLS.out; omega
        clear hR
        go_wp2_with fail
        refine HIH.out.mono ?_
        rintro e w2 ⟨vc, rfl, oc, hcn, f2⟩
        have hs2 := f2.size
        have hsw := HF.out.size
        have own2 := owns_fr HO.out f2 fun _ _ h => h
        have HF2 := hide f2
        have HB2 := hide (HB.out.fr f2 fun h => h)
        rcases List.eq_nil_or_concat R with rfl | ⟨R', x, hRe⟩
        · obtain rfl := hcn rfl
          clear hcn f2
          go_wp2_with (at_builtin; refine wpList_append_own_none (by rfl) _ _ _ (by rfl) (w.heap.size + 1) 25 i0 1 Try.underlying100 hi0 (.slice A3 L.length c3) L.length (refCells L) (by rfl) own2 (by rfl) ?_)
          go_roundw
          case rel => exact ⟨j + 1, A3, c3, L, hlt, by go_num, rfl, by rw [HAP.out]; simp, own2, HN.out, by rw [HTO.out]; have := HLS.out; omega, HF.out.trans HF2.out, HB2.out⟩
          case measure => simp [intOf]; omega
        · have hne : 0 < R.length := by rw [hRe]; simp
          clear hRe hcn
          obtain ⟨gc, cc, rfl, hg1, hg2⟩ := oc.form hne
          have hnews := World.ownsRow.cells oc (g := gc) rfl
          have HNE := hide hnews
          clear hnews oc f2
          go_wp2_with (at_builtin; refine wpList_append_lies _ (by rfl) _ _ _ (by rfl) (w.heap.size + 1) 25 i0 _ 1 8 Try.underlying100 hi0 hz0 hz1 hz2 (by rfl) (by omega) (.slice A3 L.length c3) L.length (refCells L) (by rfl) own2 ⟨gc, 0, none⟩ R.length cc (refCells R) (by rfl) (by simp) HNE.out (by simp [Value.oneCell']) hne (by unfold maxLen; omega) (by omega) (by omega) w2.heap.size rfl ?_; intro g cp w3 hown3 hgrow hat hlt3; have HO3 := hide hown3; have HG := hide hgrow; have HA := hide hat; clear hown3 hgrow hat)
          go_roundw
          case rel =>
            have hl2 := owns_lt own2
            have e : (L ++ R).length = L.length + R.length := List.length_append
            have hnb : ∀ i, i < w.heap.size + 1 → ¬ some i = (Value.slice A3 L.length c3).ownBlock := fun i hi h => by
              have := hl2 i h.symm; omega
            refine ⟨j + 1, some ⟨g, 0, none⟩, cp, L ++ R, hlt, by go_num, by rw [e], HAP.out.symm, ?_, fun h => ?_, ?_, ?_, HB2.out.fr (fr_grown HG.out) (hnb _ (by omega))⟩
            · have := HO3.out
              rw [e, refCells, List.map_append]
              exact this
            · exfalso
              have e0 : (L ++ R).length = 0 := by rw [h]; rfl
              omega
            · rw [HTO.out, e]; have := HLS.out; omega
            · exact (HF.out.trans HF2.out).trans' (fr_grown HG.out) fun i hi h => hnb i (by omega) h
          case measure => simp [intOf]; omega
      · obtain rfl : l.length = j := by omega
        have hLe : L = ((l.map T.v).map V.rf).flatten := by rw [hL, List.take_of_length_le (by simp)]
        have hP : RfP (T.mk k n s A cap l r).v.rf w (.returned (.slice A3 L.length c3)) wr := by
          rw [HRF.out, ← hLe]
          exact ⟨_, rfl, owns_mono own (by omega), hnil, fr⟩
        have HP := hide hP
        clear hP own hnil fr ih ht
        go_wp2
        go_ret
        exact HP.out

end Go.Proofs.Ytihjmipmjogpoaa

/- Chapter 2: posternlaw02.awake. -/
namespace Go.Proofs.Ytihjmipmjogpoaa
open Go.RowKit

theorem func105_neq_nil (w : World) (g : Nat) : (binOp .neq 73 (.func (.func 105) #[] #[.pointer (some ⟨g, 0, none⟩)]) .nilFunc).run Try.prog w = .ok (.bool true) w := by kernel_rfl

set_option maxRecDepth 100000 in
set_option maxHeartbeats 8000000 in
theorem awake_any (w : World) : Calls Try.prog 38 #[] w fun e w' => e = .returned (.bool true) ∧ Fr No w w' := by
  have hfn := func105_neq_nil
  go_enter Try.func38, Try.ntmps38
  go_wp2_with fail
  refine (num2_any 1 w).mono ?_
  rintro e w1 ⟨rfl, f1⟩
  go_wp2_with fail
  refine (ref2_any 7 w1).mono ?_
  rintro e w2 ⟨rfl, f2⟩
  have g2 := f1.trans f2
  clear f1 f2
  go_wp2_with fail
  have hB3 : Blk (w2.alloc (.cells awC1 27)) w2.heap.size 27 awC1 := Blk.new w2 27 awC1
  have g3 := g2.alloc (.cells awC1 27)
  unfold awC1 at hB3 g3
  generalize World.alloc w2 _ = w3 at *
  refine (list2_any _ 1 1 w3).mono ?_
  rintro e w4 ⟨rfl, f4⟩
  have hB4 := hB3.fr f4 fun h => h
  have g4 := g3.trans f4
  clear hB3 g3 f4 g2
  go_wp2_with fail
  have hB5 := hB4.alloc (.cells (awC2 w2.heap.size) 27)
  have hC5 : Blk (w4.alloc (.cells (awC2 w2.heap.size) 27)) w4.heap.size 27 (awC2 w2.heap.size) := Blk.new w4 27 _
  have g5 := g4.alloc (.cells (awC2 w2.heap.size) 27)
  unfold awC2 at hB5 hC5 g5
  generalize World.alloc w4 _ = w5 at *
  refine (list2_any _ 2 2 w5).mono ?_
  rintro e w6 ⟨rfl, f6⟩
  have hB6 := hB5.fr f6 fun h => h
  have hC6 := hC5.fr f6 fun h => h
  have g6 := g5.trans f6
  clear hB5 hC5 hB4 g4 g5 f6
  go_wp2_with fail
  have hV7 : Blk (w6.alloc (.cells #[.int .u8 3, .int .i64 0, .string ⟨#[]⟩, .slice (some ⟨w4.heap.size, 0, none⟩) 2 2, .int .i64 0] 27)) w6.heap.size 27 #[.int .u8 3, .int .i64 0, .string ⟨#[]⟩, .slice (some ⟨w4.heap.size, 0, none⟩) 2 2, .int .i64 0] := Blk.new w6 27 _
  have hB7 := hB6.alloc (.cells #[.int .u8 3, .int .i64 0, .string ⟨#[]⟩, .slice (some ⟨w4.heap.size, 0, none⟩) 2 2, .int .i64 0] 27)
  have hC7 := hC6.alloc (.cells #[.int .u8 3, .int .i64 0, .string ⟨#[]⟩, .slice (some ⟨w4.heap.size, 0, none⟩) 2 2, .int .i64 0] 27)
  have g7 := g6.alloc (.cells #[.int .u8 3, .int .i64 0, .string ⟨#[]⟩, .slice (some ⟨w4.heap.size, 0, none⟩) 2 2, .int .i64 0] 27)
  clear hB6 hC6 g6
  generalize World.alloc w6 _ = w7 at *
  generalize w6.heap.size = gv at *
  generalize w4.heap.size = gc at *
  generalize w2.heap.size = gb at *
  refine (aw_bytes hB7 hC7).mono ?_
  rintro e w8 ⟨rfl, f8⟩
  unfold awS
  have hV8 := hV7.fr f8 fun h => h
  have hB8 := hB7.fr f8 fun h => h
  have hC8 := hC7.fr f8 fun h => h
  have g8 := g7.trans f8
  clear hV7 hB7 hC7 g7 f8
  go_wp2_with fail
  refine (aw_read w8).mono ?_
  rintro e w9 ⟨⟨⟨k, n, s, A, cap, l, r⟩, ht, rfl, hin⟩, f9⟩
  rw [T.val_mk]
  have hV9 := hV8.fr f9 fun h => h
  have hB9 := hB8.fr f9 fun h => h
  have hC9 := hC8.fr f9 fun h => h
  have g9 := g8.trans f9
  obtain ⟨c0, c1, c2, c3, c4, -⟩ := hV9.cells5
  have q0 := hV9.lt
  have HT := hide ht
  have HI := hide hin
  clear hV8 hB8 hC8 g8 f9 ht hin
  go_wp2_with fail
  have f10 := ((Fr.refl No w9).alloc (.cells #[.int .u8 k, .int .i64 n, .string s, .slice A l.length cap, .int .i64 r] 27)).alloc (.cells #[.int .i64 1, .int .i64 0] 3)
  have hX10 : Blk ((w9.alloc (.cells #[.int .u8 k, .int .i64 n, .string s, .slice A l.length cap, .int .i64 r] 27)).alloc (.cells #[.int .i64 1, .int .i64 0] 3)) w9.heap.size 27 #[.int .u8 k, .int .i64 n, .string s, .slice A l.length cap, .int .i64 r] := (Blk.new w9 27 _).alloc _
  have hP10 : Blk ((w9.alloc (.cells #[.int .u8 k, .int .i64 n, .string s, .slice A l.length cap, .int .i64 r] 27)).alloc (.cells #[.int .i64 1, .int .i64 0] 3)) (w9.heap.size + 1) 3 #[.int .i64 1, .int .i64 0] := Blk.new' _ 3 _ (by simp)
  have hV10 := hV9.fr f10 fun h => h
  have hB10 := hB9.fr f10 fun h => h
  have hC10 := hC9.fr f10 fun h => h
  have g10 := g9.trans f10
  have HI10 := hide (HI.out.no f10 (Nat.le_refl _))
  have HS10 := hide f10.size
  clear hV9 hB9 hC9 g9 f10 c0 c1 c2 c3 c4 q0
  generalize World.alloc (World.alloc w9 _) _ = w10 at *
  generalize hgx : w9.heap.size = gx at *
  clear hgx
  refine (aw_atc hB10 hC10 hP10).mono ?_
  rintro e w11 ⟨⟨A2, cap2, rfl⟩, f11⟩
  have hV11 := hV10.fr f11 fun h => h
  have hB11 := hB10.fr f11 fun h => h
  have hC11 := hC10.fr f11 fun h => h
  have hX11 := hX10.fr f11 fun h => h
  have g11 := g10.trans f11
  have HI11 := hide (HI10.out.no f11 HS10.out)
  have HS11 := hide (Nat.le_trans HS10.out f11.size)
  clear hV10 hB10 hC10 hX10 hP10 g10 f11 HI10 HS10
  go_wp2_with fail
  have f12 := (Fr.refl No w11).alloc (.cells #[.int .u8 4, .int .i64 0, .string ⟨#[]⟩, .slice A2 0 cap2, .int .i64 7] 27)
  have hY12 : Blk (w11.alloc (.cells #[.int .u8 4, .int .i64 0, .string ⟨#[]⟩, .slice A2 0 cap2, .int .i64 7] 27)) w11.heap.size 27 #[.int .u8 4, .int .i64 0, .string ⟨#[]⟩, .slice A2 0 cap2, .int .i64 7] := Blk.new w11 27 _
  have hV12 := hV11.fr f12 fun h => h
  have hB12 := hB11.fr f12 fun h => h
  have hC12 := hC11.fr f12 fun h => h
  have hX12 := hX11.fr f12 fun h => h
  have g12 := g11.trans f12
  have HI12 := hide (HI11.out.no f12 HS11.out)
  have HS12 := hide (Nat.le_trans HS11.out f12.size)
  clear hV11 hB11 hC11 hX11 g11 f12 HI11 HS11
  generalize World.alloc w11 _ = w12 at *
  generalize hgy : w11.heap.size = gy at *
  clear hgy
  refine (num2_any 1 w12).mono ?_
  rintro e w13 ⟨rfl, f13⟩
  go_wp2_with fail
  refine (num2_any 2 w13).mono ?_
  rintro e w14 ⟨rfl, f14⟩
  go_wp2_with fail
  refine (aw_order w14).mono ?_
  rintro e w15 ⟨rfl, f15⟩
  have f := (f13.trans f14).trans f15
  have hV15 := hV12.fr f fun h => h
  have hB15 := hB12.fr f fun h => h
  have hC15 := hC12.fr f fun h => h
  have hX15 := hX12.fr f fun h => h
  have hY15 := hY12.fr f fun h => h
  have g15 := g12.trans f
  have HI15 := hide (HI12.out.no f HS12.out)
  have HS15 := hide (Nat.le_trans HS12.out f.size)
  clear hV12 hB12 hC12 hX12 hY12 g12 f f13 f14 f15 HI12 HS12
  obtain ⟨c0, c1, c2, c3, c4, -⟩ := hV15.cells5
  obtain ⟨x0, x1, x2, x3, x4, -⟩ := hX15.cells5
  have q0 := hV15.lt
  have q1 := hX15.lt
  go_wp2_with fail
  have HSM := aw_same hB15 hC15 HT.out (T.In.more (Nat.le_refl _) HS15.out _ HI15.out)
  rw [T.val_mk] at HSM
  refine HSM.mono ?_
  rintro e w16 ⟨rfl, f16⟩
  have hV16 := hV15.fr f16 fun h => h
  have hB16 := hB15.fr f16 fun h => h
  have hC16 := hC15.fr f16 fun h => h
  have hY16 := hY15.fr f16 fun h => h
  have g16 := g15.trans f16
  clear hV15 hB15 hC15 hX15 hY15 g15 f16 HI15 HS15 c0 c1 c2 c3 c4 x0 x1 x2 x3 x4 q0 q1 HSM HT HI
  obtain ⟨c0, c1, c2, c3, c4, -⟩ := hV16.cells5
  obtain ⟨y0, y1, y2, y3, y4, -⟩ := hY16.cells5
  have q0 := hV16.lt
  have q1 := hY16.lt
  go_wp2_with fail
  clear c0 c1 c2 c3 c4 y0 y1 y2 y3 y4 q0 q1 hY16
  refine (aw_parts hB16 hC16).mono ?_
  rintro e w17 ⟨rfl, f17⟩
  have hV17 := hV16.fr f17 fun h => h
  have hB17 := hB16.fr f17 fun h => h
  have hC17 := hC16.fr f17 fun h => h
  have g17 := g16.trans f17
  clear hV16 hB16 hC16 g16 f17
  obtain ⟨c0, c1, c2, c3, c4, -⟩ := hV17.cells5
  have q0 := hV17.lt
  go_wp2_with fail
  clear c0 c1 c2 c3 c4 q0
  refine (aw_deep hB17 hC17).mono ?_
  rintro e w18 ⟨rfl, f18⟩
  have hV18 := hV17.fr f18 fun h => h
  have hB18 := hB17.fr f18 fun h => h
  have hC18 := hC17.fr f18 fun h => h
  have g18 := g17.trans f18
  clear hV17 hB17 hC17 g17 f18
  obtain ⟨c0, c1, c2, c3, c4, -⟩ := hV18.cells5
  have q0 := hV18.lt
  go_wp2_with fail
  clear c0 c1 c2 c3 c4 q0
  refine (aw_mayc hB18 hC18).mono ?_
  rintro e w19 ⟨rfl, f19⟩
  have hV19 := hV18.fr f19 fun h => h
  have hB19 := hB18.fr f19 fun h => h
  have hC19 := hC18.fr f19 fun h => h
  have g19 := g18.trans f19
  clear hV18 hB18 hC18 g18 f19
  obtain ⟨c0, c1, c2, c3, c4, -⟩ := hV19.cells5
  have q0 := hV19.lt
  go_wp2_with fail
  clear c0 c1 c2 c3 c4 q0
  refine (aw_each hB19 hC19).mono ?_
  rintro e w20 ⟨rfl, f20⟩
  have g20 := g19.trans f20
  go_wp2
  go_ret
  exact ⟨rfl, g20⟩

end Go.Proofs.Ytihjmipmjogpoaa

/- Chapter 2: a value that came in, and its lent likeness, in a world behind. -/
namespace Go.Proofs.Ytihjmipmjogpoaa
open Go.RowKit

structure Lo (w wi : World) (b0 go : Nat) (v own : T) (lo hi : Nat) : Prop where
  bv : Blk wi b0 27 v.cells.toArray
  bo : Blk wi go 27 own.cells.toArray
  iv : v.In wi 0 w.heap.size
  io : own.In wi lo hi
  mo : own.Mk wi
  f : Fr No w wi
  h0 : w.heap.size ≤ b0
  h1 : b0 < lo
  h2 : lo ≤ hi
  h3 : hi ≤ go

theorem Lo.fr {S : Nat → Prop} {w wi wj : World} {b0 go : Nat} {v own : T} {lo hi : Nat} (h : Lo w wi b0 go v own lo hi) (f : Fr S wi wj) (hs : ∀ i, i ≤ go → ¬ S i) : Lo w wj b0 go v own lo hi := by
  have a := h.bo.lt
  have b := h.f.size
  have c := h.h0
  have d := h.h1
  have e := h.h2
  have g := h.h3
  exact ⟨h.bv.fr f (hs _ (by omega)), h.bo.fr f (hs _ (by omega)), h.iv.fr f b (fun i _ hi => hs i (by omega)), h.io.fr f (by omega) (fun i _ hi => hs i (by omega)),
    T.Mk.fr f (by omega) _ h.io (fun i hi => hs i (by have := T.In.blocks _ h.io i hi; omega)) h.mo, h.f.trans' f (fun i hi hS => hs i (by omega) hS), h.h0, h.h1, h.h2, h.h3⟩

theorem Lo.no {w wi wj : World} {b0 go : Nat} {v own : T} {lo hi : Nat} (h : Lo w wi b0 go v own lo hi) (f : Fr No wi wj) : Lo w wj b0 go v own lo hi := h.fr f fun _ _ h => h

theorem Lo.lt {w wi : World} {b0 go : Nat} {v own : T} {lo hi : Nat} (h : Lo w wi b0 go v own lo hi) : hi ≤ wi.heap.size := by have := h.bo.lt; have := h.h3; omega

theorem may_small {v : V} (h : v.may = true) : (v.size : Int) ≤ 1200 ∧ (v.ht : Int) ≤ 40 := by
  have h1 := ht_le_dep v (may_ok h)
  simp only [V.may, V.fits, Bool.and_eq_true, decide_eq_true_eq] at h
  omega

theorem rf_rng {w : World} {lo hi : Nat} (t : T) : t.In w lo hi → ∀ r ∈ t.v.rf, -9223372036854775808 ≤ r ∧ r ≤ 9223372036854775807 := by
  induction t using T.ind with
  | h k n s A cap l r ih =>
    intro h x hx
    obtain ⟨f, _, hl⟩ := T.in_mk.1 h
    rw [T.v_mk, V.rf_mk] at hx
    split at hx
    · simp at hx; subst hx; exact ⟨f.r0, f.r1⟩
    · obtain ⟨L, hL, hx⟩ := List.mem_flatten.1 hx
      obtain ⟨u, hu, rfl⟩ := List.mem_map.1 hL
      obtain ⟨y, hy, rfl⟩ := List.mem_map.1 hu
      exact ih y hy (hl y hy) x hx

theorem rf_pos (v : V) : v.ok = true → ∀ r ∈ v.rf, 1 ≤ r := by
  induction v using V.ind with
  | h k n s l r ih =>
    intro h x hx
    rw [V.ok_mk, Bool.and_eq_true, List.all_eq_true] at h
    rw [V.rf_mk] at hx
    split at hx
    · rename_i h4
      subst h4
      simp at hx
      subst hx
      have := h.1
      simp [fok] at this
      omega
    · obtain ⟨L, hL, hx⟩ := List.mem_flatten.1 hx
      obtain ⟨u, hu, rfl⟩ := List.mem_map.1 hL
      exact ih u hu (h.2 u hu) x hx

end Go.Proofs.Ytihjmipmjogpoaa

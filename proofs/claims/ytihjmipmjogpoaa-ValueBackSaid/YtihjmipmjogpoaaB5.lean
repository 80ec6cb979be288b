/- brand.Compare: what the comparison of two values' marks comes to. -/
import Derived.Test.YtihjmipmjogpoaaB4
namespace Go.Proofs.Ytihjmipmjogpoaa
open Go.RowKit

/-- Compare's answer. -/
def V.ans (u v : V) : Nat := if (u.may && v.may) = true then u.cmp v else 0
def V.err2 (u v : V) : Int := if (u.may && v.may) = true then 0 else 2

theorem may_dep {v : V} (h : v.may = true) : v.dep ≤ 16 := by
  simp [V.may, V.fits] at h; omega

set_option maxRecDepth 10000 in
set_option maxHeartbeats 2000000 in
theorem Compare_any (a b : T) (w : World) (lo hi : Nat) (ha : a.In w lo hi) (hb : b.In w lo hi) (hh : hi ≤ w.heap.size) :
    Calls Try.prog 20 #[a.val, b.val] w fun e w' => e = .returned (.tuple #[.int .u8 ((a.v.ans b.v : Nat) : Int), .int .i64 (a.v.err2 b.v)]) ∧ Fr No w w' := by
  have hA := fun w' h h' => Of_any a w' lo hi h h'
  have hB := fun w' h h' => Of_any b w' lo hi h h'
  cases a with
  | mk k n s A cap l r =>
  cases b with
  | mk k' n' s' A' cap' l' r' =>
    rw [T.val_mk] at *
    rw [T.val_mk] at *
    generalize hu : (T.mk k n s A cap l r).v = u at *
    generalize hv : (T.mk k' n' s' A' cap' l' r').v = v at *
    have HU := hide hu
    have HV := hide hv
    clear hu hv
    cases hmu : u.may
    · have h1 : u.ans v = 0 := by simp [V.ans, hmu]
      have h2 : u.err2 v = 2 := by simp [V.err2, hmu]
      have H1 := hide h1
      have H2 := hide h2
      have HM := hide hmu
      clear h1 h2 hmu
      go_enter Try.func20, Try.ntmps20
      go_wp2_with fail
      refine (hA _ (ha.no (((Fr.refl No w).alloc _).alloc _) hh) (by simp; omega)).mono ?_
      rintro e w2 ⟨-, h⟩
      obtain ⟨rfl, fr2⟩ := h HM.out
      clear h
      have b1 := (Blk.new' (w.alloc (.cells #[.int .u8 k, .int .i64 n, .string s, .slice A l.length cap, .int .i64 r] 27)) 27 #[.int .u8 k', .int .i64 n', .string s', .slice A' l'.length cap', .int .i64 r'] (g := w.heap.size + 1) (by simp)).fr fr2 (fun h => h)
      have hF2 : Fr No w w2 := (((Fr.refl No w).alloc _).alloc _).trans fr2
      have hb2 := hb.no hF2 hh
      have hsz := fr2.size
      simp only [World.size_alloc] at hsz
      obtain ⟨c0, c1, c2, c3, c4, cf⟩ := b1.cells5
      have HF2 := hide hF2
      have hs1 : w.heap.size + 1 < w2.heap.size := by omega
      clear b1 ha hb hA
      go_wp2_with fail
      refine (hB _ (hb2.no ((Fr.refl No w2).alloc _) (by omega)) (by simp; omega)).mono ?_
      rintro e w3 ⟨hy, hn⟩
      have h3 : ∃ m' f, e = .returned (.tuple #[m', .int .i64 f]) ∧ Fr No (w2.alloc (.cells #[.nilIface] 45)) w3 ∧ (m' = .nilIface ∨ ∃ t x, m' = .iface t x) := by
        cases hmv : v.may
        · obtain ⟨rfl, fr⟩ := hn hmv; exact ⟨_, _, rfl, fr, .inl rfl⟩
        · obtain ⟨m, rfl, hk, fr⟩ := hy hmv; exact ⟨_, _, rfl, fr, .inr hk.iface⟩
      clear hy hn
      obtain ⟨m', f, rfl, fr3, hm'⟩ := h3
      have hF3 := (HF2.out.alloc (.cells #[.nilIface] 45)).trans fr3
      have HF3 := hide hF3
      clear hF3
      rcases hm' with rfl | ⟨t, x, rfl⟩
      all_goals
        go_wp2
        go_ret2
        exact ⟨by rw [H1.out, H2.out]; rfl, HF3.out.alloc _⟩
    · cases hmv : v.may
      · have h1 : u.ans v = 0 := by simp [V.ans, hmv]
        have h2 : u.err2 v = 2 := by simp [V.err2, hmv]
        have H1 := hide h1
        have H2 := hide h2
        have HM := hide hmu
        have HN := hide hmv
        clear h1 h2 hmu hmv
        go_enter Try.func20, Try.ntmps20
        go_wp2_with fail
        refine (hA _ (ha.no (((Fr.refl No w).alloc _).alloc _) hh) (by simp; omega)).mono ?_
        rintro e w2 ⟨h, -⟩
        obtain ⟨m1, rfl, hk1, fr2⟩ := h HM.out
        obtain ⟨t1, x1, rfl⟩ := hk1.iface
        clear h
        have b1 := (Blk.new' (w.alloc (.cells #[.int .u8 k, .int .i64 n, .string s, .slice A l.length cap, .int .i64 r] 27)) 27 #[.int .u8 k', .int .i64 n', .string s', .slice A' l'.length cap', .int .i64 r'] (g := w.heap.size + 1) (by simp)).fr fr2 (fun h => h)
        have hF2 : Fr No w w2 := (((Fr.refl No w).alloc _).alloc _).trans fr2
        have hb2 := hb.no hF2 hh
        have hsz := fr2.size
        simp only [World.size_alloc] at hsz
        obtain ⟨c0, c1, c2, c3, c4, cf⟩ := b1.cells5
        have HF2 := hide hF2
        have hs1 : w.heap.size + 1 < w2.heap.size := by omega
        clear b1 ha hb hA
        go_wp2_with fail
        refine (hB _ (hb2.no ((Fr.refl No w2).alloc _) (by omega)) (by simp; omega)).mono ?_
        rintro e w3 ⟨-, h⟩
        obtain ⟨rfl, fr3⟩ := h HN.out
        clear h
        have hF3 := (HF2.out.alloc (.cells #[.iface t1 x1] 45)).trans fr3
        have HF3 := hide hF3
        clear hF3
        go_wp2
        go_ret2
        exact ⟨by rw [H1.out, H2.out]; rfl, HF3.out.alloc _⟩
      · have h1 : u.ans v = u.cmp v := by simp [V.ans, hmu, hmv]
        have h2 : u.err2 v = 0 := by simp [V.err2, hmu, hmv]
        have hd := may_dep hmu
        have H1 := hide h1
        have H2 := hide h2
        have HM := hide hmu
        have HN := hide hmv
        have hmf : ∀ (fn : Fn) (first cap : Array Value) (w : World), (Instr.makeFunc fn first cap).run Try.prog w = .ok (.func fn first cap) w := fun _ _ _ _ => rfl
        clear h1 h2 hmu hmv
        go_enter Try.func20, Try.ntmps20
        go_wp2_with fail
        refine (hA _ (ha.no (((Fr.refl No w).alloc _).alloc _) hh) (by simp; omega)).mono ?_
        rintro e w2 ⟨h, -⟩
        obtain ⟨m1, rfl, hk1, fr2⟩ := h HM.out
        have hi1 := hk1.iface
        obtain ⟨t1, x1, rfl⟩ := hi1
        clear h
        have b1 := (Blk.new' (w.alloc (.cells #[.int .u8 k, .int .i64 n, .string s, .slice A l.length cap, .int .i64 r] 27)) 27 #[.int .u8 k', .int .i64 n', .string s', .slice A' l'.length cap', .int .i64 r'] (g := w.heap.size + 1) (by simp)).fr fr2 (fun h => h)
        have hF2 : Fr No w w2 := (((Fr.refl No w).alloc _).alloc _).trans fr2
        have hb2 := hb.no hF2 hh
        have hsz := fr2.size
        simp only [World.size_alloc] at hsz
        obtain ⟨c0, c1, c2, c3, c4, cf⟩ := b1.cells5
        have HF2 := hide hF2
        have hs1 : w.heap.size + 1 < w2.heap.size := by omega
        clear b1 ha hb hA
        go_wp2_with fail
        refine (hB _ (hb2.no ((Fr.refl No w2).alloc _) (by omega)) (by simp; omega)).mono ?_
        rintro e w3 ⟨h, -⟩
        obtain ⟨m2, rfl, hk2, fr3⟩ := h HN.out
        have hi2 := hk2.iface
        obtain ⟨t2, x2, rfl⟩ := hi2
        clear h
        have hF3 := (HF2.out.alloc (.cells #[.iface t1 x1] 45)).trans fr3
        have HF3 := hide hF3
        have bm1 := (Blk.new w2 45 #[.iface t1 x1]).fr fr3 (fun h => h)
        have hq := bm1.lt
        have HB1 := hide bm1
        clear hF3 bm1
        go_wp2_with fail
        have bm1 := HB1.out
        have e1 := (((bm1.alloc (.cells #[.iface t2 x2] 45)).alloc (.cells #[.int .u8 0] 30)).alloc (.cells #[.bool false] 4))
        have e2 := (((Blk.new w3 45 #[.iface t2 x2]).alloc (.cells #[.int .u8 0] 30)).alloc (.cells #[.bool false] 4))
        have e3 := ((Blk.new' (w3.alloc (.cells #[.iface t2 x2] 45)) 30 #[.int .u8 0] (g := w3.heap.size + 1) (by simp)).alloc (.cells #[.bool false] 4))
        have hsz3 := hF2.size
        rcases eql_marks hk1 hk2 hd (((w3.alloc (.cells #[.iface t2 x2] 45)).alloc (.cells #[.int .u8 0] 30)).alloc (.cells #[.bool false] 4)) with ⟨hc, he⟩ | ⟨hc, he⟩ | ⟨hc, s1, he⟩
        · have hcall := cmp1_ret w2.heap.size w3.heap.size (w3.heap.size + 1) t1 t2 x1 x2 false _ (e1.cell 0) (e2.cell 0) (e3.cell 0) (e3.frozen 0) he
          simp only [Bool.false_eq_true, if_false] at hcall
          refine (met_ret _ _ _ hcall (Blk.new' _ _ _ (by simp))).mono ?_
          rintro e w4 ⟨rfl, rfl⟩
          have g3 := e3.far (p := ⟨w3.heap.size + 1 + 1, 0, none⟩) (by simp) (.bool false)
          have d0 := g3.cell 0
          simp only [List.getElem?_toArray, List.getElem?_cons_zero] at d0
          have HC := hide hc
          have hz3 := hF2.size
          have hz4 := fr3.size
          simp at hz4
          clear hc he hcall
          go_wp2
          go_ret2
          exact ⟨by rw [H1.out, H2.out, HC.out]; rfl, (by repeat (first | with_reducible exact HF3.out | with_reducible refine Fr.setNew ?_ (by simp; omega) _ | with_reducible refine Fr.alloc ?_ _))⟩
        · have hcall := cmp1_ret w2.heap.size w3.heap.size (w3.heap.size + 1) t1 t2 x1 x2 true _ (e1.cell 0) (e2.cell 0) (e3.cell 0) (e3.frozen 0) he
          simp only [if_true] at hcall
          refine (met_ret _ _ _ hcall ((Blk.new' _ _ _ (by simp)).far (p := ⟨w3.heap.size + 1, 0, none⟩) (by simp) _)).mono ?_
          rintro e w4 ⟨rfl, rfl⟩
          have g3 := (e3.set_ 0 (.int .u8 1)).far (p := ⟨w3.heap.size + 1 + 1, 0, none⟩) (by simp) (.bool false)
          have d0 := g3.cell 0
          simp only [List.setIfInBounds_toArray, List.set_cons_zero, List.getElem?_toArray, List.getElem?_cons_zero] at d0
          have HC := hide hc
          have hz3 := hF2.size
          have hz4 := fr3.size
          simp at hz4
          clear hc he hcall
          go_wp2
          go_ret2
          exact ⟨by rw [H1.out, H2.out, HC.out]; rfl, (by repeat (first | with_reducible exact HF3.out | with_reducible refine Fr.setNew ?_ (by simp; omega) _ | with_reducible refine Fr.alloc ?_ _))⟩
        · have hcall := cmp1_panic w2.heap.size w3.heap.size (w3.heap.size + 1) t1 t2 x1 x2 s1 _ (e1.cell 0) (e2.cell 0) he
          refine (met_panic _ _ _ _ _ assert10 hcall (Blk.new' _ _ _ (by simp))).mono ?_
          rintro e w4 ⟨rfl, rfl⟩
          have HC := hide hc
          have hz3 := hF2.size
          have hz4 := fr3.size
          simp at hz4
          clear hc he hcall
          go_wp2
          go_ret2
          exact ⟨by rw [H1.out, H2.out, HC.out]; rfl, (by repeat (first | with_reducible exact HF3.out | with_reducible refine Fr.setNew ?_ (by simp; omega) _ | with_reducible refine Fr.alloc ?_ _))⟩

end Go.Proofs.Ytihjmipmjogpoaa

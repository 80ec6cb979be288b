/- Texts joined: B5, K, K2, K3, V2, R0, R1, E1. -/
import Derived.Test.YtihjmipmjogpoaaJn2
import Derived.RangeFuncRecord
import Derived.MapKept
/- brand.Compare: what the comparison of two values' marks comes to. -/
namespace Go.Proofs.Ytihjmipmjogpoaa
open Go.RowKit

/-- Compare's answer. -/
def V.ans (u v : V) : Nat := if (u.may && v.may) = true then u.cmp v else 0
def V.err2 (u v : V) : Int := if (u.may && v.may) = true then 0 else 2

theorem may_dep {v : V} (h : v.may = true) : v.dep ≤ 16 := by
  simp [V.may, V.fits] at h; omega

set_option maxRecDepth 10000 in
set_option maxHeartbeats 2000000 in
theorem Compare_any (a b : T) (w : World) (lo hi : Nat) (ha : a.In w lo hi) (hb : b.In w lo hi) (hh : hi ≤ w.heap.size) :
    Calls Try.prog 20 #[a.val, b.val] w fun e w' => e = .returned (.tuple #[.int .u8 ((a.v.ans b.v : Nat) : Int), .int .i64 (a.v.err2 b.v)]) ∧ Fr No w w' := by
  have hA := fun w' h h' => Of_any a w' lo hi h h'
  have hB := fun w' h h' => Of_any b w' lo hi h h'
  cases a with
  | mk k n s A cap l r =>
  cases b with
  | mk k' n' s' A' cap' l' r' =>
    rw [T.val_mk] at *
    rw [T.val_mk] at *
    generalize hu : (T.mk k n s A cap l r).v = u at *
    generalize hv : (T.mk k' n' s' A' cap' l' r').v = v at *
    have HU := hide hu
    have HV := hide hv
    clear hu hv
    cases hmu : u.may
    · have h1 : u.ans v = 0 := by simp [V.ans, hmu]
      have h2 : u.err2 v = 2 := by simp [V.err2, hmu]
      have H1 := hide h1
      have H2 := hide h2
      have HM := hide hmu
      clear h1 h2 hmu
      go_enter Try.func20, Try.ntmps20
      go_wp2_with fail
      refine (hA _ (ha.no (((Fr.refl No w).alloc _).alloc _) hh) (by simp; omega)).mono ?_
      rintro e w2 ⟨-, h⟩
      obtain ⟨rfl, fr2⟩ := h HM.out
      clear h
      have b1 := (Blk.new' (w.alloc (.cells #[.int .u8 k, .int .i64 n, .string s, .slice A l.length cap, .int .i64 r] 27)) 27 #[.int .u8 k', .int .i64 n', .string s', .slice A' l'.length cap', .int .i64 r'] (g := w.heap.size + 1) (by simp)).fr fr2 (fun h => h)
      have hF2 : Fr No w w2 := (((Fr.refl No w).alloc _).alloc _).trans fr2
      have hb2 := hb.no hF2 hh
      have hsz := fr2.size
      simp only [World.size_alloc] at hsz
      obtain ⟨c0, c1, c2, c3, c4, cf⟩ := b1.cells5
      have HF2 := hide hF2
      have hs1 : w.heap.size + 1 < w2.heap.size := by omega
      clear b1 ha hb hA
      go_wp2_with fail
      refine (hB _ (hb2.no ((Fr.refl No w2).alloc _) (by omega)) (by simp; omega)).mono ?_
      rintro e w3 ⟨hy, hn⟩
      have h3 : ∃ m' f, e = .returned (.tuple #[m', .int .i64 f]) ∧ Fr No (w2.alloc (.cells #[.nilIface] 45)) w3 ∧ (m' = .nilIface ∨ ∃ t x, m' = .iface t x) := by
        cases hmv : v.may
        · obtain ⟨rfl, fr⟩ := hn hmv; exact ⟨_, _, rfl, fr, .inl rfl⟩
        · obtain ⟨m, rfl, hk, fr⟩ := hy hmv; exact ⟨_, _, rfl, fr, .inr hk.iface⟩
      clear hy hn
      obtain ⟨m', f, rfl, fr3, hm'⟩ := h3
      have hF3 := (HF2.out.alloc (.cells #[.nilIface] 45)).trans fr3
      have HF3 := hide hF3
      clear hF3
      rcases hm' with rfl | ⟨t, x, rfl⟩
      all_goals
        go_wp2
        go_ret2
        exact ⟨by rw [H1.out, H2.out]; rfl, HF3.out.alloc _⟩
    · cases hmv : v.may
      · have h1 : u.ans v = 0 := by simp [V.ans, hmv]
        have h2 : u.err2 v = 2 := by simp [V.err2, hmv]
        have H1 := hide h1
        have H2 := hide h2
        have HM := hide hmu
        have HN := hide hmv
        clear h1 h2 hmu hmv
        go_enter Try.func20, Try.ntmps20
        go_wp2_with fail
        refine (hA _ (ha.no (((Fr.refl No w).alloc _).alloc _) hh) (by simp; omega)).mono ?_
        rintro e w2 ⟨h, -⟩
        obtain ⟨m1, rfl, hk1, fr2⟩ := h HM.out
        obtain ⟨t1, x1, rfl⟩ := hk1.iface
        clear h
        have b1 := (Blk.new' (w.alloc (.cells #[.int .u8 k, .int .i64 n, .string s, .slice A l.length cap, .int .i64 r] 27)) 27 #[.int .u8 k', .int .i64 n', .string s', .slice A' l'.length cap', .int .i64 r'] (g := w.heap.size + 1) (by simp)).fr fr2 (fun h => h)
        have hF2 : Fr No w w2 := (((Fr.refl No w).alloc _).alloc _).trans fr2
        have hb2 := hb.no hF2 hh
        have hsz := fr2.size
        simp only [World.size_alloc] at hsz
        obtain ⟨c0, c1, c2, c3, c4, cf⟩ := b1.cells5
        have HF2 := hide hF2
        have hs1 : w.heap.size + 1 < w2.heap.size := by omega
        clear b1 ha hb hA
        go_wp2_with fail
        refine (hB _ (hb2.no ((Fr.refl No w2).alloc _) (by omega)) (by simp; omega)).mono ?_
        rintro e w3 ⟨-, h⟩
        obtain ⟨rfl, fr3⟩ := h HN.out
        clear h
        have hF3 := (HF2.out.alloc (.cells #[.iface t1 x1] 45)).trans fr3
        have HF3 := hide hF3
        clear hF3
        go_wp2
        go_ret2
        exact ⟨by rw [H1.out, H2.out]; rfl, HF3.out.alloc _⟩
      · have h1 : u.ans v = u.cmp v := by simp [V.ans, hmu, hmv]
        have h2 : u.err2 v = 0 := by simp [V.err2, hmu, hmv]
        have hd := may_dep hmu
        have H1 := hide h1
        have H2 := hide h2
        have HM := hide hmu
        have HN := hide hmv
        have hmf : ∀ (fn : Fn) (first cap : Array Value) (w : World), (Instr.makeFunc fn first cap).run Try.prog w = .ok (.func fn first cap) w := fun _ _ _ _ => rfl
        clear h1 h2 hmu hmv
        go_enter Try.func20, Try.ntmps20
        go_wp2_with fail
        refine (hA _ (ha.no (((Fr.refl No w).alloc _).alloc _) hh) (by simp; omega)).mono ?_
        rintro e w2 ⟨h, -⟩
        obtain ⟨m1, rfl, hk1, fr2⟩ := h HM.out
        have hi1 := hk1.iface
        obtain ⟨t1, x1, rfl⟩ := hi1
        clear h
        have b1 := (Blk.new' (w.alloc (.cells #[.int .u8 k, .int .i64 n, .string s, .slice A l.length cap, .int .i64 r] 27)) 27 #[.int .u8 k', .int .i64 n', .string s', .slice A' l'.length cap', .int .i64 r'] (g := w.heap.size + 1) (by simp)).fr fr2 (fun h => h)
        have hF2 : Fr No w w2 := (((Fr.refl No w).alloc _).alloc _).trans fr2
        have hb2 := hb.no hF2 hh
        have hsz := fr2.size
        simp only [World.size_alloc] at hsz
        obtain ⟨c0, c1, c2, c3, c4, cf⟩ := b1.cells5
        have HF2 := hide hF2
        have hs1 : w.heap.size + 1 < w2.heap.size := by omega
        clear b1 ha hb hA
        go_wp2_with fail
        refine (hB _ (hb2.no ((Fr.refl No w2).alloc _) (by omega)) (by simp; omega)).mono ?_
        rintro e w3 ⟨h, -⟩
        obtain ⟨m2, rfl, hk2, fr3⟩ := h HN.out
        have hi2 := hk2.iface
        obtain ⟨t2, x2, rfl⟩ := hi2
        clear h
        have hF3 := (HF2.out.alloc (.cells #[.iface t1 x1] 45)).trans fr3
        have HF3 := hide hF3
        have bm1 := (Blk.new w2 45 #[.iface t1 x1]).fr fr3 (fun h => h)
        have hq := bm1.lt
        have HB1 := hide bm1
        clear hF3 bm1
        go_wp2_with fail
        have bm1 := HB1.out
        have e1 := (((bm1.alloc (.cells #[.iface t2 x2] 45)).alloc (.cells #[.int .u8 0] 30)).alloc (.cells #[.bool false] 4))
        have e2 := (((Blk.new w3 45 #[.iface t2 x2]).alloc (.cells #[.int .u8 0] 30)).alloc (.cells #[.bool false] 4))
        have e3 := ((Blk.new' (w3.alloc (.cells #[.iface t2 x2] 45)) 30 #[.int .u8 0] (g := w3.heap.size + 1) (by simp)).alloc (.cells #[.bool false] 4))
        have hsz3 := hF2.size
        rcases eql_marks hk1 hk2 hd (((w3.alloc (.cells #[.iface t2 x2] 45)).alloc (.cells #[.int .u8 0] 30)).alloc (.cells #[.bool false] 4)) with ⟨hc, he⟩ | ⟨hc, he⟩ | ⟨hc, s1, he⟩
        · have hcall := cmp1_ret w2.heap.size w3.heap.size (w3.heap.size + 1) t1 t2 x1 x2 false _ (e1.cell 0) (e2.cell 0) (e3.cell 0) (e3.frozen 0) he
          simp only [Bool.false_eq_true, if_false] at hcall
          refine (met_ret _ _ _ hcall (Blk.new' _ _ _ (by simp))).mono ?_
          rintro e w4 ⟨rfl, rfl⟩
          have g3 := e3.far (p := ⟨w3.heap.size + 1 + 1, 0, none⟩) (by simp) (.bool false)
          have d0 := g3.cell 0
          simp only [List.getElem?_toArray, List.getElem?_cons_zero] at d0
          have HC := hide hc
          have hz3 := hF2.size
          have hz4 := fr3.size
          simp at hz4
          clear hc he hcall
          go_wp2
          go_ret2
          exact ⟨by rw [H1.out, H2.out, HC.out]; rfl, (by repeat (first | with_reducible exact HF3.out | with_reducible refine Fr.setNew ?_ (by simp; omega) _ | with_reducible refine Fr.alloc ?_ _))⟩
        · have hcall := cmp1_ret w2.heap.size w3.heap.size (w3.heap.size + 1) t1 t2 x1 x2 true _ (e1.cell 0) (e2.cell 0) (e3.cell 0) (e3.frozen 0) he
          simp only [if_true] at hcall
          refine (met_ret _ _ _ hcall ((Blk.new' _ _ _ (by simp)).far (p := ⟨w3.heap.size + 1, 0, none⟩) (by simp) _)).mono ?_
          rintro e w4 ⟨rfl, rfl⟩
          have g3 := (e3.set_ 0 (.int .u8 1)).far (p := ⟨w3.heap.size + 1 + 1, 0, none⟩) (by simp) (.bool false)
          have d0 := g3.cell 0
          simp only [List.setIfInBounds_toArray, List.set_cons_zero, List.getElem?_toArray, List.getElem?_cons_zero] at d0
          have HC := hide hc
          have hz3 := hF2.size
          have hz4 := fr3.size
          simp at hz4
          clear hc he hcall
          go_wp2
          go_ret2
          exact ⟨by rw [H1.out, H2.out, HC.out]; rfl, (by repeat (first | with_reducible exact HF3.out | with_reducible refine Fr.setNew ?_ (by simp; omega) _ | with_reducible refine Fr.alloc ?_ _))⟩
        · have hcall := cmp1_panic w2.heap.size w3.heap.size (w3.heap.size + 1) t1 t2 x1 x2 s1 _ (e1.cell 0) (e2.cell 0) he
          refine (met_panic _ _ _ _ _ assert10 hcall (Blk.new' _ _ _ (by simp))).mono ?_
          rintro e w4 ⟨rfl, rfl⟩
          have HC := hide hc
          have hz3 := hF2.size
          have hz4 := fr3.size
          simp at hz4
          clear hc he hcall
          go_wp2
          go_ret2
          exact ⟨by rw [H1.out, H2.out, HC.out]; rfl, (by repeat (first | with_reducible exact HF3.out | with_reducible refine Fr.setNew ?_ (by simp; omega) _ | with_reducible refine Fr.alloc ?_ _))⟩

end Go.Proofs.Ytihjmipmjogpoaa

/- Whether a mark can be a key: what Go's own check of a map's key comes to. -/
namespace Go.Proofs.Ytihjmipmjogpoaa
open Go.RowKit

/-- No row in it. -/
def V.keys : V → Bool
  | .mk k _ _ l _ => if k = 3 then decide (l.length = 2) && (l.map V.keys).all id else true
termination_by v => v

theorem V.keys_mk (k n : Int) (s : ByteArray) (l : List V) (r : Int) : (V.mk k n s l r).keys = if k = 3 then decide (l.length = 2) && l.all V.keys else true := by
  rw [V.keys, List.all_map]; rfl

/-- What a check of a key comes to: it passes, or panics of Go's own. -/
def KeyRes (res : Result Unit) (b : Bool) (w : World) : Prop :=
  (b = true ∧ res = .ok () w) ∨ (b = false ∧ ∃ ty pv, (ty = 10 ∨ ty = 19) ∧ res = .halt (.panic (.iface ty pv)) w)

theorem runtimePanic_errorU (m : String) (w : World) : (runtimePanic (α := Unit) (.error m)).run Try.prog w = .halt (.panic (.iface 10 (strVal m))) w := by
  have h : Try.prog.rt.errorString = 10 := by kernel_rfl
  simp [runtimePanic, run_program, goPanic, h]

theorem runtimePanic_unhash (t : TypeId) (w : World) : (runtimePanic (α := Unit) (.unhashable t)).run Try.prog w = .halt (.panic (.iface 19 (.agg #[typeHandle Try.prog t]))) w := by
  have h : Try.prog.rt.unhashableTypeError = 19 := by kernel_rfl
  simp [runtimePanic, run_program, goPanic, h]

theorem key_ok {d : Nat} {a : TypeId} {x : Value} {e : Bool} {w : World} (h : (Try.prog.info? a).map (·.comparable) = some true) :
    (Instr.checkKey e (d + 1) 45 (.iface a x)).run Try.prog w = (Instr.checkKey e d a x).run Try.prog w := by
  obtain ⟨ms, h45⟩ := ms45
  obtain ⟨i, hi, hc⟩ := ty_comparable a true h
  simp [Instr.checkKey, run_underlying h45, typeInfo, hi, hc]

theorem key_row {d : Nat} {x : Value} {e : Bool} {w : World} : ∃ ty pv, (ty = 10 ∨ ty = 19) ∧ (Instr.checkKey e (d + 1) 45 (.iface 183 x)).run Try.prog w = .halt (.panic (.iface ty pv)) w := by
  obtain ⟨ms, h45⟩ := ms45
  obtain ⟨i, hi, hc⟩ := ty_comparable 183 false cmp183
  cases e
  · refine ⟨10, strVal ("hash of unhashable type " ++ "brand.row"), .inl rfl, ?_⟩
    simp [Instr.checkKey, run_underlying h45, typeInfo, hi, hc, typeStr_row, runtimePanic_errorU]
  · refine ⟨19, .agg #[typeHandle Try.prog 183], .inr rfl, ?_⟩
    simp [Instr.checkKey, run_underlying h45, typeInfo, hi, hc, runtimePanic_unhash]

theorem key_pair {d : Nat} {x y : Value} {e : Bool} {w : World} {b1 b2 : Bool} (hx : ∃ t v, x = .iface t v) (hy : ∃ t v, y = .iface t v)
    (h1 : KeyRes ((Instr.checkKey e d 45 x).run Try.prog w) b1 w) (h2 : KeyRes ((Instr.checkKey e d 45 y).run Try.prog w) b2 w) :
    KeyRes ((Instr.checkKey e (d + 1) 180 (.agg #[x, y])).run Try.prog w) (b1 && b2) w := by
  obtain ⟨t1, v1, rfl⟩ := hx
  obtain ⟨t2, v2, rfl⟩ := hy
  have e : (Instr.checkKey e (d + 1) 180 (.agg #[.iface t1 v1, .iface t2 v2])).run Try.prog w =
      ((Instr.checkKey e d 45 (.iface t1 v1)).run Try.prog w).andThen fun _ w' => (Instr.checkKey e d 45 (.iface t2 v2)).run Try.prog w' := by
    simp [Instr.checkKey, run_underlying Try.underlying180, go_sem]
  rw [e]
  rcases h1 with ⟨rfl, h1⟩ | ⟨rfl, ty, pv, ht, h1⟩
  · rw [h1]
    simp only [Result.andThen_ok, Bool.true_and]
    exact h2
  · rw [h1]
    exact .inr ⟨by simp, ty, pv, ht, rfl⟩

theorem key_int {d : Nat} {n : Int} {e : Bool} {w : World} : (Instr.checkKey e (d + 1) 176 (.int .i64 n)).run Try.prog w = .ok () w := by
  simp [Instr.checkKey, run_underlying Try.underlying176]
theorem key_text {d : Nat} {s : ByteArray} {e : Bool} {w : World} : (Instr.checkKey e (d + 1) 177 (.string s)).run Try.prog w = .ok () w := by
  simp [Instr.checkKey, run_underlying Try.underlying177]
theorem key_ref {d : Nat} {n : Int} {e : Bool} {w : World} : (Instr.checkKey e (d + 1) 178 (.int .i64 n)).run Try.prog w = .ok () w := by
  simp [Instr.checkKey, run_underlying Try.underlying178]
theorem key_none {d : Nat} {e : Bool} {w : World} : (Instr.checkKey e (d + 1) 185 (.agg #[])).run Try.prog w = .ok () w := by
  simp [Instr.checkKey, run_underlying Try.underlying185]

theorem run_key (u : V) : ∀ (d : Nat) (m : Value) (e : Bool) (w : World), 2 * u.dep + 2 ≤ d → IsMk u m → KeyRes ((Instr.checkKey e d 45 m).run Try.prog w) u.keys w := by
  induction u using V.ind with
  | h k n s l r ih =>
    intro d m e w hd h1
    rw [IsMk_mk] at h1
    rw [V.keys_mk]
    obtain ⟨d, rfl⟩ : ∃ e, d = e + 2 := ⟨d - 2, by omega⟩
    by_cases h3 : k = 3
    · subst h3
      rw [if_pos rfl]
      have e1 : listMk (l.map IsMk) m := by simpa [mkOf] using h1
      by_cases hl : l.length = 2
      · obtain ⟨a, b, rfl⟩ := at2 hl
        obtain ⟨x, y, rfl, hx, hy⟩ := e1
        rw [key_ok cmp180]
        have hda : a.dep ≤ top [a.dep, b.dep] := le_top (by simp)
        have hdb : b.dep ≤ top [a.dep, b.dep] := le_top (by simp)
        rw [V.dep_mk, if_pos rfl] at hd
        simp only [List.map_cons, List.map_nil] at hd
        have g := key_pair hx.iface hy.iface (ih a (by simp) d x e w (by omega) hx) (ih b (by simp) d y e w (by omega) hy)
        simpa using g
      · rw [listMk_row (by simpa using hl)] at e1
        obtain ⟨A1, n1, c1, rfl⟩ := e1
        obtain ⟨ty, pv, ht, hr⟩ := key_row (d := d + 1) (x := .agg #[.slice A1 n1 c1]) (e := e) (w := w)
        exact .inr ⟨by simp [hl], ty, pv, ht, hr⟩
    · rw [if_neg h3]
      refine .inl ⟨rfl, ?_⟩
      unfold mkOf at h1
      by_cases k1 : k = 1
      · rw [if_pos k1] at h1; subst h1; rw [key_ok cmp176]; exact key_int
      rw [if_neg k1] at h1
      by_cases k2 : k = 2
      · rw [if_pos k2] at h1; subst h1; rw [key_ok cmp177]; exact key_text
      rw [if_neg k2] at h1
      by_cases k4 : k = 4
      · rw [if_pos k4] at h1; subst h1; rw [key_ok cmp178]; exact key_ref
      rw [if_neg k4, if_neg h3] at h1
      subst h1; rw [key_ok cmp185]; exact key_none

end Go.Proofs.Ytihjmipmjogpoaa

/- Maps whose keys are marks: what a look-up, a store, a deletion comes to. -/
namespace Go.Proofs.Ytihjmipmjogpoaa
open Go.RowKit

theorem get_map {W : World} {B : Nat} {es : Array MapEntry} {c : Nat} (h : W.heap[B]? = some (.map es c)) : (getObj B).run Try.prog W = .ok (.map es c) W := by
  simp [getObj, Sem.run, h]

theorem set_map {W : World} {B : Nat} {es : Array MapEntry} {c : Nat} (o : Obj) (h : W.heap[B]? = some (.map es c)) : (setObj B o).run Try.prog W = .ok () (W.putObj B o) := by
  simp [setObj, Sem.run, h, World.putObj]

/-- Where a value stands in a list: the first one that its mark is equal to. -/
def pos (u : V) : List V → Option Nat
  | [] => none
  | v :: vs => if u.cmp v = 1 then some 0 else (pos u vs).map (· + 1)

theorem pos_lt {u : V} : ∀ {vs : List V} {i : Nat}, pos u vs = some i → i < vs.length
  | [], i, h => by simp [pos] at h
  | v :: vs, i, h => by
    unfold pos at h
    by_cases hc : u.cmp v = 1
    · rw [if_pos hc] at h; simp at h; subst h; simp
    · rw [if_neg hc] at h
      simp at h
      obtain ⟨j, hj, rfl⟩ := h
      have := pos_lt hj
      simp; omega

/-- The keys of a map's entries are the marks of some values. -/
def KeysAre (es : List MapEntry) (vs : List V) : Prop := es.length = vs.length ∧ ∀ (i : Nat) (e : MapEntry) (v : V), es[i]? = some e → vs[i]? = some v → IsMk v e.key

theorem KeysAre.cons {e : MapEntry} {es : List MapEntry} {v : V} {vs : List V} (h : KeysAre (e :: es) (v :: vs)) : IsMk v e.key ∧ KeysAre es vs :=
  ⟨h.2 0 e v rfl rfl, by simpa using h.1, fun i e' v' he hv => h.2 (i + 1) e' v' he hv⟩

/-- What is found. -/
def found (es : List MapEntry) (i0 : Nat) : Option Nat → Option (Nat × Value)
  | none => none
  | some i => (es[i]?).map fun e => (i0 + i, e.val)

theorem run_findAsking (u : V) (m : Value) (hm : IsMk u m) (hd : u.dep ≤ 16) (w : World) : ∀ (es : List MapEntry) (vs : List V) (i0 : Nat), KeysAre es vs → (∀ v ∈ vs, u.cmp v ≠ 2) →
    (Instr.findAsking 45 m es i0).run Try.prog w = .ok (found es i0 (pos u vs)) w
  | [], [], i0, _, _ => by simp [Instr.findAsking, pos, found]
  | [], v :: vs, i0, h, _ => by have := h.1; simp at this
  | e :: es, [], i0, h, _ => by have := h.1; simp at this
  | e :: es, v :: vs, i0, h, hk => by
    obtain ⟨hv, hr⟩ := h.cons
    have ih := run_findAsking u m hm hd w es vs (i0 + 1) hr fun v hv => hk v (by simp [hv])
    have heq := run_eq u v 10000 m e.key w (by omega) hm hv
    unfold Instr.findAsking
    simp only [Sem.run_bind, Op.equal, Op.maxDepth]
    rcases heq with ⟨h0, hq⟩ | ⟨h1, hq⟩ | ⟨h2, _⟩
    · rw [hq]
      simp only [Result.andThen_ok, Bool.false_eq_true, if_false, ih, pos]
      rw [if_neg (by omega)]
      cases hp : pos u vs with
      | none => rfl
      | some i => simp [found]; rw [show i0 + 1 + i = i0 + (i + 1) from by omega]
    · rw [hq]
      simp [pos, h1, found]
    · exact absurd h2 (hk v (by simp))

theorem run_findKey (u : V) (m : Value) (hm : IsMk u m) (hd : u.dep ≤ 16) (w : World) (es : List MapEntry) (vs : List V) (h : KeysAre es vs) (hk : ∀ v ∈ vs, u.cmp v ≠ 2) :
    (Instr.findKey 45 m es).run Try.prog w = .ok (found es 0 (pos u vs)) w := by
  obtain ⟨ms, h45⟩ := ms45
  unfold Instr.findKey
  simp only [Sem.run_bind, run_underlying h45, Result.andThen_ok]
  cases es with
  | nil =>
    have : vs = [] := by have := h.1; simp at this; exact List.eq_nil_of_length_eq_zero this.symm
    subst this
    simp [Instr.findNow, pos, found]
  | cons e es =>
    have : Instr.findNow (.interface ms) m (e :: es) 0 = none := by simp [Instr.findNow, Instr.sameNow]
    rw [this]
    exact run_findAsking u m hm hd w _ vs 0 h hk

/-- A look-up. -/
theorem run_lookup_mark {t el : TypeId} {z : Value} (ht : Try.prog.underlying t = some (.map 45 el)) (w : World) (hz : (zeroValue el).run Try.prog w = .ok z w) (u : V) (m : Value) (hm : IsMk u m) (hd : u.dep ≤ 16) (hkey : u.keys = true) (c : Bool)
    {B : Nat} {es : Array MapEntry} {cl : Nat} (hB : w.heap[B]? = some (.map es cl)) {vs : List V} (h : KeysAre es.toList vs) (hk : ∀ v ∈ vs, u.cmp v ≠ 2) :
    (Instr.lookup t (.map (some B)) m c).run Try.prog w =
      .ok (let r := match found es.toList 0 (pos u vs) with | some (_, v) => (v, true) | none => (z, false); if c then .tuple #[r.1, .bool r.2] else r.1) w := by
  have hc := run_key u 10000 m es.isEmpty w (by omega) hm
  rcases hc with ⟨_, hc⟩ | ⟨h0, _⟩
  · unfold Instr.lookup
    simp only [Sem.run_bind, run_underlying ht, Result.andThen_ok, get_map hB, Sem.run_pure, hc, run_findKey u m hm hd w es.toList vs h hk]
    cases found es.toList 0 (pos u vs) with
    | none => cases c <;> simp [hz]
    | some p => cases c <;> simp
  · rw [hkey] at h0; cases h0

/-- A look-up by a mark that can't be a key. -/
theorem run_lookup_row {t el : TypeId} (ht : Try.prog.underlying t = some (.map 45 el)) (w : World) (u : V) (m : Value) (hm : IsMk u m) (hd : u.dep ≤ 16) (hkey : u.keys = false) (c : Bool)
    {B : Nat} {es : Array MapEntry} {cl : Nat} (hB : w.heap[B]? = some (.map es cl)) :
    ∃ ty pv, (ty = 10 ∨ ty = 19) ∧ (Instr.lookup t (.map (some B)) m c).run Try.prog w = .halt (.panic (.iface ty pv)) w := by
  have hc := run_key u 10000 m es.isEmpty w (by omega) hm
  rcases hc with ⟨h0, _⟩ | ⟨_, ty, pv, hty, hc⟩
  · rw [hkey] at h0; cases h0
  · refine ⟨ty, pv, hty, ?_⟩
    unfold Instr.lookup
    simp only [Sem.run_bind, run_underlying ht, Result.andThen_ok, get_map hB, Sem.run_pure, hc]
    rfl

/-- The entry of a mark in an empty map. -/
theorem run_mapEntry_empty {t el : TypeId} {z : Value} (ht : Try.prog.underlying t = some (.map 45 el)) (w : World) (hz : (zeroValue el).run Try.prog w = .ok z w) (u : V) (m : Value) (hm : IsMk u m) (hd : u.dep ≤ 16) (hkey : u.keys = true)
    {B : Nat} (hB : w.heap[B]? = some (.map #[] 0)) :
    (Instr.mapEntry t (.map (some B)) m).run Try.prog w = .ok (.tuple #[z, .int .i64 0]) (w.putObj B (.map #[{ key := m, val := z, born := 0 }] 1)) := by
  have hc := run_key u 10000 m false w (by omega) hm
  rcases hc with ⟨_, hc⟩ | ⟨h0, _⟩
  · have hf := run_findKey u m hm hd w [] [] ⟨rfl, by simp⟩ (by simp)
    unfold Instr.mapEntry
    simp only [Sem.run_bind, run_underlying ht, Result.andThen_ok, get_map hB, Sem.run_pure, hc, hf, hz, pos, found, set_map _ hB]
    rfl
  · rw [hkey] at h0; cases h0

theorem run_mapEntry_row {t el : TypeId} (ht : Try.prog.underlying t = some (.map 45 el)) (w : World) (u : V) (m : Value) (hm : IsMk u m) (hd : u.dep ≤ 16) (hkey : u.keys = false)
    {B : Nat} {es : Array MapEntry} {cl : Nat} (hB : w.heap[B]? = some (.map es cl)) :
    ∃ ty pv, (ty = 10 ∨ ty = 19) ∧ (Instr.mapEntry t (.map (some B)) m).run Try.prog w = .halt (.panic (.iface ty pv)) w := by
  have hc := run_key u 10000 m false w (by omega) hm
  rcases hc with ⟨h0, _⟩ | ⟨_, ty, pv, hty, hc⟩
  · rw [hkey] at h0; cases h0
  · refine ⟨ty, pv, hty, ?_⟩
    unfold Instr.mapEntry
    simp only [Sem.run_bind, run_underlying ht, Result.andThen_ok, get_map hB, hc]
    rfl

theorem run_entryStore_one (t : TypeId) (w : World) (m z v : Value) {B : Nat} (hB : w.heap[B]? = some (.map #[{ key := m, val := z, born := 0 }] 1)) :
    (Instr.entryStore t (.map (some B)) (.int .i64 0) v).run Try.prog w = .ok () (w.putObj B (.map #[{ key := m, val := v, born := 0 }] 1)) := by
  unfold Instr.entryStore
  simp [get_map hB, asInt, asIntOf]
  exact set_map _ hB

end Go.Proofs.Ytihjmipmjogpoaa

/- key, Keys: whether a value's mark can be a key. -/
namespace Go.Proofs.Ytihjmipmjogpoaa
open Go.RowKit

theorem keys_ne2 (u : V) : u.keys = true → ∀ v, u.cmp v ≠ 2 := by
  induction u using V.ind with
  | h k n s l r ih =>
    intro hk v
    cases v with
    | mk k' n' s' l' r' =>
      rw [V.cmp_mk, cmpOf]
      by_cases hs : shp k (l.map V.cmp).length = shp k' l'.length
      · rw [if_pos hs]
        by_cases h3 : k = 3
        · subst h3
          rw [V.keys_mk, if_pos rfl] at hk
          simp at hk
          obtain ⟨hl, hall⟩ := hk
          obtain ⟨a, b, rfl⟩ := at2 hl
          rw [if_pos rfl]
          have hl' : l'.length = 2 := by
            unfold shp at hs
            by_cases h3' : k' = 3 <;> by_cases hl' : l'.length = 2 <;> simp [h3', hl'] at hs ⊢ <;> (repeat' split at hs) <;> omega
          obtain ⟨a', b', rfl⟩ := at2 hl'
          have ha := ih a (by simp) (hall a (by simp)) a'
          have hb := ih b (by simp) (hall b (by simp)) b'
          show (if a.cmp a' = 1 then b.cmp b' else a.cmp a') ≠ 2
          split <;> assumption
        · rw [if_neg h3]; split <;> decide
      · rw [if_neg hs]; decide

theorem cmp_self (u : V) : u.cmp u = if u.keys = true then 1 else 2 := by
  induction u using V.ind with
  | h k n s l r ih =>
    rw [V.cmp_mk, cmpOf]
    simp only [List.length_map, if_pos]
    rw [V.keys_mk]
    by_cases h3 : k = 3
    · subst h3
      simp only [if_pos]
      by_cases hl : l.length = 2
      · obtain ⟨a, b, rfl⟩ := at2 hl
        have ha := ih a (by simp)
        have hb := ih b (by simp)
        show (if a.cmp a = 1 then b.cmp b else a.cmp a) = _
        rw [ha, hb]
        cases hA : a.keys <;> cases hB : b.keys <;> simp [hA, hB]
      · have hp : pairCmp (l.map V.cmp) l = 2 := by
          match l, hl with
          | [], _ => rfl
          | [a], _ => rfl
          | [a, b], hl => simp at hl
          | a :: b :: c :: l, _ => rfl
        rw [hp]; simp [hl]
    · simp [h3, leafEq]

theorem zero_int (w : World) : (zeroValue 3).run Try.prog w = .ok (.int .i64 0) w := by kernel_rfl

theorem Fr.putObj {S : Nat → Prop} {a w : World} (h : Fr S a w) {B : Nat} (hB : B < a.heap.size → S B) (o : Obj) : Fr S a (w.putObj B o) :=
  ⟨h.os, h.tape, h.output, by simpa using h.size, fun i hi hn => (World.putObj_heap_other (by rintro rfl; exact hn (hB hi))).trans (h.block i hi hn)⟩

set_option maxRecDepth 10000 in
set_option maxHeartbeats 1000000 in
theorem key1_ok (a : Nat) (u : V) (t : TypeId) (x : Value) (hm : IsMk u (.iface t x)) (hd : u.dep ≤ 16) (hk : u.keys = true) (w : World) (ha : w.cell? ⟨a, 0, none⟩ = some (.iface t x)) (hlt : a < w.heap.size) :
    Calls Try.prog 135 #[.pointer (some ⟨a, 0, none⟩)] w fun e w' => e = .returned (.tuple #[]) ∧ Fr No w w' := by
  have hmm := @run_makeMap Try.prog
  have h0 : (w.alloc (.map #[] 0)).heap[w.heap.size]? = some (.map #[] 0) := World.alloc_heap_new w _
  have hc := (World.cell?_alloc_lt w (.map #[] 0) ⟨a, 0, none⟩ hlt).trans ha
  have fr0 := (Fr.refl No w).alloc (.map #[] 0)
  have hsz : (w.alloc (.map #[] 0)).heap.size = w.heap.size + 1 := by simp
  go_enter Try.func135, Try.ntmps135
  go_wp2_with fail
  generalize w.alloc (.map #[] 0) = W0 at *
  have h0' : W0.drew.heap[w.heap.size]? = some (.map #[] 0) := h0
  have hl1 := run_lookup_mark Try.underlying175 W0.drew (zero_int _) u _ hm hd hk false h0' (vs := []) ⟨rfl, by simp⟩ (by simp)
  have he1 := run_mapEntry_empty Try.underlying175 W0.drew (zero_int _) u _ hm hd hk h0'
  have g0 : (W0.drew.putObj w.heap.size (.map #[{ key := .iface t x, val := .int .i64 0, born := 0 }] 1)).heap[w.heap.size]? = some (.map #[{ key := .iface t x, val := .int .i64 0, born := 0 }] 1) := World.putObj_heap_same (by simp; omega)
  have fr1 : Fr No w (W0.drew.putObj w.heap.size (.map #[{ key := .iface t x, val := .int .i64 0, born := 0 }] 1)) := (fr0.drew).putObj (by omega) _
  have hc1 : (W0.drew.putObj w.heap.size (.map #[{ key := .iface t x, val := .int .i64 0, born := 0 }] 1)).cell? ⟨a, 0, none⟩ = some (.iface t x) := (fr1.cells a 0 hlt).trans ha
  generalize W0.drew.putObj w.heap.size (.map #[{ key := .iface t x, val := .int .i64 0, born := 0 }] 1) = W1 at *
  have hs := run_entryStore_one 175 W1 (.iface t x) (.int .i64 0) (.int .i64 1) g0
  have fr2 := fr1.putObj (B := w.heap.size) (by omega) (.map #[{ key := .iface t x, val := .int .i64 1, born := 0 }] 1)
  generalize W1.putObj w.heap.size (.map #[{ key := .iface t x, val := .int .i64 1, born := 0 }] 1) = W2 at *
  have hself : u.cmp u = 1 := by rw [cmp_self, if_pos hk]
  have hl2 := run_lookup_mark Try.underlying175 W1 (zero_int _) u _ hm hd hk false g0 (vs := [u]) ⟨rfl, by
    intro i e v he hv
    match i, he, hv with
    | 0, he, hv => simp at he hv; subst he hv; exact hm⟩ (by simp [hself])
  simp only [pos, found] at hl1
  simp [pos, hself, found] at hl2
  have hw1 : IntKind.i64.wrap 1 = 1 := by decide
  have HS := hide hself
  clear hself
  have HF := hide fr2
  clear fr2 fr1 fr0 g0 h0' h0
  go_region
  go_wp2
  go_end0
  exact ⟨rfl, HF.out⟩

set_option maxRecDepth 10000 in
set_option maxHeartbeats 1000000 in
theorem key1_row (a : Nat) (u : V) (t : TypeId) (x : Value) (hm : IsMk u (.iface t x)) (hd : u.dep ≤ 16) (hk : u.keys = false) (w : World) (ha : w.cell? ⟨a, 0, none⟩ = some (.iface t x)) (hlt : a < w.heap.size) :
    Calls Try.prog 135 #[.pointer (some ⟨a, 0, none⟩)] w fun e w' => ∃ ty pv, RunErr ty ∧ e = .panicked [{ v := .iface ty pv, recovered := false }] ∧ Fr No w w' := by
  have hmm := @run_makeMap Try.prog
  have h0 : (w.alloc (.map #[] 0)).heap[w.heap.size]? = some (.map #[] 0) := World.alloc_heap_new w _
  have hc := (World.cell?_alloc_lt w (.map #[] 0) ⟨a, 0, none⟩ hlt).trans ha
  have fr0 := (Fr.refl No w).alloc (.map #[] 0)
  have hsz : (w.alloc (.map #[] 0)).heap.size = w.heap.size + 1 := by simp
  go_enter Try.func135, Try.ntmps135
  go_wp2_with fail
  generalize w.alloc (.map #[] 0) = W0 at *
  have h0' : W0.drew.heap[w.heap.size]? = some (.map #[] 0) := h0
  obtain ⟨t1, p1, ht1, hl1⟩ := run_lookup_row Try.underlying175 W0.drew u _ hm hd hk false h0'
  obtain ⟨t2, p2, ht2, he1⟩ := run_mapEntry_row Try.underlying175 W0.drew u _ hm hd hk h0'
  have hr : ∀ ty, ty = 10 ∨ ty = 19 → RunErr ty := by
    rintro ty (rfl | rfl)
    · exact assert10
    · exact assert19
  have r1 := hide (hr t1 ht1)
  have r2 := hide (hr t2 ht2)
  have HF := hide fr0.drew
  clear hr ht1 ht2 fr0 h0' h0
  refine wp_region_any (by kernel_rfl) ?_
  refine wpAny_ready (rs := [0, 1]) (by kernel_rfl) (by simp) (AllReady.cons rfl (fun K hK => ?_) (AllReady.cons rfl (fun K hK => ?_) AllReady.nil))
  · go_simp
    refine hK _ _ ?_
    refine wpAny_ready (rs := [1]) (by kernel_rfl) (by simp) (AllReady.cons rfl (fun K hK => ?_) AllReady.nil)
    go_simp
    refine hK _ _ ?_
    refine wpAny_ready (rs := [2, 4]) (by kernel_rfl) (by simp) (AllReady.cons rfl (fun K hK => ?_) (AllReady.cons rfl (fun K hK => ?_) AllReady.nil))
    · go_simp
      go_wp2
      exact ⟨rfl, t1, p1, r1.out, rfl, HF.out⟩
    · go_simp
      go_wp2
      exact ⟨rfl, t2, p2, r2.out, rfl, HF.out⟩
  · go_simp
    refine hK _ _ ?_
    refine wpAny_ready (rs := [0]) (by kernel_rfl) (by simp) (AllReady.cons rfl (fun K hK => ?_) AllReady.nil)
    go_simp
    refine hK _ _ ?_
    refine wpAny_ready (rs := [2, 4]) (by kernel_rfl) (by simp) (AllReady.cons rfl (fun K hK => ?_) (AllReady.cons rfl (fun K hK => ?_) AllReady.nil))
    · go_simp
      go_wp2
      exact ⟨rfl, t1, p1, r1.out, rfl, HF.out⟩
    · go_simp
      go_wp2
      exact ⟨rfl, t2, p2, r2.out, rfl, HF.out⟩

theorem key_any (u : V) (t : TypeId) (x : Value) (hm : IsMk u (.iface t x)) (hd : u.dep ≤ 16) (w : World) : Calls Try.prog 89 #[.iface t x] w fun e w' => e = .returned (.bool u.keys) ∧ Fr No w w' := by
  have hmf : ∀ (fn : Fn) (first cap : Array Value) (w : World), (Instr.makeFunc fn first cap).run Try.prog w = .ok (.func fn first cap) w := fun _ _ _ _ => rfl
  have c0 : ((w.alloc (.cells #[.iface t x] 45)).alloc (.cells #[.bool false] 4)).cell? ⟨w.heap.size, 0, none⟩ = some (.iface t x) := ((Blk.new w 45 #[.iface t x]).alloc _).cell 0
  cases hk : u.keys
  · have hcall := key_panic #[.pointer (some ⟨w.heap.size, 0, none⟩)] (w.alloc (.cells #[.iface t x] 45)) (key1_row w.heap.size u t x hm hd hk _ c0 (by simp; omega))
    have H := hide hcall
    clear hcall hk
    go_enter Try.func89, Try.ntmps89
    go_wp2_with fail
    refine H.out.mono ?_
    rintro e w2 ⟨rfl, fr⟩
    go_wp2
    go_ret
    exact ⟨rfl, ((Fr.refl No w).alloc _).trans fr⟩
  · have hcall := key_ret #[.pointer (some ⟨w.heap.size, 0, none⟩)] (w.alloc (.cells #[.iface t x] 45)) (key1_ok w.heap.size u t x hm hd hk _ c0 (by simp; omega))
    have H := hide hcall
    clear hcall hk
    go_enter Try.func89, Try.ntmps89
    go_wp2_with fail
    refine H.out.mono ?_
    rintro e w2 ⟨rfl, fr⟩
    go_wp2
    go_ret
    exact ⟨rfl, ((Fr.refl No w).alloc _).trans fr⟩

end Go.Proofs.Ytihjmipmjogpoaa

/- Plain laws on values: what compares as equal is the same; which values may be. -/
namespace Go.Proofs.Ytihjmipmjogpoaa
open Go.RowKit

theorem bytes_ext {a b : ByteArray} (h : a.toList = b.toList) : a = b := by
  rw [ByteArray.toList_eq, ByteArray.toList_eq] at h
  exact Go.WideShapes.bytes_inj h

theorem fok_kind {k n : Int} {s : ByteArray} {len : Nat} {r : Int} (h : fok k n s len r = true) : k = 0 ∨ k = 1 ∨ k = 2 ∨ k = 3 ∨ k = 4 := by
  unfold fok at h
  by_cases h0 : k = 0
  · simp [h0]
  by_cases h1 : k = 1
  · simp [h1]
  by_cases h2 : k = 2
  · simp [h2]
  by_cases h3 : k = 3
  · simp [h3]
  by_cases h4 : k = 4
  · simp [h4]
  simp [h0, h1, h2, h3, h4] at h

theorem shp_eq {k k' : Int} {a b : Nat} (hk : k = 0 ∨ k = 1 ∨ k = 2 ∨ k = 3 ∨ k = 4) (hk' : k' = 0 ∨ k' = 1 ∨ k' = 2 ∨ k' = 3 ∨ k' = 4) (h : shp k a = shp k' b) : k = k' ∧ (k = 3 → (a = 2 ↔ b = 2)) := by
  unfold shp at h
  by_cases ha : a = 2 <;> by_cases hb : b = 2 <;> rcases hk with rfl | rfl | rfl | rfl | rfl <;> rcases hk' with rfl | rfl | rfl | rfl | rfl <;> simp [ha, hb] at h ⊢

/-- What compares as equal is the same. -/
theorem cmp_eq (u : V) : ∀ v : V, u.ok = true → v.ok = true → u.cmp v = 1 → u = v := by
  induction u using V.ind with
  | h k n s l r ih =>
    intro v hu hv hc
    cases v with
    | mk k' n' s' l' r' =>
      rw [V.ok_mk] at hu hv
      simp only [Bool.and_eq_true] at hu hv
      obtain ⟨fu, au⟩ := hu
      obtain ⟨fv, av⟩ := hv
      rw [V.cmp_mk, cmpOf] at hc
      simp only [List.length_map] at hc
      by_cases hs : shp k l.length = shp k' l'.length
      · rw [if_pos hs] at hc
        obtain ⟨rfl, hl3⟩ := shp_eq (fok_kind fu) (fok_kind fv) hs
        by_cases h3 : k = 3
        · subst h3
          rw [if_pos rfl] at hc
          by_cases hl : l.length = 2
          · obtain ⟨a, b, rfl⟩ := at2 hl
            obtain ⟨a', b', rfl⟩ := at2 ((hl3 rfl).1 hl)
            have hc' : (if a.cmp a' = 1 then b.cmp b' else a.cmp a') = 1 := hc
            by_cases ha : a.cmp a' = 1
            · rw [if_pos ha] at hc'
              simp at au av
              have e1 := ih a (by simp) a' au.1 av.1 ha
              have e2 := ih b (by simp) b' au.2 av.2 hc'
              subst e1 e2
              simp [fok] at fu fv
              have e3 : s = s' := bytes_ext (fu.1.2.trans fv.1.2.symm)
              subst e3
              rw [fu.1.1, fv.1.1, fu.2, fv.2]
            · rw [if_neg ha] at hc'; exact absurd hc' ha
          · exfalso
            have hp : pairCmp (l.map V.cmp) l' = 2 := by
              match l, hl with
              | [], _ => rfl
              | [a], _ => rfl
              | [a, b], hl => simp at hl
              | a :: b :: c :: l, _ => rfl
            rw [hp] at hc; cases hc
        · rw [if_neg h3] at hc
          have hl0 : l = [] := List.eq_nil_of_length_eq_zero (fok_len h3 fu)
          have hl0' : l' = [] := List.eq_nil_of_length_eq_zero (fok_len h3 fv)
          subst hl0 hl0'
          have he : leafEq k n s r n' s' r' = true := by
            cases hq : leafEq k n s r n' s' r' with
            | true => rfl
            | false => rw [hq] at hc; simp at hc
          rcases fok_kind fu with rfl | rfl | rfl | rfl | rfl
          · simp [fok] at fu fv
            have e3 : s = s' := bytes_ext (fu.1.2.trans fv.1.2.symm)
            rw [fu.1.1, fv.1.1, fu.2, fv.2, e3]
          · simp [fok] at fu fv
            simp [leafEq] at he
            have e3 : s = s' := bytes_ext (fu.1.trans fv.1.symm)
            rw [fu.2, fv.2, e3, he]
          · simp [fok] at fu fv
            simp [leafEq] at he
            rw [fu.1.2, fv.1.2, fu.2, fv.2, bytes_ext he]
          · exact absurd rfl h3
          · simp [fok] at fu fv
            simp [leafEq] at he
            have e3 : s = s' := bytes_ext (fu.2.trans fv.2.symm)
            rw [fu.1.2, fv.1.2, e3, he]
      · rw [if_neg hs] at hc; cases hc

theorem may_ok {v : V} (h : v.may = true) : v.ok = true := by
  simp [V.may, V.fits] at h; exact h.1.1

/-- Of two that may be, the first without a row: equal just if the same. -/
theorem cmp_iff {u v : V} (hu : u.may = true) (hv : v.may = true) (hk : u.keys = true) : u.cmp v = 1 ↔ u = v :=
  ⟨cmp_eq u v (may_ok hu) (may_ok hv), fun h => by subst h; rw [cmp_self, if_pos hk]⟩

theorem pos_some {u : V} (hu : u.may = true) (hk : u.keys = true) : ∀ {vs : List V} {i : Nat}, (∀ v ∈ vs, v.may = true) → pos u vs = some i → vs[i]? = some u
  | [], i, _, h => by simp [pos] at h
  | v :: vs, i, hm, h => by
    unfold pos at h
    by_cases hc : u.cmp v = 1
    · rw [if_pos hc] at h; simp at h; subst h
      rw [(cmp_iff hu (hm v (by simp)) hk).1 hc]; rfl
    · rw [if_neg hc] at h
      simp at h
      obtain ⟨j, hj, rfl⟩ := h
      show vs[j]? = some u
      exact pos_some hu hk (fun v hv => hm v (by simp [hv])) hj

theorem pos_none {u : V} (hu : u.may = true) (hk : u.keys = true) : ∀ {vs : List V}, (∀ v ∈ vs, v.may = true) → pos u vs = none → u ∉ vs
  | [], _, _ => by simp
  | v :: vs, hm, h => by
    unfold pos at h
    by_cases hc : u.cmp v = 1
    · rw [if_pos hc] at h; cases h
    · rw [if_neg hc] at h
      simp at h
      intro hm'
      rcases List.mem_cons.1 hm' with rfl | hm'
      · exact hc ((cmp_iff hu hu hk).2 rfl)
      · exact pos_none hu hk (fun v hv => hm v (by simp [hv])) h hm'

end Go.Proofs.Ytihjmipmjogpoaa

/- What the document's answer counts of a value: plain laws. No program in sight. -/
namespace Go.Proofs.Ytihjmipmjogpoaa
open Go.RowKit

/-- The greatest of some numbers, and one more; 0 of none. -/
def top1 : List Nat → Nat
  | [] => 0
  | x :: l => max (x + 1) (top1 l)

/-- How deep its lists of parts go, whatever its kind. -/
def V.ht : V → Nat
  | .mk _ _ _ l _ => top1 (l.map V.ht)
termination_by v => v

theorem V.ht_mk (k n : Int) (s : ByteArray) (l : List V) (r : Int) : (V.mk k n s l r).ht = top1 (l.map V.ht) := by rw [V.ht]

theorem lt_top1 {l : List Nat} {x : Nat} (h : x ∈ l) : x + 1 ≤ top1 l := by
  induction l with
  | nil => simp at h
  | cons y l ih =>
    rcases List.mem_cons.1 h with rfl | h
    · simp [top1]; omega
    · have := ih h; simp [top1]; omega

theorem top1_le {l : List Nat} {n : Nat} (h : ∀ x ∈ l, x + 1 ≤ n) : top1 l ≤ n := by
  induction l with
  | nil => simp [top1]
  | cons y l ih =>
    have h1 := h y (by simp)
    have h2 := ih fun x hx => h x (by simp [hx])
    simp [top1]; omega

theorem ht_child {k n : Int} {s : ByteArray} {l : List V} {r : Int} {x : V} (h : x ∈ l) : x.ht + 1 ≤ (V.mk k n s l r).ht := by
  rw [V.ht_mk]; exact lt_top1 (List.mem_map_of_mem h)

theorem dep_le_ht (v : V) : v.dep ≤ v.ht + 1 := by
  induction v using V.ind with
  | h k n s l r ih =>
    rw [V.dep_mk]
    by_cases h3 : k = 3
    · rw [if_pos h3]
      have : top (l.map V.dep) ≤ (V.mk k n s l r).ht := top_le fun d hd => by
        obtain ⟨x, hx, rfl⟩ := List.mem_map.1 hd
        have h1 := ih x hx
        have h2 := ht_child (k := k) (n := n) (s := s) (r := r) hx
        omega
      omega
    · rw [if_neg h3]; omega

theorem ht_le_dep (v : V) : v.ok = true → v.ht ≤ v.dep := by
  induction v using V.ind with
  | h k n s l r ih =>
    intro h
    rw [V.ok_mk, Bool.and_eq_true] at h
    rw [V.ht_mk, V.dep_mk]
    by_cases h3 : k = 3
    · rw [if_pos h3]
      refine top1_le fun x hx => ?_
      obtain ⟨y, hy, rfl⟩ := List.mem_map.1 hx
      have h1 := ih y hy (List.all_eq_true.1 h.2 y hy)
      have h2 : y.dep ≤ top (l.map V.dep) := le_top (List.mem_map_of_mem hy)
      omega
    · have := List.eq_nil_of_length_eq_zero (fok_len h3 h.1)
      subst this
      simp [top1]

/-- What 'parts' comes to, at the depth d. -/
def PartsIs (v : V) (d z : Nat) : Prop := 1 ≤ z ∧ z ≤ 513 + 512 * (17 - d) ∧ (z ≤ 512 → z = v.size ∧ v.ht + d ≤ 16) ∧ (v.size ≤ 512 → v.ht + d ≤ 16 → z = v.size)

/-- Where the loop of 'parts' stands. -/
structure PInv (l : List V) (d j n : Nat) : Prop where
  pos : 1 ≤ n
  le : n ≤ 513 + 512 * (17 - d)
  few : n ≤ 512 → n = 1 + sizeTo l j ∧ ∀ i (h : i < l.length), i < j → l[i].ht + (d + 1) ≤ 16
  same : 1 + sizeTo l j ≤ 512 → (∀ i (h : i < l.length), i < j → l[i].ht + (d + 1) ≤ 16) → n = 1 + sizeTo l j

theorem PInv.zero (l : List V) (d : Nat) : PInv l d 0 1 :=
  ⟨by omega, by omega, fun _ => ⟨by rw [sizeTo_zero], fun i h hi => absurd hi (by omega)⟩, fun _ _ => by rw [sizeTo_zero]⟩

theorem PInv.succ {l : List V} {d j n z : Nat} (h : PInv l d j n) (hn : n ≤ 512) (hj : j < l.length) (hz : PartsIs l[j] (d + 1) z) (hd : d ≤ 16) : PInv l d (j + 1) (n + z) := by
  obtain ⟨z1, z2, z3, z4⟩ := hz
  have h1 := h.pos
  have h2 := sizeTo_succ l j hj
  refine ⟨by omega, by omega, fun hs => ?_, fun hs ha => ?_⟩
  · obtain ⟨e1, e2⟩ := z3 (by omega)
    obtain ⟨e3, e4⟩ := h.few hn
    refine ⟨by omega, fun i hi hij => ?_⟩
    rcases Nat.lt_or_ge i j with hlt | hge
    · exact e4 i hi hlt
    · obtain rfl : i = j := by omega
      exact e2
  · have e1 := h.same (by omega) fun i hi hij => ha i hi (by omega)
    have e2 := z4 (by omega) (ha j hj (by omega))
    omega

theorem PInv.done {l : List V} {d n : Nat} {k m : Int} {s : ByteArray} {r : Int} (h : PInv l d l.length n) (hd : d ≤ 16) : PartsIs (V.mk k m s l r) d n := by
  have hsz : (V.mk k m s l r).size = 1 + sizeTo l l.length := by rw [V.size_mk, sizeTo_all]
  refine ⟨h.pos, h.le, fun hn => ?_, fun hs ht => ?_⟩
  · obtain ⟨e1, e2⟩ := h.few hn
    refine ⟨by omega, ?_⟩
    have : (V.mk k m s l r).ht ≤ 16 - d := by
      rw [V.ht_mk]
      refine top1_le fun x hx => ?_
      obtain ⟨y, hy, rfl⟩ := List.mem_map.1 hx
      obtain ⟨i, hi, rfl⟩ := List.mem_iff_getElem.1 hy
      have := e2 i hi hi
      omega
    omega
  · rw [hsz]
    refine h.same (by omega) fun i hi _ => ?_
    have := ht_child (k := k) (n := m) (s := s) (r := r) (List.getElem_mem hi)
    omega

theorem PInv.over {l : List V} {d j n : Nat} {k m : Int} {s : ByteArray} {r : Int} (h : PInv l d j n) (hn : 512 < n) : PartsIs (V.mk k m s l r) d n := by
  refine ⟨h.pos, h.le, fun hn' => absurd hn' (by omega), fun hs ht => ?_⟩
  exfalso
  have hsz : (V.mk k m s l r).size = 1 + (l.map V.size).sum := V.size_mk _ _ _ _ _
  have h1 := sizeTo_le l j
  have := h.same (by omega) fun i hi _ => by
    have := ht_child (k := k) (n := m) (s := s) (r := r) (List.getElem_mem hi)
    omega
  omega

theorem PartsIs.deep (v : V) : PartsIs v 17 513 := ⟨by omega, by omega, fun h => absurd h (by omega), fun _ h => absurd h (by omega)⟩

/-- The document's answer to 'may a value be?' is the program's. -/
theorem may_iff {v : V} {z : Nat} (h : PartsIs v 0 z) : v.may = (decide (z ≤ 512) && (decide (v.dep ≤ 16) && v.ok)) := by
  obtain ⟨z1, z2, z3, z4⟩ := h
  rw [Bool.eq_iff_iff]
  simp only [V.may, V.fits, Bool.and_eq_true, decide_eq_true_eq]
  constructor
  · rintro ⟨⟨h1, h2⟩, h3⟩
    have := ht_le_dep v h1
    have := z4 h2 (by omega)
    exact ⟨by omega, h3, h1⟩
  · rintro ⟨h1, h2, h3⟩
    have := z3 h1
    exact ⟨⟨h3, by omega⟩, h2⟩

end Go.Proofs.Ytihjmipmjogpoaa

/- The document's answer: parts, deep, field, fields, May of a value. -/
namespace Go.Proofs.Ytihjmipmjogpoaa
open Go.RowKit

def RParts (v : V) (d : Nat) (w : World) (e : Ending) (w' : World) : Prop := ∃ z : Nat, e = .returned (.int .i64 (z : Int)) ∧ PartsIs v d z ∧ Fr No w w'

set_option maxRecDepth 100000 in
set_option maxHeartbeats 2000000 in
theorem rparts_any (t : T) : ∀ (w : World) (d lo hi : Nat), t.In w lo hi → hi ≤ w.heap.size → d ≤ 17 → Calls Try.prog 85 #[t.val, .int .i64 (d : Int)] w (RParts t.v d w) := by
  induction t using T.ind with
  | h k n s A cap l r ih =>
    intro w d lo hi ht hh hd
    rw [T.val_mk]
    have fit := (T.in_mk.1 ht).1
    have hlen := fit.len1
    have hk0 := fit.k0
    have hk1 := fit.k1
    have fr1 := (Fr.refl No w).alloc (.cells #[.int .u8 k, .int .i64 n, .string s, .slice A l.length cap, .int .i64 r] 27)
    by_cases h17 : d = 17
    · subst h17
      have hPI := PartsIs.deep (T.mk k n s A cap l r).v
      have HF := hide fr1
      clear fr1 ih
      by_cases h3 : k = 3
      · subst h3
        go_enter Try.func85, Try.ntmps85
        go_wp2
        go_ret
        exact ⟨513, rfl, hPI, HF.out⟩
      · have h3' : (k == 3) = false := by simpa using h3
        go_enter Try.func85, Try.ntmps85
        go_wp2
        go_ret
        exact ⟨513, rfl, hPI, HF.out⟩
    · have hgt : ¬ (16 : Int) < (d : Int) := by omega
      have hd16 : d ≤ 16 := by omega
      go_enter Try.func85, Try.ntmps85
      go_wp2_with fail
      go_loopw [5, 6] (fun v i wr => ∃ j m : Nat, j ≤ l.length ∧ i = .int .i64 j ∧ v = .int .i64 (m : Int) ∧ PInv (l.map T.v) d j m ∧ Fr No (w.alloc (.cells #[.int .u8 k, .int .i64 n, .string s, .slice A l.length cap, .int .i64 r] 27)) wr) (fun _ i _ => l.length - (intOf i).toNat)
      case atStart =>
        exact ⟨0, 1, Nat.zero_le _, rfl, rfl, PInv.zero _ _, Fr.refl _ _⟩
      case round =>
        obtain ⟨j, m, hj, rfl, rfl, inv, fr⟩ := hrel
        have hK := (Blk.new' w 27 #[.int .u8 k, .int .i64 n, .string s, .slice A l.length cap, .int .i64 r] rfl).fr fr (fun h => h)
        obtain ⟨c0, c1, c2, c3, c4, cf⟩ := hK.cells5
        have frw := fr1.trans fr
        have hszr := hK.lt
        have hm := inv.le
        have HI := hide inv
        clear inv
        by_cases hlt : j < l.length
        · by_cases hm5 : m ≤ 512
          · obtain ⟨b, o, k1, n1, s1, A1, cap1, l1, r1, rfl, hb0, hb1, hx, hin, e0, e1, e2, e3, e4⟩ := T.elem (ht.no frw hh) hlt
            have IH := ih l[j] (List.getElem_mem hlt)
            rw [hx, T.val_mk] at IH
            have HX := hide hx
            have g0 : b < wr.heap.size := by have := frw.size; omega
            have hm5' : (m : Int) ≤ 512 := by omega
            have HF := hide fr
            have HW := hide frw
            clear hx ih fr frw fr1
            go_wp2_with fail
            have hd1 : ((d : Int) + 1) = ((d + 1 : Nat) : Int) := by omega
            rw [hd1]
            clear hd1
            refine (IH wr (d + 1) lo hi hin (by have := HW.out.size; omega) (by omega)).mono ?_
            rintro e w2 ⟨z, rfl, hz, fr2⟩
            have hz2 := hz.2.1
            have HZ := hide hz
            have HF2 := hide fr2
            clear hz fr2
            go_wp2
            go_roundw
            case rel =>
              refine ⟨j + 1, m + z, hlt, by go_num, by go_num, HI.out.succ hm5 (by simpa using hlt) ?_ hd16, HF.out.trans HF2.out⟩
              rw [List.getElem_map, HX.out]
              exact HZ.out
            case measure => simp [intOf]; omega
          · have hm5' : ¬ (m : Int) ≤ 512 := by omega
            have HW := hide frw
            clear ih
            go_wp2
            go_ret
            refine ⟨m, rfl, ?_, HW.out⟩
            rw [T.v_mk]
            exact HI.out.over (by omega)
        · obtain rfl : l.length = j := by omega
          have HW := hide frw
          clear ih
          go_wp2
          go_ret
          refine ⟨m, rfl, ?_, HW.out⟩
          rw [T.v_mk]
          have h := HI.out
          have hl : l.length = (l.map T.v).length := by simp
          rw [hl] at h
          exact h.done hd16

/-- The deepest of the first j. -/
theorem top_take_succ (l : List Nat) (j : Nat) (h : j < l.length) : top (l.take (j + 1)) = max (top (l.take j)) l[j] := by
  induction l generalizing j with
  | nil => simp at h
  | cons x l ih =>
    cases j with
    | zero => simp [top]
    | succ j =>
      simp only [List.take_succ_cons, top, List.getElem_cons_succ]
      rw [ih j (by simpa using h)]
      omega

set_option maxRecDepth 100000 in
set_option maxHeartbeats 2000000 in
theorem rdeep_any (t : T) : ∀ (w : World) (lo hi : Nat), t.In w lo hi → hi ≤ w.heap.size → t.v.ht ≤ 16 → Calls Try.prog 86 #[t.val] w fun e w' => e = .returned (.int .i64 (t.v.dep : Int)) ∧ Fr No w w' := by
  induction t using T.ind with
  | h k n s A cap l r ih =>
    intro w lo hi ht hh hd
    rw [T.val_mk]
    have fit := (T.in_mk.1 ht).1
    have hlen := fit.len1
    have hk0 := fit.k0
    have hk1 := fit.k1
    have fr1 := (Fr.refl No w).alloc (.cells #[.int .u8 k, .int .i64 n, .string s, .slice A l.length cap, .int .i64 r] 27)
    have hdep := dep_le_ht (T.mk k n s A cap l r).v
    by_cases h3 : k = 3
    case neg =>
      have h3' : (k != 3) = true := by simpa using h3
      have e : (T.mk k n s A cap l r).v.dep = 0 := by rw [T.v_mk, V.dep_mk, if_neg h3]
      rw [e]
      clear ih
      go_enter Try.func86, Try.ntmps86
      go_wp2
      go_ret
      exact ⟨rfl, fr1⟩
    subst h3
    have e : (T.mk 3 n s A cap l r).v.dep = top ((l.map T.v).map V.dep) + 1 := by rw [T.v_mk, V.dep_mk, if_pos rfl]; omega
    have hchild : ∀ x ∈ l, x.v.ht + 1 ≤ (T.mk 3 n s A cap l r).v.ht := by
      intro x hx; rw [T.v_mk]; exact ht_child (List.mem_map_of_mem hx)
    rw [e] at hdep ⊢
    generalize (T.mk 3 n s A cap l r).v.ht = H at *
    clear e
    go_enter Try.func86, Try.ntmps86
    go_wp2_with fail
    go_loopw [3, 4] (fun v i wr => ∃ j m : Nat, j ≤ l.length ∧ i = .int .i64 j ∧ v = .int .i64 (m : Int) ∧ m = top (((l.map T.v).map V.dep).take j) ∧ m ≤ 17 ∧ Fr No (w.alloc (.cells #[.int .u8 3, .int .i64 n, .string s, .slice A l.length cap, .int .i64 r] 27)) wr) (fun _ i _ => l.length - (intOf i).toNat)
    case atStart =>
      exact ⟨0, 0, Nat.zero_le _, rfl, rfl, by simp [top], by omega, Fr.refl _ _⟩
    case round =>
      obtain ⟨j, m, hj, rfl, rfl, hm, hm17, fr⟩ := hrel
      have hK := (Blk.new' w 27 #[.int .u8 3, .int .i64 n, .string s, .slice A l.length cap, .int .i64 r] rfl).fr fr (fun h => h)
      obtain ⟨c0, c1, c2, c3, c4, cf⟩ := hK.cells5
      have frw := fr1.trans fr
      have hszr := hK.lt
      have HM := hide hm
      clear hm
      by_cases hlt : j < l.length
      · obtain ⟨b, o, k1, n1, s1, A1, cap1, l1, r1, rfl, hb0, hb1, hx, hin, e0, e1, e2, e3, e4⟩ := T.elem (ht.no frw hh) hlt
        have IH := ih l[j] (List.getElem_mem hlt)
        have hc := hchild l[j] (List.getElem_mem hlt)
        have hdc := dep_le_ht l[j].v
        have hto := top_take_succ ((l.map T.v).map V.dep) j (by simpa using hlt)
        rw [List.getElem_map, List.getElem_map] at hto
        rw [hx] at IH hc hdc hto
        rw [T.val_mk] at IH
        generalize (T.mk k1 n1 s1 A1 cap1 l1 r1).v = u at *
        have g0 : b < wr.heap.size := by have := frw.size; omega
        have HF := hide fr
        have HW := hide frw
        have HT := hide hto
        clear hx ih fr frw fr1 hto hchild
        go_wp2_with fail
        refine (IH wr lo hi hin (by have := HW.out.size; omega) (by omega)).mono ?_
        rintro e w2 ⟨rfl, fr2⟩
        have HF2 := hide fr2
        clear fr2
        generalize hq : u.dep = q at *
        have HQ := hide hq
        clear hq
        go_wp2
        go_roundw
        case rel =>
          refine ⟨j + 1, max m q, hlt, by go_num, ?_, by rw [HT.out, ← HM.out], by omega, HF.out.trans HF2.out⟩
          refine congrArg (Value.int .i64) ?_
          rcases Nat.lt_or_ge m q with h | h
          · rw [if_pos h, Nat.max_eq_right (by omega)]
          · rw [if_neg (by omega), Nat.max_eq_left h]
        case measure => simp [intOf]; omega
      · obtain rfl : l.length = j := by omega
        have HW := hide frw
        clear ih
        go_wp2
        go_ret
        refine ⟨?_, HW.out⟩
        have h := HM.out
        rw [List.take_of_length_le (by simp)] at h
        rw [← h]
        go_num

end Go.Proofs.Ytihjmipmjogpoaa

/- Chapter 2: constructors; Deep. -/
namespace Go.Proofs.Ytihjmipmjogpoaa
open Go.RowKit

theorem num2_any (n : Int) (w : World) : Calls Try.prog 79 #[.int .i64 n] w fun e w' => e = .returned (.agg #[.int .u8 1, .int .i64 n, .string ⟨#[]⟩, .slice none 0 0, .int .i64 0]) ∧ Fr No w w' := by
  go_enter Try.func79, Try.ntmps79
  go_wp2
  refine bodyPost_ret (v := .agg #[.int .u8 1, .int .i64 n, .string ⟨#[]⟩, .slice none 0 0, .int .i64 0]) (by simp [results, Try.results79, go_sem, *]) rfl ?_
  exact ⟨rfl, (Fr.refl No w).alloc _⟩

theorem ref2_any (r : Int) (w : World) : Calls Try.prog 102 #[.int .i64 r] w fun e w' => e = .returned (.agg #[.int .u8 4, .int .i64 0, .string ⟨#[]⟩, .slice none 0 0, .int .i64 r]) ∧ Fr No w w' := by
  go_enter Try.func102, Try.ntmps102
  go_wp2
  refine bodyPost_ret (v := .agg #[.int .u8 4, .int .i64 0, .string ⟨#[]⟩, .slice none 0 0, .int .i64 r]) (by simp [results, Try.results102, go_sem, *]) rfl ?_
  exact ⟨rfl, (Fr.refl No w).alloc _⟩

theorem list2_any (A : Option Addr) (n c : Nat) (w : World) : Calls Try.prog 101 #[.slice A n c] w fun e w' => e = .returned (.agg #[.int .u8 3, .int .i64 0, .string ⟨#[]⟩, .slice A n c, .int .i64 0]) ∧ Fr No w w' := by
  go_enter Try.func101, Try.ntmps101
  go_wp2
  refine bodyPost_ret (v := .agg #[.int .u8 3, .int .i64 0, .string ⟨#[]⟩, .slice A n c, .int .i64 0]) (by simp [results, Try.results101, go_sem, *]) rfl ?_
  exact ⟨rfl, (Fr.refl No w).alloc _⟩

set_option maxRecDepth 100000 in
set_option maxHeartbeats 2000000 in
/-- value.deep. -/
theorem deep_any (t : T) : ∀ (w : World) (lo hi : Nat), t.In w lo hi → hi ≤ w.heap.size → t.v.dep ≤ 16 → Calls Try.prog 120 #[t.val] w fun e w' => e = .returned (.int .i64 (t.v.dep : Int)) ∧ Fr No w w' := by
  induction t using T.ind with
  | h k n s A cap l r ih =>
    intro w lo hi ht hh hd
    rw [T.val_mk]
    have fit := (T.in_mk.1 ht).1
    have hlen := fit.len1
    have hk0 := fit.k0
    have hk1 := fit.k1
    have fr1 := (Fr.refl No w).alloc (.cells #[.int .u8 k, .int .i64 n, .string s, .slice A l.length cap, .int .i64 r] 27)
    by_cases h3 : k = 3
    case neg =>
      have h3' : (k != 3) = true := by simpa using h3
      have e : (T.mk k n s A cap l r).v.dep = 0 := by rw [T.v_mk, V.dep_mk, if_neg h3]
      rw [e]
      clear ih
      go_enter Try.func120, Try.ntmps120
      go_wp2
      go_ret
      exact ⟨rfl, fr1⟩
    subst h3
    have e : (T.mk 3 n s A cap l r).v.dep = top ((l.map T.v).map V.dep) + 1 := by rw [T.v_mk, V.dep_mk, if_pos rfl]; omega
    rw [e] at hd ⊢
    have hchild : ∀ x ∈ l, x.v.dep ≤ 15 := by
      intro x hx
      have := le_top (List.mem_map_of_mem (f := V.dep) (List.mem_map_of_mem (f := T.v) hx))
      omega
    clear e
    go_enter Try.func120, Try.ntmps120
    go_wp2_with fail
    go_loopw [3, 12] (fun v i wr => ∃ j m : Nat, j ≤ l.length ∧ i = .int .i64 j ∧ v = .int .i64 (m : Int) ∧ m = top (((l.map T.v).map V.dep).take j) ∧ m ≤ 16 ∧ Fr No (w.alloc (.cells #[.int .u8 3, .int .i64 n, .string s, .slice A l.length cap, .int .i64 r] 27)) wr) (fun _ i _ => l.length - (intOf i).toNat)
    case atStart =>
      exact ⟨0, 0, Nat.zero_le _, rfl, rfl, by simp [top], by omega, Fr.refl _ _⟩
    case round =>
      obtain ⟨j, m, hj, rfl, rfl, hm, hm17, fr⟩ := hrel
      have frw := fr1.trans fr
      have HM := hide hm
      clear hm
      by_cases hlt : j < l.length
      · obtain ⟨b, o, k1, n1, s1, A1, cap1, l1, r1, rfl, hb0, hb1, hx, hin, e0, e1, e2, e3, e4⟩ := T.elem (ht.no frw hh) hlt
        have IH := ih l[j] (List.getElem_mem hlt)
        have hc := hchild l[j] (List.getElem_mem hlt)
        have hto := top_take_succ ((l.map T.v).map V.dep) j (by simpa using hlt)
        rw [List.getElem_map, List.getElem_map] at hto
        rw [hx] at IH hc hto
        rw [T.val_mk] at IH
        generalize (T.mk k1 n1 s1 A1 cap1 l1 r1).v = u at *
        have g0 : b < wr.heap.size := by have := frw.size; omega
        have HF := hide fr
        have HW := hide frw
        have HT := hide hto
        have HI := hide (hin.no ((Fr.refl No wr).alloc (.cells #[.int .u8 k1, .int .i64 n1, .string s1, .slice A1 l1.length cap1, .int .i64 r1] 27)) (by have := frw.size; omega))
        have hh2 : hi ≤ (wr.alloc (.cells #[.int .u8 k1, .int .i64 n1, .string s1, .slice A1 l1.length cap1, .int .i64 r1] 27)).heap.size := by have := frw.size; simp; omega
        have HH := hide hh2
        clear hx ih fr frw fr1 hto hchild hin hh2
        go_wp2_with fail
        refine (IH _ lo hi HI.out HH.out (by omega)).mono ?_
        rintro e w2 ⟨rfl, fr2⟩
        have HF2 := hide fr2
        clear fr2
        generalize hq : u.dep = q at *
        have HQ := hide hq
        clear hq
        go_wp2
        go_roundw
        case rel =>
          refine ⟨j + 1, max m q, hlt, by go_num, ?_, by rw [HT.out, ← HM.out], by omega, (HF.out.alloc _).trans HF2.out⟩
          refine congrArg (Value.int .i64) ?_
          rcases Nat.lt_or_ge m q with h | h
          · rw [if_pos h, Nat.max_eq_right (by omega)]
          · rw [if_neg (by omega), Nat.max_eq_left h]
        case measure => simp [intOf]; omega
      · obtain rfl : l.length = j := by omega
        have HW := hide frw
        clear ih
        have hm2 : m = top ((l.map T.v).map V.dep) := by rw [HM.out, List.take_of_length_le (by simp)]
        have HM2 := hide hm2
        clear hm2
        go_wp2
        go_ret
        exact ⟨by rw [← HM2.out]; rfl, HW.out⟩

/-- value.Deep: of what may not be: 0. -/
theorem Deep_any (t : T) (w : World) (lo hi : Nat) (ht : t.In w lo hi) (hh : hi ≤ w.heap.size) : Calls Try.prog 57 #[t.val] w fun e w' => e = .returned (.int .i64 (if t.v.may = true then (t.v.dep : Int) else 0)) ∧ Fr No w w' := by
  have hM := fun w' h h' => may_any t w' lo hi h h'
  have hD := fun w' h h' h'' => deep_any t w' lo hi h h' h''
  cases t with
  | mk k n s A cap l r =>
    rw [T.val_mk] at *
    generalize hu : (T.mk k n s A cap l r).v = u at *
    have fr1 := (Fr.refl No w).alloc (.cells #[.int .u8 k, .int .i64 n, .string s, .slice A l.length cap, .int .i64 r] 27)
    have hK := Blk.new' w 27 #[.int .u8 k, .int .i64 n, .string s, .slice A l.length cap, .int .i64 r] rfl
    have hin1 := ht.no fr1 hh
    have hs1 : hi ≤ (w.alloc (.cells #[.int .u8 k, .int .i64 n, .string s, .slice A l.length cap, .int .i64 r] 27)).heap.size := by simp; omega
    have HU := hide hu
    clear hu ht
    cases hm : u.may with
    | false =>
      rw [hm] at hM
      simp only [Bool.false_eq_true, if_false]
      clear hm
      go_enter Try.func57, Try.ntmps57
      go_wp2_with fail
      refine (hM _ hin1 hs1).mono ?_
      rintro e w2 ⟨rfl, fr2⟩
      go_wp2
      go_ret
      exact ⟨rfl, fr1.trans fr2⟩
    | true =>
      have hd : u.dep ≤ 16 := by simp [V.may, V.fits] at hm; omega
      rw [hm] at hM
      simp only [if_true]
      clear hm
      go_enter Try.func57, Try.ntmps57
      go_wp2_with fail
      generalize World.alloc w _ = W0 at *
      refine (hM _ hin1 hs1).mono ?_
      rintro e w2 ⟨rfl, fr2⟩
      obtain ⟨c0, c1, c2, c3, c4, -⟩ := (hK.fr fr2 fun h => h).cells5
      have hin2 := hin1.no fr2 hs1
      have hs2 := Nat.le_trans hs1 fr2.size
      have HF := hide (fr1.trans fr2)
      clear fr1 fr2 hK
      go_wp2_with fail
      refine (hD _ hin2 hs2 hd).mono ?_
      rintro e w3 ⟨rfl, fr3⟩
      go_wp2
      go_ret
      exact ⟨rfl, HF.out.trans fr3⟩

end Go.Proofs.Ytihjmipmjogpoaa

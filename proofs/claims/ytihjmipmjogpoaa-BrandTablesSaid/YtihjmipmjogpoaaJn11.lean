/- Texts joined: E2, E3, E4, E6, Q1. -/
import Derived.Test.YtihjmipmjogpoaaJn10
import Derived.WalkLawsBesides
/- Chapter 2: order, Order, Same. -/
namespace Go.Proofs.Ytihjmipmjogpoaa
open Go.RowKit

def cmpI (a b : Int) : Int := if a < b then -1 else if b < a then 1 else 0
def cmpS (a b : ByteArray) : Int := if Op.bytesLess a.toList b.toList = true then -1 else if a.toList == b.toList then 0 else 1

def ordL : List (V → Int) → List V → Int
  | [], [] => 0
  | [], _ :: _ => -1
  | _ :: _, [] => 1
  | f :: fs, v :: vs => if f v = 0 then ordL fs vs else f v

def ordOf (k n : Int) (s : ByteArray) (ps : List (V → Int)) (r : Int) : V → Int
  | .mk k' n' s' l' r' => if k = k' then (if k = 1 then cmpI n n' else if k = 2 then cmpS s s' else if k = 4 then cmpI r r' else ordL ps l') else cmpI k k'

/-- How two values that may be are ordered: -1, 0, 1. -/
def V.ord : V → V → Int
  | .mk k n s l r => ordOf k n s (l.map V.ord) r
termination_by v => v

theorem V.ord_mk (k n : Int) (s : ByteArray) (l : List V) (r : Int) : (V.mk k n s l r).ord = ordOf k n s (l.map V.ord) r := by rw [V.ord]

theorem cmpI_range (a b : Int) : cmpI a b = -1 ∨ cmpI a b = 0 ∨ cmpI a b = 1 := by
  unfold cmpI
  split
  · simp
  · split <;> simp
theorem cmpS_range (a b : ByteArray) : cmpS a b = -1 ∨ cmpS a b = 0 ∨ cmpS a b = 1 := by
  unfold cmpS
  split
  · simp
  · split <;> simp

theorem ordL_range : ∀ (fs : List (V → Int)) (vs : List V), (∀ f ∈ fs, ∀ v, f v = -1 ∨ f v = 0 ∨ f v = 1) → ordL fs vs = -1 ∨ ordL fs vs = 0 ∨ ordL fs vs = 1
  | [], [], _ => by simp [ordL]
  | [], _ :: _, _ => by simp [ordL]
  | _ :: _, [], _ => by simp [ordL]
  | f :: fs, v :: vs, h => by
    unfold ordL
    split
    · exact ordL_range fs vs fun f hf => h f (by simp [hf])
    · exact h f (by simp) v

theorem ord_range (u : V) : ∀ v : V, u.ord v = -1 ∨ u.ord v = 0 ∨ u.ord v = 1 := by
  induction u using V.ind with
  | h k n s l r ih =>
    intro v
    cases v with
    | mk k' n' s' l' r' =>
      rw [V.ord_mk, ordOf]
      split
      · split
        · exact cmpI_range _ _
        split
        · exact cmpS_range _ _
        split
        · exact cmpI_range _ _
        refine ordL_range _ _ fun f hf v => ?_
        obtain ⟨x, hx, rfl⟩ := List.mem_map.1 hf
        exact ih x hx v
      · exact cmpI_range _ _

theorem ordL_skip : ∀ (j : Nat) (fs : List (V → Int)) (vs : List V), j ≤ fs.length → j ≤ vs.length → (∀ (i : Nat) (f : V → Int) (v : V), i < j → fs[i]? = some f → vs[i]? = some v → f v = 0) → ordL fs vs = ordL (fs.drop j) (vs.drop j)
  | 0, _, _, _, _, _ => by simp
  | j + 1, [], _, h, _, _ => by simp at h
  | j + 1, _ :: _, [], _, h, _ => by simp at h
  | j + 1, f :: fs, v :: vs, h, h', hz => by
    have h0 := hz 0 f v (by omega) rfl rfl
    rw [List.drop_succ_cons, List.drop_succ_cons]
    conv => lhs; unfold ordL
    rw [if_pos h0]
    exact ordL_skip j fs vs (by simpa using h) (by simpa using h') fun i f v hi h1 h2 => hz (i + 1) f v (by omega) (by simpa using h1) (by simpa using h2)

theorem nanK (a : Int) (w : World) : Calls Try.prog 154 #[.int .u8 a] w fun e w' => e = .returned (.bool false) ∧ w' = w := by
  go_enter Try.func154, Try.ntmps154
  go_wp2
  go_ret
  exact ⟨by simp, rfl⟩

theorem cmpK_any (a b : Int) (w : World) : Calls Try.prog 145 #[.int .u8 a, .int .u8 b] w fun e w' => e = .returned (.int .i64 (cmpI a b)) ∧ w' = w := by
  have hN := nanK
  rcases Int.lt_trichotomy a b with h | h | h
  · have e1 : cmpI a b = -1 := by simp [cmpI, h]
    rw [e1]
    clear e1
    go_enter Try.func145, Try.ntmps145
    go_wp2_with fail
    refine (hN _ _).mono ?_
    rintro e w' ⟨rfl, rfl⟩
    go_wp2_with fail
    refine (hN _ _).mono ?_
    rintro e w' ⟨rfl, rfl⟩
    go_wp2
    go_ret
    exact ⟨rfl, rfl⟩
  · subst h
    have e1 : cmpI a a = 0 := by simp [cmpI]
    rw [e1]
    clear e1
    go_enter Try.func145, Try.ntmps145
    go_wp2_with fail
    refine (hN _ _).mono ?_
    rintro e w' ⟨rfl, rfl⟩
    go_wp2_with fail
    refine (hN _ _).mono ?_
    rintro e w' ⟨rfl, rfl⟩
    go_wp2
    go_ret
    exact ⟨rfl, rfl⟩
  · have h' : ¬ a < b := by omega
    have e1 : cmpI a b = 1 := by simp [cmpI, h, h']
    rw [e1]
    clear e1
    go_enter Try.func145, Try.ntmps145
    go_wp2_with fail
    refine (hN _ _).mono ?_
    rintro e w' ⟨rfl, rfl⟩
    go_wp2_with fail
    refine (hN _ _).mono ?_
    rintro e w' ⟨rfl, rfl⟩
    go_wp2
    go_ret
    exact ⟨rfl, rfl⟩

theorem nanN (a : Int) (w : World) : Calls Try.prog 155 #[.int .i64 a] w fun e w' => e = .returned (.bool false) ∧ w' = w := by
  go_enter Try.func155, Try.ntmps155
  go_wp2
  go_ret
  exact ⟨by simp, rfl⟩

theorem cmpN_any (a b : Int) (w : World) : Calls Try.prog 146 #[.int .i64 a, .int .i64 b] w fun e w' => e = .returned (.int .i64 (cmpI a b)) ∧ w' = w := by
  have hN := nanN
  rcases Int.lt_trichotomy a b with h | h | h
  · have e1 : cmpI a b = -1 := by simp [cmpI, h]
    rw [e1]
    clear e1
    go_enter Try.func146, Try.ntmps146
    go_wp2_with fail
    refine (hN _ _).mono ?_
    rintro e w' ⟨rfl, rfl⟩
    go_wp2_with fail
    refine (hN _ _).mono ?_
    rintro e w' ⟨rfl, rfl⟩
    go_wp2
    go_ret
    exact ⟨rfl, rfl⟩
  · subst h
    have e1 : cmpI a a = 0 := by simp [cmpI]
    rw [e1]
    clear e1
    go_enter Try.func146, Try.ntmps146
    go_wp2_with fail
    refine (hN _ _).mono ?_
    rintro e w' ⟨rfl, rfl⟩
    go_wp2_with fail
    refine (hN _ _).mono ?_
    rintro e w' ⟨rfl, rfl⟩
    go_wp2
    go_ret
    exact ⟨rfl, rfl⟩
  · have h' : ¬ a < b := by omega
    have e1 : cmpI a b = 1 := by simp [cmpI, h, h']
    rw [e1]
    clear e1
    go_enter Try.func146, Try.ntmps146
    go_wp2_with fail
    refine (hN _ _).mono ?_
    rintro e w' ⟨rfl, rfl⟩
    go_wp2_with fail
    refine (hN _ _).mono ?_
    rintro e w' ⟨rfl, rfl⟩
    go_wp2
    go_ret
    exact ⟨rfl, rfl⟩

theorem nanR (a : Int) (w : World) : Calls Try.prog 157 #[.int .i64 a] w fun e w' => e = .returned (.bool false) ∧ w' = w := by
  go_enter Try.func157, Try.ntmps157
  go_wp2
  go_ret
  exact ⟨by simp, rfl⟩

theorem cmpR_any (a b : Int) (w : World) : Calls Try.prog 148 #[.int .i64 a, .int .i64 b] w fun e w' => e = .returned (.int .i64 (cmpI a b)) ∧ w' = w := by
  have hN := nanR
  rcases Int.lt_trichotomy a b with h | h | h
  · have e1 : cmpI a b = -1 := by simp [cmpI, h]
    rw [e1]
    clear e1
    go_enter Try.func148, Try.ntmps148
    go_wp2_with fail
    refine (hN _ _).mono ?_
    rintro e w' ⟨rfl, rfl⟩
    go_wp2_with fail
    refine (hN _ _).mono ?_
    rintro e w' ⟨rfl, rfl⟩
    go_wp2
    go_ret
    exact ⟨rfl, rfl⟩
  · subst h
    have e1 : cmpI a a = 0 := by simp [cmpI]
    rw [e1]
    clear e1
    go_enter Try.func148, Try.ntmps148
    go_wp2_with fail
    refine (hN _ _).mono ?_
    rintro e w' ⟨rfl, rfl⟩
    go_wp2_with fail
    refine (hN _ _).mono ?_
    rintro e w' ⟨rfl, rfl⟩
    go_wp2
    go_ret
    exact ⟨rfl, rfl⟩
  · have h' : ¬ a < b := by omega
    have e1 : cmpI a b = 1 := by simp [cmpI, h, h']
    rw [e1]
    clear e1
    go_enter Try.func148, Try.ntmps148
    go_wp2_with fail
    refine (hN _ _).mono ?_
    rintro e w' ⟨rfl, rfl⟩
    go_wp2_with fail
    refine (hN _ _).mono ?_
    rintro e w' ⟨rfl, rfl⟩
    go_wp2
    go_ret
    exact ⟨rfl, rfl⟩

theorem nanS (a : ByteArray) (w : World) : Calls Try.prog 156 #[.string a] w fun e w' => e = .returned (.bool false) ∧ w' = w := by
  go_enter Try.func156, Try.ntmps156
  go_wp2
  go_ret
  exact ⟨by simp, rfl⟩

theorem cmpS_any (a b : ByteArray) (w : World) : Calls Try.prog 147 #[.string a, .string b] w fun e w' => e = .returned (.int .i64 (cmpS a b)) ∧ w' = w := by
  have hN := nanS
  cases h : Op.bytesLess a.toList b.toList with
  | true =>
    have e1 : cmpS a b = -1 := by simp [cmpS, h]
    rw [e1]
    clear e1
    go_enter Try.func147, Try.ntmps147
    go_wp2_with fail
    refine (hN _ _).mono ?_
    rintro e w' ⟨rfl, rfl⟩
    go_wp2_with fail
    refine (hN _ _).mono ?_
    rintro e w' ⟨rfl, rfl⟩
    go_wp2
    go_ret
    exact ⟨rfl, rfl⟩
  | false =>
    cases h' : a.toList == b.toList with
    | true =>
      have e1 : cmpS a b = 0 := by simp [cmpS, h, h']
      rw [e1]
      clear e1
      go_enter Try.func147, Try.ntmps147
      go_wp2_with fail
      refine (hN _ _).mono ?_
      rintro e w' ⟨rfl, rfl⟩
      go_wp2_with fail
      refine (hN _ _).mono ?_
      rintro e w' ⟨rfl, rfl⟩
      go_wp2
      go_ret
      exact ⟨rfl, rfl⟩
    | false =>
      have e1 : cmpS a b = 1 := by simp [cmpS, h, h']
      rw [e1]
      clear e1
      go_enter Try.func147, Try.ntmps147
      go_wp2_with fail
      refine (hN _ _).mono ?_
      rintro e w' ⟨rfl, rfl⟩
      go_wp2_with fail
      refine (hN _ _).mono ?_
      rintro e w' ⟨rfl, rfl⟩
      go_wp2
      go_ret
      exact ⟨rfl, rfl⟩

theorem ordL_done {fs : List (V → Int)} {vs : List V} (h : fs.length ≤ vs.length) (hz : ∀ (i : Nat) (f : V → Int) (v : V), i < fs.length → fs[i]? = some f → vs[i]? = some v → f v = 0) : ordL fs vs = if fs.length < vs.length then -1 else 0 := by
  rw [ordL_skip fs.length fs vs (Nat.le_refl _) h hz, List.drop_length]
  by_cases hl : fs.length < vs.length
  · rw [if_pos hl, List.drop_eq_getElem_cons hl]; rfl
  · rw [if_neg hl, List.drop_of_length_le (by omega)]; rfl

theorem ordL_more {fs : List (V → Int)} {vs : List V} (h : vs.length < fs.length) (hz : ∀ (i : Nat) (f : V → Int) (v : V), i < vs.length → fs[i]? = some f → vs[i]? = some v → f v = 0) : ordL fs vs = 1 := by
  rw [ordL_skip vs.length fs vs (by omega) (Nat.le_refl _) hz, List.drop_length, List.drop_eq_getElem_cons h]; rfl

theorem ordL_at {fs : List (V → Int)} {vs : List V} {j : Nat} {f : V → Int} {v : V} (hz : ∀ (i : Nat) (f : V → Int) (v : V), i < j → fs[i]? = some f → vs[i]? = some v → f v = 0) (h1 : fs[j]? = some f) (h2 : vs[j]? = some v) (hne : f v ≠ 0) : ordL fs vs = f v := by
  obtain ⟨l1, e1⟩ := List.getElem?_eq_some_iff.1 h1
  obtain ⟨l2, e2⟩ := List.getElem?_eq_some_iff.1 h2
  rw [ordL_skip j fs vs (by omega) (by omega) hz, List.drop_eq_getElem_cons l1, List.drop_eq_getElem_cons l2, e1, e2]
  unfold ordL
  rw [if_neg hne]

end Go.Proofs.Ytihjmipmjogpoaa

/- Chapter 2: order of two values; Order, Same. -/
namespace Go.Proofs.Ytihjmipmjogpoaa
open Go.RowKit

/-- The first m parts are equal. -/
def EqTo (fs : List (V → Int)) (vs : List V) (m : Nat) : Prop := ∀ (i : Nat) (f : V → Int) (v : V), i < m → fs[i]? = some f → vs[i]? = some v → f v = 0

theorem EqTo.zero (fs : List (V → Int)) (vs : List V) : EqTo fs vs 0 := fun i f v h => by omega

theorem EqTo.succ {fs : List (V → Int)} {vs : List V} {m : Nat} (h : EqTo fs vs m) {f : V → Int} {v : V} (h1 : fs[m]? = some f) (h2 : vs[m]? = some v) (h0 : f v = 0) : EqTo fs vs (m + 1) := by
  intro i g u hi g1 g2
  rcases Nat.lt_or_ge i m with hlt | hge
  · exact h i g u hlt g1 g2
  · obtain rfl : i = m := by omega
    rw [h1] at g1
    rw [h2] at g2
    injection g1 with g1
    injection g2 with g2
    subst g1 g2
    exact h0

set_option maxRecDepth 100000 in
set_option maxHeartbeats 4000000 in
/-- slices.CompareFunc by order. -/
theorem cf_any (A : Option Addr) (cap : Nat) (l : List T) (A' : Option Addr) (cap' : Nat) (l' : List T) (w : World) (lo hi lo' hi' : Nat) (h : (T.row A cap l).In w lo hi) (hh : hi ≤ w.heap.size) (h' : (T.row A' cap' l').In w lo' hi') (hh' : hi' ≤ w.heap.size)
    (hI : ∀ x ∈ l, ∀ (x' : T) (w : World) (lo hi lo' hi' : Nat), x.In w lo hi → hi ≤ w.heap.size → x'.In w lo' hi' → hi' ≤ w.heap.size → Calls Try.prog 118 #[x.val, x'.val] w fun e w' => e = .returned (.int .i64 (x.v.ord x'.v)) ∧ Fr No w w') :
    Calls Try.prog 149 #[.slice A l.length cap, .slice A' l'.length cap', .func (.func 118) #[] #[]] w fun e w' => e = .returned (.int .i64 (ordL (l.map fun x => x.v.ord) (l'.map T.v))) ∧ Fr No w w' := by
  unfold T.row at h h'
  have hl := (T.in_mk.1 h).1.len1
  have hl' := (T.in_mk.1 h').1.len1
  have HI := hide hI
  clear hI
  go_enter Try.func149, Try.ntmps149
  go_wp2_with fail
  go_loopw [13] (fun i wr => ∃ j : Nat, j ≤ l.length ∧ j ≤ l'.length ∧ i = .int .i64 j ∧ Fr No w wr ∧ EqTo (l.map fun x => x.v.ord) (l'.map T.v) j) (fun i _ => l.length - (intOf i).toNat)
  case atStart => exact ⟨0, Nat.zero_le _, Nat.zero_le _, rfl, Fr.refl _ _, EqTo.zero _ _⟩
  case round =>
    obtain ⟨j, hj, hj', rfl, fr, heq⟩ := hrel
    have HE := hide heq
    clear heq
    by_cases hlt : j < l.length
    · obtain ⟨b, o, k1, n1, s1, A1, cap1, l1, r1, rfl, hb0, hb1, hx, hin, e0, e1, e2, e3, e4⟩ := T.elem (h.no fr hh) hlt
      have g0 : b < wr.heap.size := by have := fr.size; omega
      by_cases hlt' : j < l'.length
      · obtain ⟨b', o', k2, n2, s2, A2, cap2, l2, r2, rfl, hb0', hb1', hx', hin', f0, f1, f2, f3, f4⟩ := T.elem (h'.no fr hh') hlt'
        have g1 : b' < wr.heap.size := by have := fr.size; omega
        have IH := HI.out l[j] (List.getElem_mem hlt) l'[j]
        have hg1 : (l.map fun x => x.v.ord)[j]? = some (T.mk k1 n1 s1 A1 cap1 l1 r1).v.ord := by rw [List.getElem?_map, List.getElem?_eq_getElem hlt, hx]; rfl
        have hg2 : (l'.map T.v)[j]? = some (T.mk k2 n2 s2 A2 cap2 l2 r2).v := by rw [List.getElem?_map, List.getElem?_eq_getElem hlt', hx']; rfl
        rw [hx, hx', T.val_mk, T.val_mk] at IH
        have hc := ord_range (T.mk k1 n1 s1 A1 cap1 l1 r1).v (T.mk k2 n2 s2 A2 cap2 l2 r2).v
        generalize hcc : (T.mk k1 n1 s1 A1 cap1 l1 r1).v.ord (T.mk k2 n2 s2 A2 cap2 l2 r2).v = c at *
        have hge : ¬ l'.length ≤ j := by omega
        have fr2 := (((Fr.refl No wr).alloc (.cells #[.int .u8 k1, .int .i64 n1, .string s1, .slice A1 l1.length cap1, .int .i64 r1] 27)).alloc (.cells #[.int .u8 k2, .int .i64 n2, .string s2, .slice A2 l2.length cap2, .int .i64 r2] 27))
        have hsz := fr.size
        have HI1 := hide (hin.no fr2 (by omega))
        have HI2 := hide (hin'.no fr2 (by omega))
        have HH1 := hide (Nat.le_trans hh (Nat.le_trans hsz fr2.size))
        have HH2 := hide (Nat.le_trans hh' (Nat.le_trans hsz fr2.size))
        have HF := hide (fr.trans fr2)
        have HC := hide hcc
        have HG1 := hide hg1
        have HG2 := hide hg2
        clear hx hx' hin hin' fr fr2 hcc hg1 hg2
        go_wp2_with fail
        refine (IH _ lo hi lo' hi' HI1.out HH1.out HI2.out HH2.out).mono ?_
        rintro e w2 ⟨rfl, fr3⟩
        have HF3 := hide (HF.out.trans fr3)
        clear fr3
        have HZ : Hid (c ≠ 0 → ordL (l.map fun x => x.v.ord) (l'.map T.v) = c) := fun hne => by
          have hc' := HC.out
          exact (ordL_at HE.out HG1.out HG2.out (by rw [hc']; exact hne)).trans hc'
        rcases hc with rfl | rfl | rfl
        · go_wp2
          go_ret
          exact ⟨by rw [HZ.out (by decide)]; rfl, HF3.out⟩
        · go_wp2
          go_roundw
          case rel => exact ⟨j + 1, hlt, hlt', by go_num, HF3.out, HE.out.succ HG1.out HG2.out HC.out⟩
          case measure => simp [intOf]; omega
        · go_wp2
          go_ret
          exact ⟨by rw [HZ.out (by decide)]; rfl, HF3.out⟩
      · obtain rfl : j = l'.length := by omega
        have hz : ordL (l.map fun x => x.v.ord) (l'.map T.v) = 1 := ordL_more (by simpa using hlt) (fun i f v hi => HE.out i f v (by simpa using hi))
        have HZ := hide hz
        have HF := hide fr
        clear hz fr hin hx
        go_wp2
        go_ret
        exact ⟨by rw [HZ.out]; rfl, HF.out.alloc _⟩
    · obtain rfl : j = l.length := by omega
      have hz : ordL (l.map fun x => x.v.ord) (l'.map T.v) = if l.length < l'.length then -1 else 0 := by
        have := ordL_done (fs := l.map fun x => x.v.ord) (vs := l'.map T.v) (by simpa using hj') (fun i f v hi => HE.out i f v (by simpa using hi))
        simpa using this
      have HZ := hide hz
      clear hz
      by_cases hlt2 : l.length < l'.length
      · go_wp2
        go_ret
        exact ⟨by rw [HZ.out, if_pos hlt2]; rfl, fr⟩
      · go_wp2
        go_ret
        exact ⟨by rw [HZ.out, if_neg hlt2]; rfl, fr⟩

set_option maxRecDepth 100000 in
set_option maxHeartbeats 4000000 in
/-- value.order. -/
theorem order_any (t : T) : ∀ (t' : T) (w : World) (lo hi lo' hi' : Nat), t.In w lo hi → hi ≤ w.heap.size → t'.In w lo' hi' → hi' ≤ w.heap.size → Calls Try.prog 118 #[t.val, t'.val] w fun e w' => e = .returned (.int .i64 (t.v.ord t'.v)) ∧ Fr No w w' := by
  induction t using T.ind with
  | h k n s A cap l r ih =>
    intro t' w lo hi lo' hi' ht hh ht' hh'
    cases t' with
    | mk k' n' s' A' cap' l' r' =>
      rw [T.val_mk, T.val_mk]
      have fr2 := ((Fr.refl No w).alloc (.cells #[.int .u8 k, .int .i64 n, .string s, .slice A l.length cap, .int .i64 r] 27)).alloc (.cells #[.int .u8 k', .int .i64 n', .string s', .slice A' l'.length cap', .int .i64 r'] 27)
      have hord : (T.mk k n s A cap l r).v.ord (T.mk k' n' s' A' cap' l' r').v = if k = k' then (if k = 1 then cmpI n n' else if k = 2 then cmpS s s' else if k = 4 then cmpI r r' else ordL (l.map fun x => x.v.ord) (l'.map T.v)) else cmpI k k' := by
        rw [T.v_mk, T.v_mk, V.ord_mk, ordOf, List.map_map]; rfl
      rw [hord]
      have fit := (T.in_mk.1 ht).1
      have fit' := (T.in_mk.1 ht').1
      have k0 := fit.k0
      have k1 := fit.k1
      have k0' := fit'.k0
      have k1' := fit'.k1
      by_cases hk : k = k'
      case neg =>
        have hk' : (k != k') = true := by simpa using hk
        have hC := cmpK_any k k'
        rw [if_neg hk]
        have HK := hide hk
        clear hk ih hord
        go_enter Try.func118, Try.ntmps118
        go_wp2_with fail
        refine (hC _).mono ?_
        rintro e w' ⟨rfl, rfl⟩
        go_wp2
        go_ret
        exact ⟨rfl, fr2⟩
      subst hk
      rw [if_pos rfl]
      by_cases h1 : k = 1
      · subst h1
        have hC := cmpN_any n n'
        rw [if_pos rfl]
        clear ih hord
        go_enter Try.func118, Try.ntmps118
        go_wp2_with fail
        refine (hC _).mono ?_
        rintro e w' ⟨rfl, rfl⟩
        go_wp2
        go_ret
        exact ⟨rfl, fr2⟩
      rw [if_neg h1]
      by_cases h2 : k = 2
      · subst h2
        have hC := cmpS_any s s'
        rw [if_pos rfl]
        clear ih hord
        go_enter Try.func118, Try.ntmps118
        go_wp2_with fail
        refine (hC _).mono ?_
        rintro e w' ⟨rfl, rfl⟩
        go_wp2
        go_ret
        exact ⟨rfl, fr2⟩
      rw [if_neg h2]
      by_cases h4 : k = 4
      · subst h4
        have hC := cmpR_any r r'
        rw [if_pos rfl]
        clear ih hord
        go_enter Try.func118, Try.ntmps118
        go_wp2_with fail
        refine (hC _).mono ?_
        rintro e w' ⟨rfl, rfl⟩
        go_wp2
        go_ret
        exact ⟨rfl, fr2⟩
      rw [if_neg h4]
      have h1' : (k == 1) = false := by simpa using h1
      have h2' : (k == 2) = false := by simpa using h2
      have h4' : (k == 4) = false := by simpa using h4
      have hin : (T.row A cap l).In w lo hi := T.in_mk.2 ⟨⟨by omega, by omega, by omega, by omega, by simp [ByteArray.size], fit.len1, fit.cap1, by omega, by omega⟩, (T.in_mk.1 ht).2⟩
      have hin' : (T.row A' cap' l').In w lo' hi' := T.in_mk.2 ⟨⟨by omega, by omega, by omega, by omega, by simp [ByteArray.size], fit'.len1, fit'.cap1, by omega, by omega⟩, (T.in_mk.1 ht').2⟩
      have hC := fun w1 (f : Fr No w w1) => cf_any A cap l A' cap' l' w1 lo hi lo' hi' (hin.no f hh) (Nat.le_trans hh f.size) (hin'.no f hh') (Nat.le_trans hh' f.size) ih
      have HC := hide hC
      have HF := hide fr2
      clear hC hin hin' ih hord h1 h2 h4 fr2
      go_enter Try.func118, Try.ntmps118
      go_wp2_with fail
      refine (HC.out _ HF.out).mono ?_
      rintro e w' ⟨rfl, fr3⟩
      go_wp2
      go_ret
      exact ⟨rfl, HF.out.trans fr3⟩

end Go.Proofs.Ytihjmipmjogpoaa

/- Chapter 2: Order, Same. -/
namespace Go.Proofs.Ytihjmipmjogpoaa
open Go.RowKit

def V.same2 (u v : V) : Bool := u.may && v.may && decide (u.ord v = 0)

set_option maxRecDepth 100000 in
set_option maxHeartbeats 4000000 in
/-- value.Same. -/
theorem vsame_any (a b : T) (w : World) (lo hi : Nat) (ha : a.In w lo hi) (hb : b.In w lo hi) (hh : hi ≤ w.heap.size) : Calls Try.prog 54 #[a.val, b.val] w fun e w' => e = .returned (.bool (a.v.same2 b.v)) ∧ Fr No w w' := by
  have hMa := fun w' h h' => may_any a w' lo hi h h'
  have hMb := fun w' h h' => may_any b w' lo hi h h'
  have hO := fun w' h h' h'' => order_any a b w' lo hi lo hi h h'' h' h''
  have hr := ord_range a.v b.v
  cases a with
  | mk k n s A cap l r =>
  cases b with
  | mk k' n' s' A' cap' l' r' =>
    rw [T.val_mk] at *
    rw [T.val_mk] at *
    generalize hu : (T.mk k n s A cap l r).v = u at *
    generalize hv : (T.mk k' n' s' A' cap' l' r').v = v at *
    have fr1 := ((Fr.refl No w).alloc (.cells #[.int .u8 k, .int .i64 n, .string s, .slice A l.length cap, .int .i64 r] 27)).alloc (.cells #[.int .u8 k', .int .i64 n', .string s', .slice A' l'.length cap', .int .i64 r'] 27)
    have hK := (Blk.new' w 27 #[.int .u8 k, .int .i64 n, .string s, .slice A l.length cap, .int .i64 r] rfl).alloc (.cells #[.int .u8 k', .int .i64 n', .string s', .slice A' l'.length cap', .int .i64 r'] 27)
    have hV := Blk.new' (w.alloc (.cells #[.int .u8 k, .int .i64 n, .string s, .slice A l.length cap, .int .i64 r] 27)) 27 #[.int .u8 k', .int .i64 n', .string s', .slice A' l'.length cap', .int .i64 r'] (g := w.heap.size + 1) (by simp)
    have ha1 := ha.no fr1 hh
    have hb1 := hb.no fr1 hh
    have hs1 := Nat.le_trans hh fr1.size
    have HU := hide hu
    have HV := hide hv
    clear hu hv ha hb
    cases hma : u.may with
    | false =>
      have e1 : u.same2 v = false := by simp [V.same2, hma]
      rw [hma] at hMa
      rw [e1]
      clear hma e1
      go_enter Try.func54, Try.ntmps54
      go_wp2_with fail
      refine (hMa _ ha1 hs1).mono ?_
      rintro e w2 ⟨rfl, fr2⟩
      go_wp2
      go_ret
      exact ⟨rfl, fr1.trans fr2⟩
    | true =>
      rw [hma] at hMa
      cases hmb : v.may with
      | false =>
        have e1 : u.same2 v = false := by simp [V.same2, hmb]
        rw [hmb] at hMb
        rw [e1]
        clear hma hmb e1
        go_enter Try.func54, Try.ntmps54
        go_wp2_with fail
        generalize World.alloc _ _ = W0 at *
        refine (hMa _ ha1 hs1).mono ?_
        rintro e w2 ⟨rfl, fr2⟩
        obtain ⟨v0, v1, v2, v3, v4, -⟩ := (hV.fr fr2 fun h => h).cells5
        have hb2 := hb1.no fr2 hs1
        have hs2 := Nat.le_trans hs1 fr2.size
        have HF := hide (fr1.trans fr2)
        clear fr1 fr2 hK hV
        go_wp2_with fail
        refine (hMb _ hb2 hs2).mono ?_
        rintro e w3 ⟨rfl, fr3⟩
        go_wp2
        go_ret
        exact ⟨rfl, HF.out.trans fr3⟩
      | true =>
        have e1 : u.same2 v = decide (u.ord v = 0) := by simp [V.same2, hma, hmb]
        rw [hmb] at hMb
        rw [e1]
        generalize u.ord v = c at *
        clear hma hmb e1
        go_enter Try.func54, Try.ntmps54
        go_wp2_with fail
        generalize World.alloc _ _ = W0 at *
        refine (hMa _ ha1 hs1).mono ?_
        rintro e w2 ⟨rfl, fr2⟩
        have hK2 := hK.fr fr2 fun h => h
        have hV2 := hV.fr fr2 fun h => h
        obtain ⟨v0, v1, v2, v3, v4, -⟩ := hV2.cells5
        have ha2 := ha1.no fr2 hs1
        have hb2 := hb1.no fr2 hs1
        have hs2 := Nat.le_trans hs1 fr2.size
        have HF := hide (fr1.trans fr2)
        clear fr1 fr2 hK hV
        go_wp2_with fail
        refine (hMb _ hb2 hs2).mono ?_
        rintro e w3 ⟨rfl, fr3⟩
        clear v0 v1 v2 v3 v4
        obtain ⟨v0, v1, v2, v3, v4, -⟩ := (hV2.fr fr3 fun h => h).cells5
        obtain ⟨c0, c1, c2, c3, c4, -⟩ := (hK2.fr fr3 fun h => h).cells5
        have ha3 := ha2.no fr3 hs2
        have hb3 := hb2.no fr3 hs2
        have hs3 := Nat.le_trans hs2 fr3.size
        have HF3 := hide (HF.out.trans fr3)
        clear fr3 hK2 hV2
        go_wp2_with fail
        refine (hO _ ha3 hb3 hs3).mono ?_
        rintro e w4 ⟨rfl, fr4⟩
        have HF4 := hide (HF3.out.trans fr4)
        clear fr4
        rcases hr with rfl | rfl | rfl
        all_goals
          go_wp2
          go_ret
          exact ⟨rfl, HF4.out⟩

set_option maxRecDepth 100000 in
set_option maxHeartbeats 4000000 in
/-- value.Order. -/
theorem vorder_any (a b : T) (w : World) (lo hi : Nat) (ha : a.In w lo hi) (hb : b.In w lo hi) (hh : hi ≤ w.heap.size) :
    Calls Try.prog 55 #[a.val, b.val] w fun e w' => e = .returned (.tuple #[.int .i64 (if (a.v.may && b.v.may) = true then a.v.ord b.v else 0), .int .i64 (if (a.v.may && b.v.may) = true then 0 else 2)]) ∧ Fr No w w' := by
  have hMa := fun w' h h' => may_any a w' lo hi h h'
  have hMb := fun w' h h' => may_any b w' lo hi h h'
  have hO := fun w' h h' h'' => order_any a b w' lo hi lo hi h h'' h' h''
  cases a with
  | mk k n s A cap l r =>
  cases b with
  | mk k' n' s' A' cap' l' r' =>
    rw [T.val_mk] at *
    rw [T.val_mk] at *
    generalize hu : (T.mk k n s A cap l r).v = u at *
    generalize hv : (T.mk k' n' s' A' cap' l' r').v = v at *
    have fr1 := ((Fr.refl No w).alloc (.cells #[.int .u8 k, .int .i64 n, .string s, .slice A l.length cap, .int .i64 r] 27)).alloc (.cells #[.int .u8 k', .int .i64 n', .string s', .slice A' l'.length cap', .int .i64 r'] 27)
    have hK := (Blk.new' w 27 #[.int .u8 k, .int .i64 n, .string s, .slice A l.length cap, .int .i64 r] rfl).alloc (.cells #[.int .u8 k', .int .i64 n', .string s', .slice A' l'.length cap', .int .i64 r'] 27)
    have hV := Blk.new' (w.alloc (.cells #[.int .u8 k, .int .i64 n, .string s, .slice A l.length cap, .int .i64 r] 27)) 27 #[.int .u8 k', .int .i64 n', .string s', .slice A' l'.length cap', .int .i64 r'] (g := w.heap.size + 1) (by simp)
    have ha1 := ha.no fr1 hh
    have hb1 := hb.no fr1 hh
    have hs1 := Nat.le_trans hh fr1.size
    have HU := hide hu
    have HV := hide hv
    clear hu hv ha hb
    cases hma : u.may with
    | false =>
      rw [hma] at hMa
      simp only [Bool.false_and, Bool.false_eq_true, if_false]
      clear hma
      go_enter Try.func55, Try.ntmps55
      go_wp2_with fail
      refine (hMa _ ha1 hs1).mono ?_
      rintro e w2 ⟨rfl, fr2⟩
      go_wp2
      go_ret2
      exact ⟨rfl, fr1.trans fr2⟩
    | true =>
      rw [hma] at hMa
      cases hmb : v.may with
      | false =>
        rw [hmb] at hMb
        simp only [Bool.and_false, Bool.false_eq_true, if_false]
        clear hma hmb
        go_enter Try.func55, Try.ntmps55
        go_wp2_with fail
        generalize World.alloc _ _ = W0 at *
        refine (hMa _ ha1 hs1).mono ?_
        rintro e w2 ⟨rfl, fr2⟩
        obtain ⟨v0, v1, v2, v3, v4, -⟩ := (hV.fr fr2 fun h => h).cells5
        have hb2 := hb1.no fr2 hs1
        have hs2 := Nat.le_trans hs1 fr2.size
        have HF := hide (fr1.trans fr2)
        clear fr1 fr2 hK hV
        go_wp2_with fail
        refine (hMb _ hb2 hs2).mono ?_
        rintro e w3 ⟨rfl, fr3⟩
        go_wp2
        go_ret2
        exact ⟨rfl, HF.out.trans fr3⟩
      | true =>
        rw [hmb] at hMb
        simp only [Bool.and_true, if_true]
        generalize u.ord v = c at *
        clear hma hmb
        go_enter Try.func55, Try.ntmps55
        go_wp2_with fail
        generalize World.alloc _ _ = W0 at *
        refine (hMa _ ha1 hs1).mono ?_
        rintro e w2 ⟨rfl, fr2⟩
        have hK2 := hK.fr fr2 fun h => h
        have hV2 := hV.fr fr2 fun h => h
        obtain ⟨v0, v1, v2, v3, v4, -⟩ := hV2.cells5
        have ha2 := ha1.no fr2 hs1
        have hb2 := hb1.no fr2 hs1
        have hs2 := Nat.le_trans hs1 fr2.size
        have HF := hide (fr1.trans fr2)
        clear fr1 fr2 hK hV
        go_wp2_with fail
        refine (hMb _ hb2 hs2).mono ?_
        rintro e w3 ⟨rfl, fr3⟩
        clear v0 v1 v2 v3 v4
        obtain ⟨v0, v1, v2, v3, v4, -⟩ := (hV2.fr fr3 fun h => h).cells5
        obtain ⟨c0, c1, c2, c3, c4, -⟩ := (hK2.fr fr3 fun h => h).cells5
        have ha3 := ha2.no fr3 hs2
        have hb3 := hb2.no fr3 hs2
        have hs3 := Nat.le_trans hs2 fr3.size
        have HF3 := hide (HF.out.trans fr3)
        clear fr3 hK2 hV2
        go_wp2_with fail
        refine (hO _ ha3 hb3 hs3).mono ?_
        rintro e w4 ⟨rfl, fr4⟩
        go_wp2
        go_ret2
        exact ⟨rfl, HF3.out.trans fr4⟩

end Go.Proofs.Ytihjmipmjogpoaa

/- Chapter 2: At. -/
namespace Go.Proofs.Ytihjmipmjogpoaa
open Go.RowKit

/-- What At answers: the part, the error. -/
def atOf (v : V) (p : List Int) : V × Int := if v.may = true then (match vAt p v with | some x => (x, 0) | none => (V.zero, 22)) else (V.zero, 2)

set_option maxRecDepth 100000 in
set_option maxHeartbeats 4000000 in
theorem At_any (t : T) (w : World) (lo hi : Nat) (ht : t.In w lo hi) (hh : hi ≤ w.heap.size) (A : Option Addr) (cap : Nat) (p : List Int) (lo' hi' : Nat) (hp : Ints w lo' hi' A cap p) (hh' : hi' ≤ w.heap.size) :
    Calls Try.prog 68 #[t.val, .slice A p.length cap] w (OwnE (atOf t.v p).1 (atOf t.v p).2 w) := by
  have hM := fun w' h h' => may_any t w' lo hi h h'
  have hF := fun w' h h' h1 h2 => find2_any t w' lo hi h h' A cap p lo' hi' h1 h2
  have hO := own_any
  cases t with
  | mk k n s A1 cap1 l r =>
    rw [T.val_mk] at *
    generalize hu : (T.mk k n s A1 cap1 l r).v = u at *
    have fr1 : Fr No w ((w.alloc (.cells #[.int .u8 k, .int .i64 n, .string s, .slice A1 l.length cap1, .int .i64 r] 27)).alloc (.cells #[.int .u8 0, .int .i64 0, .string ⟨#[]⟩, .slice none 0 0, .int .i64 0] 27)) := ((Fr.refl No w).alloc _).alloc _
    have hK : Blk ((w.alloc (.cells #[.int .u8 k, .int .i64 n, .string s, .slice A1 l.length cap1, .int .i64 r] 27)).alloc (.cells #[.int .u8 0, .int .i64 0, .string ⟨#[]⟩, .slice none 0 0, .int .i64 0] 27)) w.heap.size 27 #[.int .u8 k, .int .i64 n, .string s, .slice A1 l.length cap1, .int .i64 r] := (Blk.new' w 27 _ rfl).alloc _
    have hZ : Blk ((w.alloc (.cells #[.int .u8 k, .int .i64 n, .string s, .slice A1 l.length cap1, .int .i64 r] 27)).alloc (.cells #[.int .u8 0, .int .i64 0, .string ⟨#[]⟩, .slice none 0 0, .int .i64 0] 27)) (w.heap.size + 1) 27 #[.int .u8 0, .int .i64 0, .string ⟨#[]⟩, .slice none 0 0, .int .i64 0] := Blk.new' (w.alloc _) 27 _ (by simp)
    have ht1 := ht.no fr1 hh
    have hp1 := hp.no fr1 hh'
    have hs0 : w.heap.size + 2 ≤ ((w.alloc (.cells #[.int .u8 k, .int .i64 n, .string s, .slice A1 l.length cap1, .int .i64 r] 27)).alloc (.cells #[.int .u8 0, .int .i64 0, .string ⟨#[]⟩, .slice none 0 0, .int .i64 0] 27)).heap.size := by simp
    have HU := hide hu
    clear hu ht hp
    cases hm : u.may with
    | false =>
      have e1 : atOf u p = (V.zero, 2) := by simp [atOf, hm]
      rw [e1]
      rw [hm] at hM
      clear hm e1 hF
      go_enter Try.func68, Try.ntmps68
      go_wp2_with fail
      generalize World.alloc _ (.cells #[.int .u8 0, .int .i64 0, .string ⟨#[]⟩, .slice none 0 0, .int .i64 0] 27) = W0 at *
      refine (hM _ ht1 (by omega)).mono ?_
      rintro e w2 ⟨rfl, fr2⟩
      have hZ2 := hZ.fr fr2 fun h => h
      obtain ⟨d0, d1, d2, d3, d4, df⟩ := hZ2.cells5
      have q0 := hZ2.lt
      have HF := hide (fr1.trans fr2)
      clear fr1 fr2 hK hZ hZ2 hM
      go_wp2
      refine bodyPost_ret (v := .tuple #[.agg #[.int .u8 0, .int .i64 0, .string ⟨#[]⟩, .slice none 0 0, .int .i64 0], .int .i64 2]) (by simp [results, Try.results68, go_sem, *]) rfl ?_
      have hF2 := HF.out
      refine ⟨T.zero, rfl, T.zero_v, T.zero_ow _ _ _, ?_⟩
      repeat (first | with_reducible exact hF2 | with_reducible refine Fr.setNew ?_ (by first | (simp; done) | (simp; omega)) _)
    | true =>
      have e1 : atOf u p = (match vAt p u with | some x => (x, 0) | none => (V.zero, 22)) := by simp [atOf, hm]
      have E1 := hide e1
      rw [hm] at hM
      clear hm e1
      go_enter Try.func68, Try.ntmps68
      go_wp2_with fail
      generalize World.alloc _ (.cells #[.int .u8 0, .int .i64 0, .string ⟨#[]⟩, .slice none 0 0, .int .i64 0] 27) = W0 at *
      refine (hM _ ht1 (by omega)).mono ?_
      rintro e w2 ⟨rfl, fr2⟩
      have hZ2 := hZ.fr fr2 fun h => h
      obtain ⟨c0, c1, c2, c3, c4, cf⟩ := (hK.fr fr2 fun h => h).cells5
      have ht2 := ht1.no fr2 (by omega)
      have hp2 := hp1.no fr2 (by omega)
      have hs2 := fr2.size
      have HF := hide (fr1.trans fr2)
      clear fr1 fr2 hK hZ hM
      go_wp2_with fail
      refine (hF _ ht2 (by omega) hp2 (by omega)).mono ?_
      rintro e w3 ⟨fr3, hP⟩
      have hZ3 := hZ2.fr fr3 fun h => h
      have hs3 := fr3.size
      have HF3 := hide (HF.out.trans fr3)
      clear c0 c1 c2 c3 c4 cf hF hZ2 fr3
      rcases hP with ⟨⟨k2, n2, s2, A2, cap2, l2, r2⟩, rfl, hv, hin⟩ | ⟨rfl, hv⟩
      · have e2 : atOf u p = ((T.mk k2 n2 s2 A2 cap2 l2 r2).v, 0) := by rw [E1.out, hv]
        have E2 := hide e2
        rw [T.val_mk]
        have frB := (Fr.refl No w3).alloc (.cells #[.int .u8 k2, .int .i64 n2, .string s2, .slice A2 l2.length cap2, .int .i64 r2] 27)
        have hinB := hin.no frB (by omega)
        have hO1 := hO (T.mk k2 n2 s2 A2 cap2 l2 r2) (w3.alloc (.cells #[.int .u8 k2, .int .i64 n2, .string s2, .slice A2 l2.length cap2, .int .i64 r2] 27)) lo hi hinB (Nat.le_trans (by omega) frB.size)
        rw [T.val_mk] at hO1
        have HO := hide hO1
        have HZB := hide (hZ3.alloc (.cells #[.int .u8 k2, .int .i64 n2, .string s2, .slice A2 l2.length cap2, .int .i64 r2] 27))
        have HFB := hide (HF3.out.alloc (.cells #[.int .u8 k2, .int .i64 n2, .string s2, .slice A2 l2.length cap2, .int .i64 r2] 27))
        have hsB : w.heap.size + 2 ≤ (w3.alloc (.cells #[.int .u8 k2, .int .i64 n2, .string s2, .slice A2 l2.length cap2, .int .i64 r2] 27)).heap.size := by simp; omega
        have HSB := hide hsB
        clear e2 hv hin frB hinB hO1 hZ3 hO hsB
        go_wp2_with fail
        refine HO.out.mono ?_
        rintro e w4 ⟨⟨k3, n3, s3, A3, cap3, l3, r3⟩, rfl, hv3, how, fr4⟩
        rw [T.val_mk]
        have hZ4 := HZB.out.fr fr4 fun h => h
        obtain ⟨d0, d1, d2, d3, d4, df⟩ := hZ4.cells5
        have q0 := hZ4.lt
        have HF4 := hide (HFB.out.trans fr4)
        have HV3 := hide hv3
        have HOW := hide how
        have hs5 := HSB.out
        have hs6 := fr4.size
        clear hZ4 fr4 hv3 how
        go_wp2
        refine bodyPost_ret (v := .tuple #[.agg #[.int .u8 k3, .int .i64 n3, .string s3, .slice A3 l3.length cap3, .int .i64 r3], .int .i64 0]) (by simp [results, Try.results68, go_sem, *]) rfl ?_
        have hF2 := HF4.out
        have hO2 := HOW.out
        refine ⟨T.mk k3 n3 s3 A3 cap3 l3 r3, by rw [E2.out]; rfl, by rw [E2.out]; exact HV3.out, ?_, ?_⟩
        · refine ((hO2.fr (S := (· = w.heap.size + 1)) ?_ (Nat.le_refl _) (fun i h0 h1 h2 => by have h' : i = w.heap.size + 1 := h2; omega)).more (by omega) (by simp))
          repeat (first | with_reducible exact Fr.refl _ w4 | with_reducible refine Fr.set ?_ (by simp) _)
        · repeat (first | with_reducible exact hF2 | with_reducible refine Fr.setNew ?_ (by first | (simp; done) | (simp; omega)) _)
      · have e2 : atOf u p = (V.zero, 22) := by rw [E1.out, hv]
        have E2 := hide e2
        clear e2 hv hO
        have HZ3 := hide (hZ3.alloc (.cells #[.int .u8 0, .int .i64 0, .string ⟨#[]⟩, .slice none 0 0, .int .i64 0] 27))
        obtain ⟨d0, d1, d2, d3, d4, df⟩ := hZ3.cells5
        have q0 := hZ3.lt
        clear hZ3
        go_wp2
        refine bodyPost_ret (v := .tuple #[.agg #[.int .u8 0, .int .i64 0, .string ⟨#[]⟩, .slice none 0 0, .int .i64 0], .int .i64 22]) (by simp [results, Try.results68, go_sem, *]) rfl ?_
        have hF2 := HF3.out
        refine ⟨T.zero, by rw [E2.out]; rfl, by rw [E2.out]; exact T.zero_v, T.zero_ow _ _ _, ?_⟩
        repeat (first | with_reducible exact hF2 | with_reducible refine Fr.setNew ?_ (by first | (simp; done) | (simp; omega)) _ | with_reducible refine Fr.alloc ?_ _)

end Go.Proofs.Ytihjmipmjogpoaa

/- Chapter 2: the bytes of a value, there and back; the order. Plain laws, no program in sight. -/
namespace Go.Proofs.Ytihjmipmjogpoaa
open Go.RowKit


/-! ### Rows of bytes -/
def ofB (l : List Nat) : ByteArray := ⟨(l.map UInt8.ofNat).toArray⟩

theorem ba_ext {a b : ByteArray} (h : a.data.toList = b.data.toList) : a = b := by
  cases a; cases b; simp at h; exact congrArg ByteArray.mk h

theorem ofB_data (l : List Nat) : (ofB l).data.toList = l.map UInt8.ofNat := rfl
theorem ofB_nil : ofB [] = ⟨#[]⟩ := rfl
theorem ofB_append (a b : List Nat) : ofB (a ++ b) = ofB a ++ ofB b := by
  apply ba_ext; simp [ofB, ByteArray.data_append]
theorem ofB_size (l : List Nat) : (ofB l).size = l.length := by simp [ofB, ByteArray.size]
theorem strB_ofB {l : List Nat} (h : ∀ x ∈ l, x < 256) : strB (ofB l) = l := by
  unfold strB ofB
  simp only [List.map_map]
  rw [List.map_congr_left (g := id) (fun x hx => by simp [Nat.mod_eq_of_lt (h x hx)])]
  simp
theorem ofB_strB (s : ByteArray) : ofB (strB s) = s := by
  apply ba_ext
  have h : (UInt8.ofNat ∘ UInt8.toNat) = id := by funext x; simp
  simp [ofB, strB, h]
theorem encS_eq (v : V) : v.encS = ofB v.enc := by
  unfold V.encS strOfNums ofB
  simp [Function.comp_def]

theorem app_assoc (a b c : ByteArray) : a ++ b ++ c = a ++ (b ++ c) := by
  apply ba_ext; simp [ByteArray.data_append]

theorem app_nil (a : ByteArray) : a ++ ⟨#[]⟩ = a := by
  apply ba_ext; simp [ByteArray.data_append]

theorem nil_app (a : ByteArray) : (⟨#[]⟩ : ByteArray) ++ a = a := by
  apply ba_ext; simp [ByteArray.data_append]

theorem ext_left (a b : ByteArray) (n : Nat) (h : a.size = n) : (a ++ b).extract 0 n = a := by
  apply ba_ext
  have h' : a.data.toList.length = n := by rw [Array.length_toList]; exact h
  simp only [ByteArray.data_extract, ByteArray.data_append, Array.toList_extract, Array.toList_append, List.extract_eq_take_drop, List.drop_zero, Nat.sub_zero]
  rw [List.take_append_of_le_length (by omega), List.take_of_length_le (by omega)]

theorem ext_right (a b : ByteArray) (n : Nat) (h : a.size = n) : (a ++ b).extract n (a ++ b).size = b := by
  apply ba_ext
  have h' : a.data.toList.length = n := by rw [Array.length_toList]; exact h
  have h2 : (a ++ b).size = a.data.toList.length + b.data.toList.length := by
    rw [show (a ++ b).size = (a ++ b).data.toList.length from by rw [Array.length_toList]; rfl, ByteArray.data_append]; simp
  rw [h2]
  simp only [ByteArray.data_extract, ByteArray.data_append, Array.toList_extract, Array.toList_append, List.extract_eq_take_drop]
  rw [List.drop_append_of_le_length (by omega), List.drop_of_length_le (by omega), List.nil_append, List.take_of_length_le (by omega)]

theorem app_size (a b : ByteArray) : (a ++ b).size = a.size + b.size := by
  rw [show (a ++ b).size = (a ++ b).data.toList.length from by rw [Array.length_toList]; rfl, ByteArray.data_append, Array.toList_append, List.length_append, Array.length_toList, Array.length_toList]
  rfl

theorem ext_all (s : ByteArray) (n : Nat) (h : n ≤ s.size) : s.extract 0 n ++ s.extract n s.size = s := by
  apply ba_ext
  have h' : s.data.toList.length = s.size := by rw [Array.length_toList]; rfl
  simp only [ByteArray.data_extract, ByteArray.data_append, Array.toList_extract, Array.toList_append, List.extract_eq_take_drop, List.drop_zero, Nat.sub_zero]
  rw [List.take_of_length_le (l := List.drop n s.data.toList) (by simp), List.take_append_drop]

/-! ### Numbers by bytes -/
theorem foldl_big (l : List Nat) : ∀ a : Nat, l.foldl (fun a x => a * 256 + x) a = a * 256 ^ l.length + bigN l := by
  induction l with
  | nil => intro a; simp [bigN]
  | cons x l ih =>
    intro a
    simp only [List.foldl_cons, List.length_cons, bigN]
    rw [ih (a * 256 + x), ih (0 * 256 + x), Nat.zero_mul, Nat.zero_add, Nat.add_mul, Nat.pow_succ, Nat.mul_assoc a 256, Nat.mul_comm 256, Nat.add_assoc]

theorem bigN_cons (x : Nat) (l : List Nat) : bigN (x :: l) = x * 256 ^ l.length + bigN l := by
  show (x :: l).foldl (fun a x => a * 256 + x) 0 = _
  rw [List.foldl_cons, foldl_big, Nat.zero_mul, Nat.zero_add]

theorem p256 (j : Nat) : 2 ^ (8 * j) = 256 ^ j := by rw [Nat.pow_mul]

theorem bigN_hiB (n j : Nat) : bigN (hiB n j) = n % 256 ^ j := by
  induction j with
  | zero => simp [hiB, bigN, Nat.mod_one]
  | succ j ih =>
    rw [hiB, bigN_cons, hiB_length, ih, p256, Nat.pow_succ, Nat.mul_comm (256 ^ j) 256, Nat.mul_comm 256, Nat.mod_mul, Nat.mul_comm, Nat.add_comm]

theorem hiB_lt (n j : Nat) : ∀ x ∈ hiB n j, x < 256 := by
  induction j with
  | zero => simp [hiB]
  | succ j ih => intro x hx; rw [hiB] at hx; rcases List.mem_cons.1 hx with rfl | hx; exact Nat.mod_lt _ (by decide); exact ih x hx

theorem hiB_mod (n m j : Nat) (h : n % 256 ^ j = m % 256 ^ j) : hiB n j = hiB m j := by
  induction j with
  | zero => rfl
  | succ j ih =>
    have h1 : n % 256 ^ j = m % 256 ^ j := by
      have := congrArg (· % 256 ^ j) h
      simpa [Nat.pow_succ, Nat.mod_mul_right_mod] using this
    rw [hiB, hiB, ih h1, p256]
    congr 1
    rw [Nat.pow_succ, Nat.mod_mul, Nat.mod_mul, h1] at h
    have h2 := Nat.add_left_cancel h
    exact Nat.eq_of_mul_eq_mul_left (Nat.pow_pos (by decide)) h2

theorem hiB_bigN : ∀ (l : List Nat), (∀ x ∈ l, x < 256) → hiB (bigN l) l.length = l := by
  intro l
  induction l with
  | nil => intro _; rfl
  | cons x l ih =>
    intro h
    have hx := h x (by simp)
    have hl := bigN_lt l fun y hy => h y (by simp [hy])
    rw [List.length_cons, hiB, p256, bigN_cons]
    congr 1
    · rw [Nat.mul_comm, Nat.mul_add_div (Nat.pow_pos (by decide)), Nat.div_eq_of_lt hl, Nat.add_zero, Nat.mod_eq_of_lt hx]
    · rw [hiB_mod _ (bigN l) _ (by rw [Nat.mul_comm, Nat.mul_add_mod]), ih fun y hy => h y (by simp [hy])]

theorem cut_app (l : List Nat) (s : ByteArray) (n : Nat) (hl : l.length = n) (h : ∀ x ∈ l, x < 256) : cutN (ofB l ++ s) n = some (bigN l, s) := by
  have hs : (ofB l).size = n := by rw [ofB_size, hl]
  rw [cutN_some (by rw [app_size]; omega), ext_left _ _ _ hs, ext_right _ _ _ hs, strB_ofB h]

theorem cut_sound {s s' : ByteArray} {n x : Nat} (h : cutN s n = some (x, s')) : s = ofB (hiB x n) ++ s' ∧ x < 256 ^ n := by
  unfold cutN at h
  split at h
  · rename_i hn
    injection h with h
    injection h with h1 h2
    have hl : (strB (s.extract 0 n)).length = n := by rw [strB_length, ByteArray.size_extract]; omega
    have h3 := hiB_bigN (strB (s.extract 0 n)) (strB_lt _)
    rw [hl, h1] at h3
    refine ⟨?_, ?_⟩
    · rw [h3, ofB_strB, ← h2, ext_all _ _ hn]
    · rw [← h1]; have := bigN_lt _ (strB_lt (s.extract 0 n)); rwa [hl] at this
  · cases h

theorem hd_app (x : Nat) (l : List Nat) (s : ByteArray) (hx : x < 256) : hdB (ofB (x :: l) ++ s) = x ∧ (ofB (x :: l) ++ s).extract 1 (ofB (x :: l) ++ s).size = ofB l ++ s ∧ ¬ (ofB (x :: l) ++ s).size < 1 := by
  refine ⟨?_, ?_, by rw [app_size, ofB_size]; simp⟩
  · unfold hdB
    rw [ByteArray.data_append, Array.toList_append]
    show (UInt8.ofNat x).toNat = x
    simp [Nat.mod_eq_of_lt hx]
  · have e : ofB (x :: l) ++ s = ofB [x] ++ (ofB l ++ s) := by rw [← app_assoc, ← ofB_append]; rfl
    rw [e]
    exact ext_right (ofB [x]) _ 1 rfl

theorem hd_sound {s : ByteArray} (h : ¬ s.size < 1) : s = ofB [hdB s] ++ s.extract 1 s.size := by
  have h1 : s.extract 0 1 = ofB [hdB s] := by
    apply ba_ext
    have h0 : 0 < s.data.toList.length := by rw [Array.length_toList]; exact (by omega : 0 < s.size)
    simp only [ByteArray.data_extract, Array.toList_extract, List.extract_eq_take_drop, List.drop_zero, Nat.sub_zero, ofB_data, hdB, List.map_cons, List.map_nil]
    cases hd : s.data.toList with
    | nil => rw [hd] at h0; simp at h0
    | cons x l => simp
  rw [← h1, ext_all _ _ (by omega)]



/-- Numbers within 64 bits. -/
def V.rng : V → Bool
  | .mk _ n _ l _ => decide (-9223372036854775808 ≤ n) && decide (n ≤ 9223372036854775807) && (l.map V.rng).all id
termination_by v => v
theorem V.rng_mk (k n : Int) (s : ByteArray) (l : List V) (r : Int) : (V.mk k n s l r).rng = (decide (-9223372036854775808 ≤ n) && decide (n ≤ 9223372036854775807) && l.all V.rng) := by
  rw [V.rng, List.all_map]; rfl

/-- References that bytes can hold. -/
def V.low : V → Bool
  | .mk k _ _ l r => (decide (k ≠ 4) || decide (r ≤ 4294967295)) && (l.map V.low).all id
termination_by v => v
theorem V.low_mk (k n : Int) (s : ByteArray) (l : List V) (r : Int) : (V.mk k n s l r).low = ((decide (k ≠ 4) || decide (r ≤ 4294967295)) && l.all V.low) := by
  rw [V.low, List.all_map]; rfl

theorem toList_nil {s : ByteArray} (h : s.toList = []) : s = ⟨#[]⟩ := bytes_ext (by rw [h, ByteArray.toList_eq])

theorem size_sum (l : List V) : l.length ≤ (l.map V.size).sum := by
  induction l with
  | nil => simp
  | cons x l ih => have := x.size_pos; simp; omega

theorem parseL_enc (g : ByteArray → Nat → Got) (rest : ByteArray) : ∀ (l : List V) (n : Nat), (∀ v ∈ l, ∀ (n : Nat) (rest : ByteArray), v.size ≤ n → n ≤ 512 → g (ofB v.enc ++ rest) n = some (v, rest, n - v.size)) → (l.map V.size).sum ≤ n → n ≤ 512 →
    parseL g l.length (ofB (l.map V.enc).flatten ++ rest) n = some (l, rest, n - (l.map V.size).sum)
  | [], n, _, _, _ => by simp [parseL, ofB_nil, nil_app]
  | v :: l, n, h, hn, h5 => by
    simp only [List.map_cons, List.sum_cons] at hn
    have h1 := h v (by simp) n (ofB (l.map V.enc).flatten ++ rest) (by omega) h5
    rw [List.map_cons, List.flatten_cons, ofB_append, app_assoc, List.length_cons, parseL_step g _ _ _ _ h1]
    have h2 := parseL_enc g rest l (n - v.size) (fun u hu => h u (by simp [hu])) (by omega) (by omega)
    simp only
    rw [h2]
    simp only [Option.map_some, List.map_cons, List.sum_cons]
    rw [Nat.sub_sub]

theorem parse_enc (v : V) : ∀ (d n : Nat) (rest : ByteArray), v.ok = true → v.rng = true → v.low = true → v.dep ≤ d → v.size ≤ n → n ≤ 512 → parse d (ofB v.enc ++ rest) n = some (v, rest, n - v.size) := by
  induction v using V.ind with
  | h k n0 s l r ih =>
    intro d n rest hok hrng hlow hdep hsz h5
    have hp := (V.mk k n0 s l r).size_pos
    rw [V.ok_mk, Bool.and_eq_true] at hok
    obtain ⟨hf, hall⟩ := hok
    rw [V.rng_mk] at hrng
    rw [V.low_mk] at hlow
    simp only [Bool.and_eq_true, decide_eq_true_eq, List.all_eq_true, Bool.or_eq_true] at hrng hlow hall
    have hk := fok_kind hf
    have e0 : parse d (ofB (V.mk k n0 s l r).enc ++ rest) n = parseK (match d with | 0 => none | d + 1 => some (parse d)) k.toNat (ofB ((V.mk k n0 s l r).enc.tail) ++ rest) (n - 1) := by
      rw [V.enc_mk]
      obtain ⟨h1, h2, h3⟩ := hd_app k.toNat (if k = 1 then hiB ((n0 + 9223372036854775808).toNat) 8 else if k = 2 then hiB s.size 2 ++ strB s else if k = 3 then hiB l.length 2 ++ (l.map V.enc).flatten else if k = 4 then hiB r.toNat 4 else []) rest (by omega)
      have h4 : ∀ g, parseG g (ofB (k.toNat :: (if k = 1 then hiB ((n0 + 9223372036854775808).toNat) 8 else if k = 2 then hiB s.size 2 ++ strB s else if k = 3 then hiB l.length 2 ++ (l.map V.enc).flatten else if k = 4 then hiB r.toNat 4 else [])) ++ rest) n = parseK g k.toNat (ofB (if k = 1 then hiB ((n0 + 9223372036854775808).toNat) 8 else if k = 2 then hiB s.size 2 ++ strB s else if k = 3 then hiB l.length 2 ++ (l.map V.enc).flatten else if k = 4 then hiB r.toNat 4 else []) ++ rest) (n - 1) := fun g => by
        rw [parseG_eq g _ _ (by omega), h1, h2]
      cases d with
      | zero => exact h4 none
      | succ d => exact h4 (some (parse d))
    rw [e0]
    clear e0
    rw [V.enc_mk, List.tail_cons]
    rw [V.size_mk] at hsz ⊢
    have hleaf : k ≠ 3 → l = [] := fun h => List.eq_nil_of_length_eq_zero (fok_len h hf)
    rcases hk with rfl | rfl | rfl | rfl | rfl
    · have := hleaf (by decide); subst this
      simp [fok] at hf
      simp [parseK, ofB_nil, nil_app, hf, toList_nil hf.1.2]
    · have := hleaf (by decide); subst this
      simp [fok] at hf
      have hm : (n0 + 9223372036854775808).toNat % 256 ^ 8 = (n0 + 9223372036854775808).toNat := Nat.mod_eq_of_lt (by omega)
      have hc := cut_app (hiB ((n0 + 9223372036854775808).toNat) 8) rest 8 (hiB_length _ _) (hiB_lt _ _)
      rw [bigN_hiB, hm] at hc
      simp only [if_pos]
      show parseK _ 1 _ _ = _
      unfold parseK
      rw [if_neg (by decide), if_pos rfl, hc]
      simp only [Option.map_some, List.map_nil, List.sum_nil, Nat.add_zero]
      rw [show (((n0 + 9223372036854775808).toNat : Int) - 9223372036854775808) = n0 by omega, toList_nil hf.1, hf.2]
    · have := hleaf (by decide); subst this
      simp [fok] at hf
      have hc := cut_app (hiB s.size 2) (ofB (strB s) ++ rest) 2 (hiB_length _ _) (hiB_lt _ _)
      rw [bigN_hiB, Nat.mod_eq_of_lt (by omega), ofB_strB] at hc
      simp only [if_pos, if_neg (show ¬ (2 : Int) = 1 by decide)]
      show parseK _ 2 _ _ = _
      unfold parseK
      rw [if_neg (by decide), if_neg (by decide), if_neg (by decide), if_pos rfl, ofB_append, ofB_strB, app_assoc, hc]
      simp only [Option.bind_some, List.map_nil, List.sum_nil, Nat.add_zero]
      rw [if_neg (by rw [app_size]; omega), ext_left _ _ _ rfl, ext_right _ _ _ rfl, hf.1.2, hf.2]
    · simp [fok] at hf
      rw [V.dep_mk, if_pos rfl] at hdep
      have hls := size_sum l
      have hc := cut_app (hiB l.length 2) (ofB (l.map V.enc).flatten ++ rest) 2 (hiB_length _ _) (hiB_lt _ _)
      rw [bigN_hiB, Nat.mod_eq_of_lt (by omega)] at hc
      simp only [if_pos, if_neg (show ¬ (3 : Int) = 1 by decide), if_neg (show ¬ (3 : Int) = 2 by decide)]
      show parseK _ 3 _ _ = _
      unfold parseK
      rw [if_neg (by decide), if_neg (by decide), if_neg (by decide), if_neg (by decide), if_pos rfl, ofB_append, app_assoc, hc]
      cases d with
      | zero => omega
      | succ d =>
        have hL := parseL_enc (parse d) rest l (n - 1) (fun v hv n rest h1 h2 => ih v hv d n rest (hall v hv) (hrng.2 v hv) (hlow.2 v hv) (by
          have := le_top (List.mem_map_of_mem (f := V.dep) hv); omega) h1 h2) (by omega) (by omega)
        simp only [Option.bind_some]
        rw [if_neg (by omega), hL]
        simp only [Option.map_some]
        rw [Nat.sub_sub, hf.1.1, toList_nil hf.1.2, hf.2]
    · have := hleaf (by decide); subst this
      simp [fok] at hf
      have hr : r ≤ 4294967295 := by rcases hlow.1 with h | h; exact absurd rfl h; exact h
      have hm : r.toNat % 256 ^ 4 = r.toNat := Nat.mod_eq_of_lt (by omega)
      have hc := cut_app (hiB r.toNat 4) rest 4 (hiB_length _ _) (hiB_lt _ _)
      rw [bigN_hiB, hm] at hc
      simp only [if_pos, if_neg (show ¬ (4 : Int) = 1 by decide), if_neg (show ¬ (4 : Int) = 2 by decide), if_neg (show ¬ (4 : Int) = 3 by decide)]
      show parseK _ 4 _ _ = _
      unfold parseK
      rw [if_neg (by decide), if_neg (by decide), if_pos rfl, hc]
      simp only [Option.bind_some, List.map_nil, List.sum_nil, Nat.add_zero]
      rw [if_pos (by omega), show ((r.toNat : Nat) : Int) = r by omega, hf.1.2, toList_nil hf.2]

/-- What a reader's answer says of the bytes. -/
def Sound (d : Nat) (s : ByteArray) (n : Nat) (u : V) (s' : ByteArray) (n' : Nat) : Prop :=
  u.ok = true ∧ u.rng = true ∧ u.low = true ∧ u.dep ≤ d ∧ n = n' + u.size ∧ s = ofB u.enc ++ s'

theorem parseL_sound {d : Nat} {g : ByteArray → Nat → Got} (hg : ∀ s n u s' n', g s n = some (u, s', n') → Sound d s n u s' n') : ∀ (c : Nat) (s : ByteArray) (n : Nat) (l : List V) (s' : ByteArray) (n' : Nat), parseL g c s n = some (l, s', n') →
    l.length = c ∧ l.all V.ok = true ∧ l.all V.rng = true ∧ l.all V.low = true ∧ (∀ v ∈ l, v.dep ≤ d) ∧ n = n' + (l.map V.size).sum ∧ s = ofB (l.map V.enc).flatten ++ s' := by
  intro c
  induction c with
  | zero =>
    intro s n l s' n' h
    simp only [parseL, Option.some.injEq, Prod.mk.injEq] at h
    obtain ⟨rfl, rfl, rfl⟩ := h
    simp [ofB_nil, nil_app]
  | succ c ih =>
    intro s n l s' n' h
    cases hp : g s n with
    | none => rw [parseL_none _ _ _ _ hp] at h; cases h
    | some x =>
      obtain ⟨u, s1, n1⟩ := x
      rw [parseL_step _ _ _ _ _ hp] at h
      simp only at h
      cases hq : parseL g c s1 n1 with
      | none => rw [hq] at h; cases h
      | some y =>
        obtain ⟨l1, s2, n2⟩ := y
        rw [hq] at h
        simp only [Option.map_some, Option.some.injEq, Prod.mk.injEq] at h
        obtain ⟨rfl, rfl, rfl⟩ := h
        obtain ⟨a1, a2, a3, a4, a5, a6⟩ := hg _ _ _ _ _ hp
        obtain ⟨b0, b1, b2, b3, b4, b5, b6⟩ := ih _ _ _ _ _ hq
        refine ⟨by simp [b0], by simp [a1, b1], by simp [a2, b2], by simp [a3, b3], ?_, by simp; omega, ?_⟩
        · intro v hv
          rcases List.mem_cons.1 hv with rfl | hv
          · exact a4
          · exact b4 v hv
        · rw [a6, b6, List.map_cons, List.flatten_cons, ofB_append, app_assoc]

theorem parseG_sound {d : Nat} {g : Option (ByteArray → Nat → Got)} (hg : ∀ g', g = some g' → 1 ≤ d ∧ ∀ s n u s' n', g' s n = some (u, s', n') → Sound (d - 1) s n u s' n') (s : ByteArray) (n : Nat) (u : V) (s' : ByteArray) (n' : Nat) (h : parseG g s n = some (u, s', n')) : Sound d s n u s' n' := by
  by_cases h0 : s.size < 1 ∨ n = 0
  · unfold parseG at h; rw [if_pos h0] at h; cases h
  rw [parseG_eq _ _ _ h0] at h
  have hs := hd_sound (fun h => h0 (.inl h))
  have hkl := hdB_lt s
  generalize hdB s = k at *
  generalize s.extract 1 s.size = s1 at *
  subst hs
  have hn : 1 ≤ n := by omega
  clear h0
  unfold parseK at h
  by_cases k0 : k = 0
  · rw [if_pos k0] at h
    subst k0
    simp only [Option.some.injEq, Prod.mk.injEq] at h
    obtain ⟨rfl, rfl, rfl⟩ := h
    exact ⟨by simp [V.ok_mk, fok], by simp [V.rng_mk], by simp [V.low_mk], by simp [V.dep_mk], by simp [V.size_mk]; omega, by simp [V.enc_mk]⟩
  rw [if_neg k0] at h
  by_cases k1 : k = 1
  · rw [if_pos k1] at h
    subst k1
    cases hc : cutN s1 8 with
    | none => rw [hc] at h; cases h
    | some q =>
      obtain ⟨x, s2⟩ := q
      rw [hc] at h
      simp only [Option.map_some, Option.some.injEq, Prod.mk.injEq] at h
      obtain ⟨rfl, rfl, rfl⟩ := h
      obtain ⟨e1, e2⟩ := cut_sound hc
      have e3 : x < 18446744073709551616 := e2
      refine ⟨by simp [V.ok_mk, fok], by simp [V.rng_mk]; omega, by simp [V.low_mk], by simp [V.dep_mk], by simp [V.size_mk]; omega, ?_⟩
      rw [e1, V.enc_mk, if_pos rfl, ← app_assoc, ← ofB_append]
      congr 3
      rw [show ((x : Int) - 9223372036854775808 + 9223372036854775808).toNat = x by omega]
      rfl
  rw [if_neg k1] at h
  by_cases k4 : k = 4
  · rw [if_pos k4] at h
    subst k4
    cases hc : cutN s1 4 with
    | none => rw [hc] at h; cases h
    | some q =>
      obtain ⟨x, s2⟩ := q
      rw [hc] at h
      simp only [Option.bind_some] at h
      by_cases hx : 0 < x
      · rw [if_pos hx] at h
        simp only [Option.some.injEq, Prod.mk.injEq] at h
        obtain ⟨rfl, rfl, rfl⟩ := h
        obtain ⟨e1, e2⟩ := cut_sound hc
        have e3 : x < 4294967296 := e2
        refine ⟨by simp [V.ok_mk, fok]; omega, by simp [V.rng_mk], by simp [V.low_mk]; omega, by simp [V.dep_mk], by simp [V.size_mk]; omega, ?_⟩
        rw [e1, V.enc_mk, if_neg (by decide), if_neg (by decide), if_neg (by decide), if_pos rfl, ← app_assoc, ← ofB_append]
        rfl
      · rw [if_neg hx] at h; cases h
  rw [if_neg k4] at h
  by_cases k2 : k = 2
  · rw [if_pos k2] at h
    subst k2
    cases hc : cutN s1 2 with
    | none => rw [hc] at h; cases h
    | some q =>
      obtain ⟨x, s2⟩ := q
      rw [hc] at h
      simp only [Option.bind_some] at h
      by_cases hx : 256 < x ∨ s2.size < x
      · rw [if_pos hx] at h; cases h
      · rw [if_neg hx] at h
        simp only [Option.some.injEq, Prod.mk.injEq] at h
        obtain ⟨rfl, rfl, rfl⟩ := h
        obtain ⟨e1, e2⟩ := cut_sound hc
        have hsz : (s2.extract 0 x).size = x := by rw [ByteArray.size_extract]; omega
        refine ⟨by simp [V.ok_mk, fok]; omega, by simp [V.rng_mk], by simp [V.low_mk], by simp [V.dep_mk], by simp [V.size_mk]; omega, ?_⟩
        rw [e1, V.enc_mk, if_neg (by decide), if_pos rfl, hsz]
        rw [show ofB ((2 : Int).toNat :: (hiB x 2 ++ strB (s2.extract 0 x))) = ofB [2] ++ (ofB (hiB x 2) ++ s2.extract 0 x) from by
          rw [show ((2 : Int).toNat :: (hiB x 2 ++ strB (s2.extract 0 x))) = [2] ++ (hiB x 2 ++ strB (s2.extract 0 x)) from rfl, ofB_append, ofB_append, ofB_strB]]
        simp only [app_assoc]
        rw [ext_all s2 x (by omega)]
  rw [if_neg k2] at h
  by_cases k3 : k = 3
  · rw [if_pos k3] at h
    subst k3
    cases hc : cutN s1 2 with
    | none => rw [hc] at h; cases h
    | some q =>
      obtain ⟨x, s2⟩ := q
      rw [hc] at h
      simp only [Option.bind_some] at h
      cases hgg : g with
      | none => rw [hgg] at h; cases h
      | some g' =>
        rw [hgg] at h
        simp only at h
        by_cases hx : n - 1 < x
        · rw [if_pos hx] at h; cases h
        · rw [if_neg hx] at h
          cases hL : parseL g' x s2 (n - 1) with
          | none => rw [hL] at h; cases h
          | some y =>
            obtain ⟨l, s3, n3⟩ := y
            rw [hL] at h
            simp only [Option.map_some, Option.some.injEq, Prod.mk.injEq] at h
            obtain ⟨rfl, rfl, rfl⟩ := h
            obtain ⟨e1, e2⟩ := cut_sound hc
            obtain ⟨hd, hg'⟩ := hg g' hgg
            obtain ⟨b0, b1, b2, b3, b4, b5, b6⟩ := parseL_sound hg' _ _ _ _ _ _ hL
            have ht : top (l.map V.dep) ≤ d - 1 := top_le fun y hy => by
              obtain ⟨v, hv, rfl⟩ := List.mem_map.1 hy
              exact b4 v hv
            refine ⟨by simp [V.ok_mk, fok, b1], by simp [V.rng_mk, b2], by simp [V.low_mk, b3], by rw [V.dep_mk, if_pos rfl]; omega, by rw [V.size_mk]; omega, ?_⟩
            rw [e1, b6, V.enc_mk, if_neg (by decide), if_neg (by decide), if_pos rfl, b0]
            rw [show ofB ((3 : Int).toNat :: (hiB x 2 ++ (l.map V.enc).flatten)) = ofB [3] ++ (ofB (hiB x 2) ++ ofB (l.map V.enc).flatten) from by
              rw [← ofB_append, ← ofB_append]; rfl]
            simp only [app_assoc]
  · rw [if_neg k3] at h; cases h

theorem parse_sound (d : Nat) : ∀ (s : ByteArray) (n : Nat) (u : V) (s' : ByteArray) (n' : Nat), parse d s n = some (u, s', n') → Sound d s n u s' n' := by
  induction d with
  | zero => exact fun s n u s' n' h => parseG_sound (fun g' h => by cases h) s n u s' n' h
  | succ d ih => exact fun s n u s' n' h => parseG_sound (fun g' h => by cases h; exact ⟨by omega, ih⟩) s n u s' n' h



theorem refs_low (v : V) : ∀ p, (∀ r ∈ refsOf (v.walk p), r ≤ 4294967295) ↔ v.low = true := by
  induction v using V.ind with
  | h k n s l r ih =>
    intro p
    have hl : ∀ (l : List V) (i : Nat), (∀ x ∈ l, ∀ p, (∀ r ∈ refsOf (x.walk p), r ≤ 4294967295) ↔ x.low = true) → ((∀ r ∈ refsOf (walkL (l.map V.walk) i p), r ≤ 4294967295) ↔ ∀ x ∈ l, x.low = true) := by
      intro l
      induction l with
      | nil => intro i _; simp [walkL, refsOf]
      | cons x l ih2 =>
        intro i h
        have h1 := h x (by simp) (p ++ [(i : Int)])
        have h2 := ih2 (i + 1) fun y hy => h y (by simp [hy])
        simp only [List.map_cons, walkL, refsOf_append, List.mem_append, List.mem_cons, forall_eq_or_imp]
        rw [← h1, ← h2]
        exact ⟨fun h => ⟨fun r hr => h r (.inl hr), fun r hr => h r (.inr hr)⟩, fun ⟨a, b⟩ r hr => hr.elim (a r) (b r)⟩
    have h0 := hl l 0 ih
    rw [V.walk_mk, V.low_mk]
    simp only [refsOf, Bool.and_eq_true, Bool.or_eq_true, decide_eq_true_eq, List.all_eq_true]
    rw [← h0]
    by_cases hk : k = 4
    · simp [hk]
    · simp [hk]

theorem hasBytes_iff (v : V) : v.hasBytes ↔ v.may = true ∧ v.low = true := by
  unfold V.hasBytes V.refs
  constructor
  · rintro ⟨h1, h2⟩
    rw [if_pos h1] at h2
    exact ⟨h1, (refs_low v []).1 h2⟩
  · rintro ⟨h1, h2⟩
    rw [if_pos h1]
    exact ⟨h1, (refs_low v []).2 h2⟩

/-! ### The order -/
theorem less_self (l : List UInt8) : Op.bytesLess l l = false := by
  induction l with
  | nil => rfl
  | cons x l ih => simp [Op.bytesLess, ih]

theorem ordL_self (l : List V) : (∀ x ∈ l, x.ord x = 0) → ordL (l.map V.ord) l = 0 := by
  induction l with
  | nil => intro _; rfl
  | cons x l ih => intro h; simp only [List.map_cons, ordL]; rw [if_pos (h x (by simp)), ih fun y hy => h y (by simp [hy])]

theorem ord_self (u : V) : u.ord u = 0 := by
  induction u using V.ind with
  | h k n s l r ih =>
    rw [V.ord_mk, ordOf, if_pos rfl]
    split
    · simp [cmpI]
    split
    · simp [cmpS, less_self]
    split
    · simp [cmpI]
    exact ordL_self l ih

theorem ordL_eq (l : List V) : ∀ l' : List V, (∀ x ∈ l, ∀ y : V, y ∈ l' → x.ord y = 0 → x = y) → ordL (l.map V.ord) l' = 0 → l = l' := by
  induction l with
  | nil =>
    intro l' _ h
    cases l' with
    | nil => rfl
    | cons y l' => simp [ordL] at h
  | cons x l ih =>
    intro l' hx h
    cases l' with
    | nil => simp [ordL] at h
    | cons y l' =>
      simp only [List.map_cons, ordL] at h
      by_cases h0 : x.ord y = 0
      · rw [if_pos h0] at h
        rw [hx x (by simp) y (by simp) h0, ih l' (fun a ha b hb => hx a (by simp [ha]) b (by simp [hb])) h]
      · rw [if_neg h0] at h; exact absurd h h0

theorem cmpI_zero {a b : Int} (h : cmpI a b = 0) : a = b := by
  unfold cmpI at h
  split at h
  · cases h
  · split at h
    · cases h
    · omega

theorem cmpS_zero {a b : ByteArray} (h : cmpS a b = 0) : a = b := by
  unfold cmpS at h
  split at h
  · cases h
  · split at h
    · rename_i h2; exact bytes_ext (by simpa using h2)
    · cases h

theorem ord_eq (u : V) : ∀ v : V, u.ok = true → v.ok = true → u.ord v = 0 → u = v := by
  induction u using V.ind with
  | h k n s l r ih =>
    intro v hu hv hc
    cases v with
    | mk k' n' s' l' r' =>
      rw [V.ok_mk] at hu hv
      simp only [Bool.and_eq_true, List.all_eq_true] at hu hv
      obtain ⟨fu, au⟩ := hu
      obtain ⟨fv, av⟩ := hv
      rw [V.ord_mk, ordOf] at hc
      by_cases hk : k = k'
      · subst hk
        rw [if_pos rfl] at hc
        have hl0 : k ≠ 3 → l = [] ∧ l' = [] := fun h => ⟨List.eq_nil_of_length_eq_zero (fok_len h fu), List.eq_nil_of_length_eq_zero (fok_len h fv)⟩
        rcases fok_kind fu with rfl | rfl | rfl | rfl | rfl
        · obtain ⟨rfl, rfl⟩ := hl0 (by decide)
          simp [fok] at fu fv
          rw [fu.1.1, fv.1.1, fu.2, fv.2, toList_nil fu.1.2, toList_nil fv.1.2]
        · obtain ⟨rfl, rfl⟩ := hl0 (by decide)
          simp [fok] at fu fv
          rw [if_pos rfl] at hc
          rw [cmpI_zero hc, fu.2, fv.2, toList_nil fu.1, toList_nil fv.1]
        · obtain ⟨rfl, rfl⟩ := hl0 (by decide)
          simp [fok] at fu fv
          rw [if_neg (by decide), if_pos rfl] at hc
          rw [cmpS_zero hc, fu.2, fv.2, fu.1.2, fv.1.2]
        · simp [fok] at fu fv
          rw [if_neg (by decide), if_neg (by decide), if_neg (by decide)] at hc
          rw [ordL_eq l l' (fun x hx y hy h => ih x hx y (au x hx) (av y hy) h) hc, fu.1.1, fv.1.1, fu.2, fv.2, toList_nil fu.1.2, toList_nil fv.1.2]
        · obtain ⟨rfl, rfl⟩ := hl0 (by decide)
          simp [fok] at fu fv
          rw [if_neg (by decide), if_neg (by decide), if_pos rfl] at hc
          rw [cmpI_zero hc, fu.1.2, fv.1.2, toList_nil fu.2, toList_nil fv.2]
      · rw [if_neg hk] at hc
        exact absurd (cmpI_zero hc) hk

theorem same2_iff {u v : V} (hu : u.may = true) (hv : v.may = true) : u.same2 v = true ↔ u = v := by
  unfold V.same2
  rw [hu, hv]
  simp only [Bool.true_and, decide_eq_true_eq]
  exact ⟨ord_eq u v (may_ok hu) (may_ok hv), fun h => by subst h; exact ord_self u⟩

theorem same2_self {u : V} (hu : u.may = true) : u.same2 u = true := (same2_iff hu hu).2 rfl

/-! ### Bytes of numbers, in order -/
theorem less_cons (a b : Nat) (x y : List Nat) (ha : a < 256) (hb : b < 256) : Op.bytesLess ((a :: x).map UInt8.ofNat) ((b :: y).map UInt8.ofNat) = (decide (a < b) || (decide (a = b) && Op.bytesLess (x.map UInt8.ofNat) (y.map UInt8.ofNat))) := by
  simp only [List.map_cons, Op.bytesLess]
  have e1 : (decide (UInt8.ofNat a < UInt8.ofNat b)) = decide (a < b) := by
    rw [decide_eq_decide, UInt8.lt_iff_toNat_lt]; simp [Nat.mod_eq_of_lt ha, Nat.mod_eq_of_lt hb]
  have e2 : (UInt8.ofNat a == UInt8.ofNat b) = decide (a = b) := by
    rw [Bool.eq_iff_iff]
    simp only [beq_iff_eq, decide_eq_true_eq]
    constructor
    · intro h
      have := congrArg UInt8.toNat h
      simpa [Nat.mod_eq_of_lt ha, Nat.mod_eq_of_lt hb] using this
    · rintro rfl; rfl
  rw [e1, e2]

theorem less_hiB (j : Nat) : ∀ m n : Nat, Op.bytesLess ((hiB m j).map UInt8.ofNat) ((hiB n j).map UInt8.ofNat) = decide (m % 256 ^ j < n % 256 ^ j) := by
  induction j with
  | zero => intro m n; simp [hiB, Op.bytesLess, Nat.mod_one]
  | succ j ih =>
    intro m n
    rw [hiB, hiB, less_cons _ _ _ _ (Nat.mod_lt _ (by decide)) (Nat.mod_lt _ (by decide)), ih, p256, Nat.pow_succ, Nat.mod_mul, Nat.mod_mul]
    have h1 : m % 256 ^ j < 256 ^ j := Nat.mod_lt _ (Nat.pow_pos (by decide))
    have h2 : n % 256 ^ j < 256 ^ j := Nat.mod_lt _ (Nat.pow_pos (by decide))
    generalize m % 256 ^ j = a at *
    generalize n % 256 ^ j = b at *
    generalize m / 256 ^ j % 256 = x at *
    generalize n / 256 ^ j % 256 = y at *
    generalize 256 ^ j = P at *
    rw [Bool.eq_iff_iff]
    simp only [Bool.or_eq_true, Bool.and_eq_true, decide_eq_true_eq]
    rcases Nat.lt_trichotomy x y with h | h | h
    · have : P * (x + 1) ≤ P * y := Nat.mul_le_mul_left _ h
      rw [Nat.mul_add] at this
      exact ⟨fun _ => by omega, fun _ => .inl h⟩
    · subst h
      exact ⟨fun h => by rcases h with h | h <;> omega, fun h => .inr ⟨rfl, by omega⟩⟩
    · have : P * (y + 1) ≤ P * x := Nat.mul_le_mul_left _ h
      rw [Nat.mul_add] at this
      exact ⟨fun h => by omega, fun h => by omega⟩

theorem encS_list (v : V) : v.encS.toList = v.enc.map UInt8.ofNat := by
  rw [encS_eq, ByteArray.toList_eq, ofB_data]

theorem less_num {n n' : Int} {s s' : ByteArray} {l l' : List V} {r r' : Int} (h1 : -9223372036854775808 ≤ n) (h2 : n ≤ 9223372036854775807) (h3 : -9223372036854775808 ≤ n') (h4 : n' ≤ 9223372036854775807) :
    Op.bytesLess (V.mk 1 n s l r).encS.toList (V.mk 1 n' s' l' r').encS.toList = decide (n < n') := by
  rw [encS_list, encS_list, V.enc_mk, V.enc_mk, if_pos rfl, if_pos rfl, less_cons _ _ _ _ (by decide) (by decide), less_hiB]
  rw [Nat.mod_eq_of_lt (show (n + 9223372036854775808).toNat < 256 ^ 8 by omega), Nat.mod_eq_of_lt (show (n' + 9223372036854775808).toNat < 256 ^ 8 by omega)]
  rw [Bool.eq_iff_iff]; simp; omega

theorem less_ref {n n' : Int} {s s' : ByteArray} {l l' : List V} {r r' : Int} (h1 : 0 ≤ r) (h2 : r ≤ 4294967295) (h3 : 0 ≤ r') (h4 : r' ≤ 4294967295) :
    Op.bytesLess (V.mk 4 n s l r).encS.toList (V.mk 4 n' s' l' r').encS.toList = decide (r < r') := by
  rw [encS_list, encS_list, V.enc_mk, V.enc_mk]
  simp only [if_neg (show ¬ (4 : Int) = 1 by decide), if_neg (show ¬ (4 : Int) = 2 by decide), if_neg (show ¬ (4 : Int) = 3 by decide), if_pos]
  rw [less_cons _ _ _ _ (by decide) (by decide), less_hiB]
  rw [Nat.mod_eq_of_lt (show r.toNat < 256 ^ 4 by omega), Nat.mod_eq_of_lt (show r'.toNat < 256 ^ 4 by omega)]
  rw [Bool.eq_iff_iff]; simp; omega

/-! ### There and back -/
theorem front_back {v : V} (hb : v.hasBytes) (hr : v.rng = true) (s : ByteArray) : parse 16 (v.encS ++ s) 512 = some (v, s, 512 - v.size) := by
  obtain ⟨hm, hl⟩ := (hasBytes_iff v).1 hb
  have h := hm
  simp only [V.may, V.fits, Bool.and_eq_true, decide_eq_true_eq] at h
  rw [encS_eq]
  exact parse_enc v 16 512 s h.1.1 hr hl h.2 h.1.2 (Nat.le_refl _)

theorem read_back {v : V} (hb : v.hasBytes) (hr : v.rng = true) : parse 16 v.encS 512 = some (v, ⟨#[]⟩, 512 - v.size) := by
  have := front_back hb hr ⟨#[]⟩
  rwa [app_nil] at this

theorem encS_inj {u v : V} (hu : u.hasBytes) (hv : v.hasBytes) (ru : u.rng = true) (rv : v.rng = true) : u.encS = v.encS ↔ u = v := by
  constructor
  · intro h
    have h1 := read_back hu ru
    rw [h, read_back hv rv] at h1
    simp only [Option.some.injEq, Prod.mk.injEq] at h1
    exact h1.1.symm
  · rintro rfl; rfl

theorem parse_has {s s' : ByteArray} {u : V} {n' : Nat} (h : parse 16 s 512 = some (u, s', n')) : u.hasBytes ∧ u.rng = true ∧ s = u.encS ++ s' := by
  obtain ⟨h1, h2, h3, h4, h5, h6⟩ := parse_sound 16 _ _ _ _ _ h
  exact ⟨(hasBytes_iff u).2 ⟨by simp [V.may, V.fits, h1, h4]; omega, h3⟩, h2, by rw [encS_eq]; exact h6⟩

end Go.Proofs.Ytihjmipmjogpoaa

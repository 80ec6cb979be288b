/- Chapter 2: order, Order, Same. -/
import Derived.Test.YtihjmipmjogpoaaE1
import Derived.Test.YtihjmipmjogpoaaU1
import Derived.WalkLawsBesides
namespace Go.Proofs.Ytihjmipmjogpoaa
open Go.RowKit

def cmpI (a b : Int) : Int := if a < b then -1 else if b < a then 1 else 0
def cmpS (a b : ByteArray) : Int := if Op.bytesLess a.toList b.toList = true then -1 else if a.toList == b.toList then 0 else 1

def ordL : List (V → Int) → List V → Int
  | [], [] => 0
  | [], _ :: _ => -1
  | _ :: _, [] => 1
  | f :: fs, v :: vs => if f v = 0 then ordL fs vs else f v

def ordOf (k n : Int) (s : ByteArray) (ps : List (V → Int)) (r : Int) : V → Int
  | .mk k' n' s' l' r' => if k = k' then (if k = 1 then cmpI n n' else if k = 2 then cmpS s s' else if k = 4 then cmpI r r' else ordL ps l') else cmpI k k'

/-- How two values that may be are ordered: -1, 0, 1. -/
def V.ord : V → V → Int
  | .mk k n s l r => ordOf k n s (l.map V.ord) r
termination_by v => v

theorem V.ord_mk (k n : Int) (s : ByteArray) (l : List V) (r : Int) : (V.mk k n s l r).ord = ordOf k n s (l.map V.ord) r := by rw [V.ord]

theorem cmpI_range (a b : Int) : cmpI a b = -1 ∨ cmpI a b = 0 ∨ cmpI a b = 1 := by
  unfold cmpI
  split
  · simp
  · split <;> simp
theorem cmpS_range (a b : ByteArray) : cmpS a b = -1 ∨ cmpS a b = 0 ∨ cmpS a b = 1 := by
  unfold cmpS
  split
  · simp
  · split <;> simp

theorem ordL_range : ∀ (fs : List (V → Int)) (vs : List V), (∀ f ∈ fs, ∀ v, f v = -1 ∨ f v = 0 ∨ f v = 1) → ordL fs vs = -1 ∨ ordL fs vs = 0 ∨ ordL fs vs = 1
  | [], [], _ => by simp [ordL]
  | [], _ :: _, _ => by simp [ordL]
  | _ :: _, [], _ => by simp [ordL]
  | f :: fs, v :: vs, h => by
    unfold ordL
    split
    · exact ordL_range fs vs fun f hf => h f (by simp [hf])
    · exact h f (by simp) v

theorem ord_range (u : V) : ∀ v : V, u.ord v = -1 ∨ u.ord v = 0 ∨ u.ord v = 1 := by
  induction u using V.ind with
  | h k n s l r ih =>
    intro v
    cases v with
    | mk k' n' s' l' r' =>
      rw [V.ord_mk, ordOf]
      split
      · split
        · exact cmpI_range _ _
        split
        · exact cmpS_range _ _
        split
        · exact cmpI_range _ _
        refine ordL_range _ _ fun f hf v => ?_
        obtain ⟨x, hx, rfl⟩ := List.mem_map.1 hf
        exact ih x hx v
      · exact cmpI_range _ _

theorem ordL_skip : ∀ (j : Nat) (fs : List (V → Int)) (vs : List V), j ≤ fs.length → j ≤ vs.length → (∀ (i : Nat) (f : V → Int) (v : V), i < j → fs[i]? = some f → vs[i]? = some v → f v = 0) → ordL fs vs = ordL (fs.drop j) (vs.drop j)
  | 0, _, _, _, _, _ => by simp
  | j + 1, [], _, h, _, _ => by simp at h
  | j + 1, _ :: _, [], _, h, _ => by simp at h
  | j + 1, f :: fs, v :: vs, h, h', hz => by
    have h0 := hz 0 f v (by omega) rfl rfl
    rw [List.drop_succ_cons, List.drop_succ_cons]
    conv => lhs; unfold ordL
    rw [if_pos h0]
    exact ordL_skip j fs vs (by simpa using h) (by simpa using h') fun i f v hi h1 h2 => hz (i + 1) f v (by omega) (by simpa using h1) (by simpa using h2)

theorem nanK (a : Int) (w : World) : Calls Try.prog 154 #[.int .u8 a] w fun e w' => e = .returned (.bool false) ∧ w' = w := by
  go_enter Try.func154, Try.ntmps154
  go_wp2
  go_ret
  exact ⟨by simp, rfl⟩

theorem cmpK_any (a b : Int) (w : World) : Calls Try.prog 145 #[.int .u8 a, .int .u8 b] w fun e w' => e = .returned (.int .i64 (cmpI a b)) ∧ w' = w := by
  have hN := nanK
  rcases Int.lt_trichotomy a b with h | h | h
  · have e1 : cmpI a b = -1 := by simp [cmpI, h]
    rw [e1]
    clear e1
    go_enter Try.func145, Try.ntmps145
    go_wp2_with fail
    refine (hN _ _).mono ?_
    rintro e w' ⟨rfl, rfl⟩
    go_wp2_with fail
    refine (hN _ _).mono ?_
    rintro e w' ⟨rfl, rfl⟩
    go_wp2
    go_ret
    exact ⟨rfl, rfl⟩
  · subst h
    have e1 : cmpI a a = 0 := by simp [cmpI]
    rw [e1]
    clear e1
    go_enter Try.func145, Try.ntmps145
    go_wp2_with fail
    refine (hN _ _).mono ?_
    rintro e w' ⟨rfl, rfl⟩
    go_wp2_with fail
    refine (hN _ _).mono ?_
    rintro e w' ⟨rfl, rfl⟩
    go_wp2
    go_ret
    exact ⟨rfl, rfl⟩
  · have h' : ¬ a < b := by omega
    have e1 : cmpI a b = 1 := by simp [cmpI, h, h']
    rw [e1]
    clear e1
    go_enter Try.func145, Try.ntmps145
    go_wp2_with fail
    refine (hN _ _).mono ?_
    rintro e w' ⟨rfl, rfl⟩
    go_wp2_with fail
    refine (hN _ _).mono ?_
    rintro e w' ⟨rfl, rfl⟩
    go_wp2
    go_ret
    exact ⟨rfl, rfl⟩

theorem nanN (a : Int) (w : World) : Calls Try.prog 155 #[.int .i64 a] w fun e w' => e = .returned (.bool false) ∧ w' = w := by
  go_enter Try.func155, Try.ntmps155
  go_wp2
  go_ret
  exact ⟨by simp, rfl⟩

theorem cmpN_any (a b : Int) (w : World) : Calls Try.prog 146 #[.int .i64 a, .int .i64 b] w fun e w' => e = .returned (.int .i64 (cmpI a b)) ∧ w' = w := by
  have hN := nanN
  rcases Int.lt_trichotomy a b with h | h | h
  · have e1 : cmpI a b = -1 := by simp [cmpI, h]
    rw [e1]
    clear e1
    go_enter Try.func146, Try.ntmps146
    go_wp2_with fail
    refine (hN _ _).mono ?_
    rintro e w' ⟨rfl, rfl⟩
    go_wp2_with fail
    refine (hN _ _).mono ?_
    rintro e w' ⟨rfl, rfl⟩
    go_wp2
    go_ret
    exact ⟨rfl, rfl⟩
  · subst h
    have e1 : cmpI a a = 0 := by simp [cmpI]
    rw [e1]
    clear e1
    go_enter Try.func146, Try.ntmps146
    go_wp2_with fail
    refine (hN _ _).mono ?_
    rintro e w' ⟨rfl, rfl⟩
    go_wp2_with fail
    refine (hN _ _).mono ?_
    rintro e w' ⟨rfl, rfl⟩
    go_wp2
    go_ret
    exact ⟨rfl, rfl⟩
  · have h' : ¬ a < b := by omega
    have e1 : cmpI a b = 1 := by simp [cmpI, h, h']
    rw [e1]
    clear e1
    go_enter Try.func146, Try.ntmps146
    go_wp2_with fail
    refine (hN _ _).mono ?_
    rintro e w' ⟨rfl, rfl⟩
    go_wp2_with fail
    refine (hN _ _).mono ?_
    rintro e w' ⟨rfl, rfl⟩
    go_wp2
    go_ret
    exact ⟨rfl, rfl⟩

theorem nanR (a : Int) (w : World) : Calls Try.prog 157 #[.int .i64 a] w fun e w' => e = .returned (.bool false) ∧ w' = w := by
  go_enter Try.func157, Try.ntmps157
  go_wp2
  go_ret
  exact ⟨by simp, rfl⟩

theorem cmpR_any (a b : Int) (w : World) : Calls Try.prog 148 #[.int .i64 a, .int .i64 b] w fun e w' => e = .returned (.int .i64 (cmpI a b)) ∧ w' = w := by
  have hN := nanR
  rcases Int.lt_trichotomy a b with h | h | h
  · have e1 : cmpI a b = -1 := by simp [cmpI, h]
    rw [e1]
    clear e1
    go_enter Try.func148, Try.ntmps148
    go_wp2_with fail
    refine (hN _ _).mono ?_
    rintro e w' ⟨rfl, rfl⟩
    go_wp2_with fail
    refine (hN _ _).mono ?_
    rintro e w' ⟨rfl, rfl⟩
    go_wp2
    go_ret
    exact ⟨rfl, rfl⟩
  · subst h
    have e1 : cmpI a a = 0 := by simp [cmpI]
    rw [e1]
    clear e1
    go_enter Try.func148, Try.ntmps148
    go_wp2_with fail
    refine (hN _ _).mono ?_
    rintro e w' ⟨rfl, rfl⟩
    go_wp2_with fail
    refine (hN _ _).mono ?_
    rintro e w' ⟨rfl, rfl⟩
    go_wp2
    go_ret
    exact ⟨rfl, rfl⟩
  · have h' : ¬ a < b := by omega
    have e1 : cmpI a b = 1 := by simp [cmpI, h, h']
    rw [e1]
    clear e1
    go_enter Try.func148, Try.ntmps148
    go_wp2_with fail
    refine (hN _ _).mono ?_
    rintro e w' ⟨rfl, rfl⟩
    go_wp2_with fail
    refine (hN _ _).mono ?_
    rintro e w' ⟨rfl, rfl⟩
    go_wp2
    go_ret
    exact ⟨rfl, rfl⟩

theorem nanS (a : ByteArray) (w : World) : Calls Try.prog 156 #[.string a] w fun e w' => e = .returned (.bool false) ∧ w' = w := by
  go_enter Try.func156, Try.ntmps156
  go_wp2
  go_ret
  exact ⟨by simp, rfl⟩

theorem cmpS_any (a b : ByteArray) (w : World) : Calls Try.prog 147 #[.string a, .string b] w fun e w' => e = .returned (.int .i64 (cmpS a b)) ∧ w' = w := by
  have hN := nanS
  cases h : Op.bytesLess a.toList b.toList with
  | true =>
    have e1 : cmpS a b = -1 := by simp [cmpS, h]
    rw [e1]
    clear e1
    go_enter Try.func147, Try.ntmps147
    go_wp2_with fail
    refine (hN _ _).mono ?_
    rintro e w' ⟨rfl, rfl⟩
    go_wp2_with fail
    refine (hN _ _).mono ?_
    rintro e w' ⟨rfl, rfl⟩
    go_wp2
    go_ret
    exact ⟨rfl, rfl⟩
  | false =>
    cases h' : a.toList == b.toList with
    | true =>
      have e1 : cmpS a b = 0 := by simp [cmpS, h, h']
      rw [e1]
      clear e1
      go_enter Try.func147, Try.ntmps147
      go_wp2_with fail
      refine (hN _ _).mono ?_
      rintro e w' ⟨rfl, rfl⟩
      go_wp2_with fail
      refine (hN _ _).mono ?_
      rintro e w' ⟨rfl, rfl⟩
      go_wp2
      go_ret
      exact ⟨rfl, rfl⟩
    | false =>
      have e1 : cmpS a b = 1 := by simp [cmpS, h, h']
      rw [e1]
      clear e1
      go_enter Try.func147, Try.ntmps147
      go_wp2_with fail
      refine (hN _ _).mono ?_
      rintro e w' ⟨rfl, rfl⟩
      go_wp2_with fail
      refine (hN _ _).mono ?_
      rintro e w' ⟨rfl, rfl⟩
      go_wp2
      go_ret
      exact ⟨rfl, rfl⟩

theorem ordL_done {fs : List (V → Int)} {vs : List V} (h : fs.length ≤ vs.length) (hz : ∀ (i : Nat) (f : V → Int) (v : V), i < fs.length → fs[i]? = some f → vs[i]? = some v → f v = 0) : ordL fs vs = if fs.length < vs.length then -1 else 0 := by
  rw [ordL_skip fs.length fs vs (Nat.le_refl _) h hz, List.drop_length]
  by_cases hl : fs.length < vs.length
  · rw [if_pos hl, List.drop_eq_getElem_cons hl]; rfl
  · rw [if_neg hl, List.drop_of_length_le (by omega)]; rfl

theorem ordL_more {fs : List (V → Int)} {vs : List V} (h : vs.length < fs.length) (hz : ∀ (i : Nat) (f : V → Int) (v : V), i < vs.length → fs[i]? = some f → vs[i]? = some v → f v = 0) : ordL fs vs = 1 := by
  rw [ordL_skip vs.length fs vs (by omega) (Nat.le_refl _) hz, List.drop_length, List.drop_eq_getElem_cons h]; rfl

theorem ordL_at {fs : List (V → Int)} {vs : List V} {j : Nat} {f : V → Int} {v : V} (hz : ∀ (i : Nat) (f : V → Int) (v : V), i < j → fs[i]? = some f → vs[i]? = some v → f v = 0) (h1 : fs[j]? = some f) (h2 : vs[j]? = some v) (hne : f v ≠ 0) : ordL fs vs = f v := by
  obtain ⟨l1, e1⟩ := List.getElem?_eq_some_iff.1 h1
  obtain ⟨l2, e2⟩ := List.getElem?_eq_some_iff.1 h2
  rw [ordL_skip j fs vs (by omega) (by omega) hz, List.drop_eq_getElem_cons l1, List.drop_eq_getElem_cons l2, e1, e2]
  unfold ordL
  rw [if_neg hne]

end Go.Proofs.Ytihjmipmjogpoaa

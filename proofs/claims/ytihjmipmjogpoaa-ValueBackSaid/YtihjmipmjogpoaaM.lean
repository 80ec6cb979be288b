/- What Go's own == of two marks comes to. -/
import Derived.Test.YtihjmipmjogpoaaB3
namespace Go.Proofs.Ytihjmipmjogpoaa
open Go.RowKit

/-- The kinds of marks: 5 is a row. -/
def shp (k : Int) (len : Nat) : Int := if k = 3 then (if len = 2 then 3 else 5) else if k = 1 then 1 else if k = 2 then 2 else if k = 4 then 4 else 0

/-- Two leaves of one kind: are they the same? -/
def leafEq (k n : Int) (s : ByteArray) (r n' : Int) (s' : ByteArray) (r' : Int) : Bool :=
  if k = 1 then n == n' else if k = 2 then s.toList == s'.toList else if k = 4 then r == r' else true

def pairCmp (ps : List (V → Nat)) (l : List V) : Nat :=
  match ps, l with
  | [f, g], [a, b] => if f a = 1 then g b else f a
  | _, _ => 2

def cmpOf (k n : Int) (s : ByteArray) (ps : List (V → Nat)) (r : Int) : V → Nat
  | .mk k' n' s' l' r' =>
    if shp k ps.length = shp k' l'.length then
      (if k = 3 then pairCmp ps l' else if leafEq k n s r n' s' r' = true then 1 else 0)
    else 0

/-- What the comparison of two marks comes to: 0 Unequal, 1 Equal, 2 Panics. -/
def V.cmp : V → V → Nat
  | .mk k n s l r => cmpOf k n s (l.map V.cmp) r
termination_by v => v

theorem V.cmp_mk (k n : Int) (s : ByteArray) (l : List V) (r : Int) : (V.mk k n s l r).cmp = cmpOf k n s (l.map V.cmp) r := by rw [V.cmp]

/-- What a run of == comes to. -/
def EqRes (res : Result Bool) (c : Nat) (w : World) : Prop :=
  (c = 0 ∧ res = .ok false w) ∨ (c = 1 ∧ res = .ok true w) ∨ (c = 2 ∧ ∃ s, res = .halt (.panic (.iface 10 (.string s))) w)

theorem typeStr_row (w : World) : (typeStr 183).run Try.prog w = .ok "brand.row" w := by kernel_rfl

theorem runtimePanic_error (m : String) (w : World) : (runtimePanic (α := Bool) (.error m)).run Try.prog w = .halt (.panic (.iface 10 (strVal m))) w := by
  have h : Try.prog.rt.errorString = 10 := by kernel_rfl
  simp [runtimePanic, run_program, goPanic, h]

theorem ty_comparable (t : TypeId) (b : Bool) (h : (Try.prog.info? t).map (·.comparable) = some b) : ∃ i, Try.prog.info? t = some i ∧ i.comparable = b := by
  cases hi : Try.prog.info? t with
  | none => rw [hi] at h; cases h
  | some i => rw [hi] at h; exact ⟨i, rfl, by simpa using h⟩

theorem cmp176 : (Try.prog.info? 176).map (·.comparable) = some true := by kernel_rfl
theorem cmp177 : (Try.prog.info? 177).map (·.comparable) = some true := by kernel_rfl
theorem cmp178 : (Try.prog.info? 178).map (·.comparable) = some true := by kernel_rfl
theorem cmp180 : (Try.prog.info? 180).map (·.comparable) = some true := by kernel_rfl
theorem cmp183 : (Try.prog.info? 183).map (·.comparable) = some false := by kernel_rfl
theorem cmp185 : (Try.prog.info? 185).map (·.comparable) = some true := by kernel_rfl
theorem packed183 : Try.prog.holdsPacked Try.prog.depth 183 = false := by kernel_rfl
theorem ms45 : ∃ ms, Try.prog.underlying 45 = some (.interface ms) := ⟨_, Try.underlying45⟩

/-- Two marks of unlike types. -/
theorem eq_unlike {d : Nat} {a b : TypeId} {x y : Value} {w : World} (h : a ≠ b) : (Op.equalIn (d + 1) 45 (.iface a x) (.iface b y)).run Try.prog w = .ok false w := by
  obtain ⟨ms, h45⟩ := ms45
  simp [Op.equalIn, run_underlying h45, h]

/-- Two marks of one type that can be compared. -/
theorem eq_like {d : Nat} {a : TypeId} {x y : Value} {w : World} (h : (Try.prog.info? a).map (·.comparable) = some true) :
    (Op.equalIn (d + 1) 45 (.iface a x) (.iface a y)).run Try.prog w = (Op.equalIn d a x y).run Try.prog w := by
  obtain ⟨ms, h45⟩ := ms45
  obtain ⟨i, hi, hc⟩ := ty_comparable a true h
  simp [Op.equalIn, run_underlying h45, typeInfo, hi, hc]

/-- Two rows. -/
theorem eq_rows {d : Nat} {x y : Value} {w : World} : ∃ s, (Op.equalIn (d + 1) 45 (.iface 183 x) (.iface 183 y)).run Try.prog w = .halt (.panic (.iface 10 (.string s))) w := by
  obtain ⟨ms, h45⟩ := ms45
  obtain ⟨i, hi, hc⟩ := ty_comparable 183 false cmp183
  obtain ⟨s, hs⟩ : ∃ s, strVal ("comparing uncomparable type " ++ "brand.row") = .string s := ⟨_, rfl⟩
  refine ⟨s, ?_⟩
  rw [← hs]
  simp [Op.equalIn, run_underlying h45, typeInfo, hi, hc, run_program, packed183, typeStr_row, runtimePanic_error]

/-- The dynamic type of a mark. -/
def mty (c : Int) : TypeId := if c = 1 then 176 else if c = 2 then 177 else if c = 4 then 178 else if c = 3 then 180 else if c = 5 then 183 else 185

theorem mty_ne {c c' : Int} (hc : c = 0 ∨ c = 1 ∨ c = 2 ∨ c = 3 ∨ c = 4 ∨ c = 5) (hc' : c' = 0 ∨ c' = 1 ∨ c' = 2 ∨ c' = 3 ∨ c' = 4 ∨ c' = 5) (h : c ≠ c') : mty c ≠ mty c' := by
  rcases hc with rfl | rfl | rfl | rfl | rfl | rfl <;> rcases hc' with rfl | rfl | rfl | rfl | rfl | rfl <;> simp_all [mty]

theorem shp_range (k : Int) (len : Nat) : shp k len = 0 ∨ shp k len = 1 ∨ shp k len = 2 ∨ shp k len = 3 ∨ shp k len = 4 ∨ shp k len = 5 := by
  unfold shp
  by_cases h3 : k = 3
  · by_cases h2 : len = 2 <;> simp [h3, h2]
  by_cases h1 : k = 1
  · simp [h1]
  by_cases h2 : k = 2
  · simp [h2]
  by_cases h4 : k = 4
  · simp [h4]
  · simp [h1, h2, h3, h4]

theorem mkOf.ty {k n : Int} {s : ByteArray} {ps : List (Value → Prop)} {r : Int} {m : Value} (h : mkOf k n s ps r m) : ∃ x, m = .iface (mty (shp k ps.length)) x := by
  unfold mkOf at h
  by_cases h1 : k = 1
  · rw [if_pos h1] at h; subst h1; exact ⟨_, h⟩
  rw [if_neg h1] at h
  by_cases h2 : k = 2
  · rw [if_pos h2] at h; subst h2; exact ⟨_, h⟩
  rw [if_neg h2] at h
  by_cases h4 : k = 4
  · rw [if_pos h4] at h; subst h4; exact ⟨_, h⟩
  rw [if_neg h4] at h
  by_cases h3 : k = 3
  · rw [if_pos h3] at h
    subst h3
    by_cases hl : ps.length = 2
    · obtain ⟨p, q, rfl⟩ : ∃ p q, ps = [p, q] := at2 hl
      obtain ⟨x, y, h, _⟩ := h; exact ⟨_, h⟩
    · rw [listMk_row hl] at h
      obtain ⟨A, le, ca, h⟩ := h
      have : mty (shp 3 ps.length) = 183 := by simp [shp, hl, mty]
      rw [this]; exact ⟨_, h⟩
  · rw [if_neg h3] at h
    have : mty (shp k ps.length) = 185 := by simp [shp, h1, h2, h3, h4, mty]
    rw [this]; exact ⟨_, h⟩

theorem eq_pair {d : Nat} {x y x' y' : Value} {w : World} {c1 c2 : Nat} (hx : ∃ t v, x = .iface t v) (hy : ∃ t v, y = .iface t v) (hx' : ∃ t v, x' = .iface t v) (hy' : ∃ t v, y' = .iface t v)
    (h1 : EqRes ((Op.equalIn d 45 x x').run Try.prog w) c1 w) (h2 : EqRes ((Op.equalIn d 45 y y').run Try.prog w) c2 w) :
    EqRes ((Op.equalIn (d + 1) 180 (.agg #[x, y]) (.agg #[x', y'])).run Try.prog w) (if c1 = 1 then c2 else c1) w := by
  obtain ⟨t1, v1, rfl⟩ := hx
  obtain ⟨t2, v2, rfl⟩ := hy
  obtain ⟨t3, v3, rfl⟩ := hx'
  obtain ⟨t4, v4, rfl⟩ := hy'
  have e : (Op.equalIn (d + 1) 180 (.agg #[.iface t1 v1, .iface t2 v2]) (.agg #[.iface t3 v3, .iface t4 v4])).run Try.prog w =
      ((Sem.run Try.prog (Op.equalIn d 45 (Value.iface t1 v1) (Value.iface t3 v3)) w).andThen fun a w' =>
        if a = false then Result.ok false w'
        else
          (Sem.run Try.prog (Op.equalIn d 45 (Value.iface t2 v2) (Value.iface t4 v4)) w').andThen fun a w' =>
            if a = false then Result.ok false w' else Result.ok true w') := by simp [go_sem]
  rw [e]
  rcases h1 with ⟨rfl, h1⟩ | ⟨rfl, h1⟩ | ⟨rfl, s, h1⟩
  · rw [h1]; exact .inl ⟨rfl, rfl⟩
  · rw [h1]
    simp only [Result.andThen_ok, if_pos]
    rcases h2 with ⟨rfl, h2⟩ | ⟨rfl, h2⟩ | ⟨rfl, s, h2⟩
    · simp [h2]; exact .inl ⟨rfl, rfl⟩
    · simp [h2]; exact .inr (.inl ⟨rfl, rfl⟩)
    · simp [h2]; exact .inr (.inr ⟨rfl, s, rfl⟩)
  · rw [h1]; exact .inr (.inr ⟨rfl, s, rfl⟩)

theorem eqRes_bool {b : Bool} {w : World} {res : Result Bool} (h : res = .ok b w) : EqRes res (if b = true then 1 else 0) w := by
  cases b
  · exact .inl ⟨rfl, h⟩
  · exact .inr (.inl ⟨rfl, h⟩)

theorem run_eq (u : V) : ∀ (v : V) (d : Nat) (m1 m2 : Value) (w : World), 2 * u.dep + 2 ≤ d → IsMk u m1 → IsMk v m2 → EqRes ((Op.equalIn d 45 m1 m2).run Try.prog w) (u.cmp v) w := by
  induction u using V.ind with
  | h k n s l r ih =>
    intro v d m1 m2 w hd h1 h2
    cases v with
    | mk k' n' s' l' r' =>
      rw [IsMk_mk] at h1 h2
      rw [V.cmp_mk, cmpOf]
      simp only [List.length_map]
      obtain ⟨d, rfl⟩ : ∃ e, d = e + 2 := ⟨d - 2, by omega⟩
      by_cases hs : shp k l.length = shp k' l'.length
      · rw [if_pos hs]
        by_cases h3 : k = 3
        · subst h3
          rw [if_pos rfl]
          have hk' : k' = 3 ∧ (l.length = 2 ↔ l'.length = 2) := by
            unfold shp at hs
            by_cases hl : l.length = 2 <;> by_cases h3' : k' = 3 <;> by_cases hl' : l'.length = 2 <;> simp [hl, h3', hl'] at hs ⊢ <;> (repeat' split at hs) <;> omega
          obtain ⟨rfl, hll⟩ := hk'
          have e1 : listMk (l.map IsMk) m1 := by simpa [mkOf] using h1
          have e2 : listMk (l'.map IsMk) m2 := by simpa [mkOf] using h2
          by_cases hl : l.length = 2
          · obtain ⟨a, b, rfl⟩ := at2 hl
            obtain ⟨a', b', rfl⟩ := at2 (hll.1 hl)
            obtain ⟨x, y, rfl, hx, hy⟩ := e1
            obtain ⟨x', y', rfl, hx', hy'⟩ := e2
            rw [eq_like cmp180]
            have hda : a.dep ≤ top [a.dep, b.dep] := le_top (by simp)
            have hdb : b.dep ≤ top [a.dep, b.dep] := le_top (by simp)
            rw [V.dep_mk, if_pos rfl] at hd
            simp only [List.map_cons, List.map_nil] at hd
            have g := eq_pair hx.iface hy.iface hx'.iface hy'.iface (ih a (by simp) a' d x x' w (by omega) hx hx') (ih b (by simp) b' d y y' w (by omega) hy hy')
            exact g
          · rw [listMk_row (by simpa using hl)] at e1
            rw [listMk_row (by simpa using fun h => hl (hll.2 h))] at e2
            obtain ⟨A1, n1, c1, rfl⟩ := e1
            obtain ⟨A2, n2, c2, rfl⟩ := e2
            have hp : pairCmp (l.map V.cmp) l' = 2 := by
              match l, hl with
              | [], _ => rfl
              | [a], _ => rfl
              | [a, b], hl => simp at hl
              | a :: b :: c :: l, _ => rfl
            rw [hp]
            obtain ⟨s, hs⟩ := eq_rows (d := d + 1) (x := .agg #[.slice A1 n1 c1]) (y := .agg #[.slice A2 n2 c2]) (w := w)
            exact .inr (.inr ⟨rfl, s, hs⟩)
        · rw [if_neg h3]
          unfold mkOf at h1 h2
          by_cases k1 : k = 1
          · subst k1
            have e : k' = 1 := by
              unfold shp at hs
              by_cases h3' : k' = 3 <;> by_cases hl' : l'.length = 2 <;> simp [h3', hl'] at hs ⊢ <;> (repeat' split at hs) <;> omega
            subst e
            simp at h1 h2
            subst h1 h2
            rw [eq_like cmp176]
            refine eqRes_bool ?_
            simp [go_sem, leafEq]
          by_cases k2 : k = 2
          · subst k2
            have e : k' = 2 := by
              unfold shp at hs
              by_cases h3' : k' = 3 <;> by_cases hl' : l'.length = 2 <;> simp [h3', hl'] at hs ⊢ <;> (repeat' split at hs) <;> omega
            subst e
            simp at h1 h2
            subst h1 h2
            rw [eq_like cmp177]
            refine eqRes_bool ?_
            simp [go_sem, leafEq]
          by_cases k4 : k = 4
          · subst k4
            have e : k' = 4 := by
              unfold shp at hs
              by_cases h3' : k' = 3 <;> by_cases hl' : l'.length = 2 <;> simp [h3', hl'] at hs ⊢ <;> (repeat' split at hs) <;> omega
            subst e
            simp at h1 h2
            subst h1 h2
            rw [eq_like cmp178]
            refine eqRes_bool ?_
            simp [go_sem, leafEq]
          have e : k' ≠ 1 ∧ k' ≠ 2 ∧ k' ≠ 4 ∧ k' ≠ 3 := by
            unfold shp at hs
            by_cases h3' : k' = 3 <;> by_cases hl' : l'.length = 2 <;> simp [h3, k1, k2, k4, h3', hl'] at hs ⊢ <;> (repeat' split at hs) <;> omega
          obtain ⟨e1, e2, e4, e3⟩ := e
          rw [if_neg k1, if_neg k2, if_neg k4, if_neg h3] at h1
          rw [if_neg e1, if_neg e2, if_neg e4, if_neg e3] at h2
          subst h1 h2
          rw [eq_like cmp185]
          refine eqRes_bool ?_
          simp [go_sem, leafEq, k1, k2, k4]
      · rw [if_neg hs]
        obtain ⟨x, rfl⟩ := h1.ty
        obtain ⟨y, rfl⟩ := h2.ty
        simp only [List.length_map]
        exact .inl ⟨rfl, eq_unlike (mty_ne (shp_range _ _) (shp_range _ _) hs)⟩

end Go.Proofs.Ytihjmipmjogpoaa

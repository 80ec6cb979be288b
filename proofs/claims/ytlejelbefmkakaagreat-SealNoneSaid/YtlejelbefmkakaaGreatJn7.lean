/- Texts joined: M, Wo19, Wo20, I0, Wo21, Wo22, Wo24, Wo23. -/
import Derived.Test.YtlejelbefmkakaaGreatJn6
import Derived.Deep.OwnRows
import Derived.Deep.RegionHeld3
/- What Go's own == of two marks comes to. -/
namespace Go.Proofs.YtlejelbefmkakaaGreat
open Go.RowKit

/-- The kinds of marks: 5 is a row. -/
def shp (k : Int) (len : Nat) : Int := if k = 3 then (if len = 2 then 3 else 5) else if k = 1 then 1 else if k = 2 then 2 else if k = 4 then 4 else 0

/-- Two leaves of one kind: are they the same? -/
def leafEq (k n : Int) (s : ByteArray) (r n' : Int) (s' : ByteArray) (r' : Int) : Bool :=
  if k = 1 then n == n' else if k = 2 then s.toList == s'.toList else if k = 4 then r == r' else true

def pairCmp (ps : List (V → Nat)) (l : List V) : Nat :=
  match ps, l with
  | [f, g], [a, b] => if f a = 1 then g b else f a
  | _, _ => 2

def cmpOf (k n : Int) (s : ByteArray) (ps : List (V → Nat)) (r : Int) : V → Nat
  | .mk k' n' s' l' r' =>
    if shp k ps.length = shp k' l'.length then
      (if k = 3 then pairCmp ps l' else if leafEq k n s r n' s' r' = true then 1 else 0)
    else 0

/-- What the comparison of two marks comes to: 0 Unequal, 1 Equal, 2 Panics. -/
def V.cmp : V → V → Nat
  | .mk k n s l r => cmpOf k n s (l.map V.cmp) r
termination_by v => v

theorem V.cmp_mk (k n : Int) (s : ByteArray) (l : List V) (r : Int) : (V.mk k n s l r).cmp = cmpOf k n s (l.map V.cmp) r := by rw [V.cmp]

/-- What a run of == comes to. -/
def EqRes (res : Result Bool) (c : Nat) (w : World) : Prop :=
  (c = 0 ∧ res = .ok false w) ∨ (c = 1 ∧ res = .ok true w) ∨ (c = 2 ∧ ∃ s, res = .halt (.panic (.iface 10 (.string s))) w)

theorem typeStr_row (w : World) : (typeStr 279).run Tryz.prog w = .ok "brand.row" w := by kernel_rfl

theorem runtimePanic_error (m : String) (w : World) : (runtimePanic (α := Bool) (.error m)).run Tryz.prog w = .halt (.panic (.iface 10 (strVal m))) w := by
  have h : Tryz.prog.rt.errorString = 10 := by kernel_rfl
  simp [runtimePanic, run_program, goPanic]

theorem ty_comparable (t : TypeId) (b : Bool) (h : (Tryz.prog.info? t).map (·.comparable) = some b) : ∃ i, Tryz.prog.info? t = some i ∧ i.comparable = b := by
  cases hi : Tryz.prog.info? t with
  | none => rw [hi] at h; cases h
  | some i => rw [hi] at h; exact ⟨i, rfl, by simpa using h⟩

theorem cmp176 : (Tryz.prog.info? 272).map (·.comparable) = some true := by kernel_rfl
theorem cmp177 : (Tryz.prog.info? 273).map (·.comparable) = some true := by kernel_rfl
theorem cmp178 : (Tryz.prog.info? 274).map (·.comparable) = some true := by kernel_rfl
theorem cmp180 : (Tryz.prog.info? 276).map (·.comparable) = some true := by kernel_rfl
theorem cmp183 : (Tryz.prog.info? 279).map (·.comparable) = some false := by kernel_rfl
theorem cmp185 : (Tryz.prog.info? 281).map (·.comparable) = some true := by kernel_rfl
theorem packed183 : Tryz.prog.holdsPacked Tryz.prog.depth 279 = false := by kernel_rfl
theorem ms45 : ∃ ms, Tryz.prog.underlying 49 = some (.interface ms) := ⟨_, Tryz.underlying49⟩

/-- Two marks of unlike types. -/
theorem eq_unlike {d : Nat} {a b : TypeId} {x y : Value} {w : World} (h : a ≠ b) : (Op.equalIn (d + 1) 49 (.iface a x) (.iface b y)).run Tryz.prog w = .ok false w := by
  obtain ⟨ms, h45⟩ := ms45
  simp [Op.equalIn, run_underlying h45, h]

/-- Two marks of one type that can be compared. -/
theorem eq_like {d : Nat} {a : TypeId} {x y : Value} {w : World} (h : (Tryz.prog.info? a).map (·.comparable) = some true) :
    (Op.equalIn (d + 1) 49 (.iface a x) (.iface a y)).run Tryz.prog w = (Op.equalIn d a x y).run Tryz.prog w := by
  obtain ⟨ms, h45⟩ := ms45
  obtain ⟨i, hi, hc⟩ := ty_comparable a true h
  simp [Op.equalIn, run_underlying h45, typeInfo, hi, hc]

/-- Two rows. -/
theorem eq_rows {d : Nat} {x y : Value} {w : World} : ∃ s, (Op.equalIn (d + 1) 49 (.iface 279 x) (.iface 279 y)).run Tryz.prog w = .halt (.panic (.iface 10 (.string s))) w := by
  obtain ⟨ms, h45⟩ := ms45
  obtain ⟨i, hi, hc⟩ := ty_comparable 279 false cmp183
  obtain ⟨s, hs⟩ : ∃ s, strVal ("comparing uncomparable type " ++ "brand.row") = .string s := ⟨_, rfl⟩
  refine ⟨s, ?_⟩
  rw [← hs]
  simp [Op.equalIn, run_underlying h45, typeInfo, hi, hc, run_program, packed183, typeStr_row, runtimePanic_error]

/-- The dynamic type of a mark. -/
def mty (c : Int) : TypeId := if c = 1 then 272 else if c = 2 then 273 else if c = 4 then 274 else if c = 3 then 276 else if c = 5 then 279 else 281

theorem mty_ne {c c' : Int} (hc : c = 0 ∨ c = 1 ∨ c = 2 ∨ c = 3 ∨ c = 4 ∨ c = 5) (hc' : c' = 0 ∨ c' = 1 ∨ c' = 2 ∨ c' = 3 ∨ c' = 4 ∨ c' = 5) (h : c ≠ c') : mty c ≠ mty c' := by
  rcases hc with rfl | rfl | rfl | rfl | rfl | rfl <;> rcases hc' with rfl | rfl | rfl | rfl | rfl | rfl <;> simp_all [mty]

theorem shp_range (k : Int) (len : Nat) : shp k len = 0 ∨ shp k len = 1 ∨ shp k len = 2 ∨ shp k len = 3 ∨ shp k len = 4 ∨ shp k len = 5 := by
  unfold shp
  by_cases h3 : k = 3
  · by_cases h2 : len = 2 <;> simp [h3, h2]
  by_cases h1 : k = 1
  · simp [h1]
  by_cases h2 : k = 2
  · simp [h2]
  by_cases h4 : k = 4
  · simp [h4]
  · simp [h1, h2, h3, h4]

theorem mkOf.ty {k n : Int} {s : ByteArray} {ps : List (Value → Prop)} {r : Int} {m : Value} (h : mkOf k n s ps r m) : ∃ x, m = .iface (mty (shp k ps.length)) x := by
  unfold mkOf at h
  by_cases h1 : k = 1
  · rw [if_pos h1] at h; subst h1; exact ⟨_, h⟩
  rw [if_neg h1] at h
  by_cases h2 : k = 2
  · rw [if_pos h2] at h; subst h2; exact ⟨_, h⟩
  rw [if_neg h2] at h
  by_cases h4 : k = 4
  · rw [if_pos h4] at h; subst h4; exact ⟨_, h⟩
  rw [if_neg h4] at h
  by_cases h3 : k = 3
  · rw [if_pos h3] at h
    subst h3
    by_cases hl : ps.length = 2
    · obtain ⟨p, q, rfl⟩ : ∃ p q, ps = [p, q] := at2 hl
      obtain ⟨x, y, h, _⟩ := h; exact ⟨_, h⟩
    · rw [listMk_row hl] at h
      obtain ⟨A, le, ca, h⟩ := h
      have : mty (shp 3 ps.length) = 279 := by simp [shp, hl, mty]
      rw [this]; exact ⟨_, h⟩
  · rw [if_neg h3] at h
    have : mty (shp k ps.length) = 281 := by simp [shp, h1, h2, h3, h4, mty]
    rw [this]; exact ⟨_, h⟩

theorem eq_pair {d : Nat} {x y x' y' : Value} {w : World} {c1 c2 : Nat} (hx : ∃ t v, x = .iface t v) (hy : ∃ t v, y = .iface t v) (hx' : ∃ t v, x' = .iface t v) (hy' : ∃ t v, y' = .iface t v)
    (h1 : EqRes ((Op.equalIn d 49 x x').run Tryz.prog w) c1 w) (h2 : EqRes ((Op.equalIn d 49 y y').run Tryz.prog w) c2 w) :
    EqRes ((Op.equalIn (d + 1) 276 (.agg #[x, y]) (.agg #[x', y'])).run Tryz.prog w) (if c1 = 1 then c2 else c1) w := by
  obtain ⟨t1, v1, rfl⟩ := hx
  obtain ⟨t2, v2, rfl⟩ := hy
  obtain ⟨t3, v3, rfl⟩ := hx'
  obtain ⟨t4, v4, rfl⟩ := hy'
  have e : (Op.equalIn (d + 1) 276 (.agg #[.iface t1 v1, .iface t2 v2]) (.agg #[.iface t3 v3, .iface t4 v4])).run Tryz.prog w =
      ((Sem.run Tryz.prog (Op.equalIn d 49 (Value.iface t1 v1) (Value.iface t3 v3)) w).andThen fun a w' =>
        if a = false then Result.ok false w'
        else
          (Sem.run Tryz.prog (Op.equalIn d 49 (Value.iface t2 v2) (Value.iface t4 v4)) w').andThen fun a w' =>
            if a = false then Result.ok false w' else Result.ok true w') := by simp [go_sem]
  rw [e]
  rcases h1 with ⟨rfl, h1⟩ | ⟨rfl, h1⟩ | ⟨rfl, s, h1⟩
  · rw [h1]; exact .inl ⟨rfl, rfl⟩
  · rw [h1]
    simp only [Result.andThen_ok, if_pos]
    rcases h2 with ⟨rfl, h2⟩ | ⟨rfl, h2⟩ | ⟨rfl, s, h2⟩
    · simp [h2]; exact .inl ⟨rfl, rfl⟩
    · simp [h2]; exact .inr (.inl ⟨rfl, rfl⟩)
    · simp [h2]; exact .inr (.inr ⟨rfl, s, rfl⟩)
  · rw [h1]; exact .inr (.inr ⟨rfl, s, rfl⟩)

theorem eqRes_bool {b : Bool} {w : World} {res : Result Bool} (h : res = .ok b w) : EqRes res (if b = true then 1 else 0) w := by
  cases b
  · exact .inl ⟨rfl, h⟩
  · exact .inr (.inl ⟨rfl, h⟩)

theorem run_eq (u : V) : ∀ (v : V) (d : Nat) (m1 m2 : Value) (w : World), 2 * u.dep + 2 ≤ d → IsMk u m1 → IsMk v m2 → EqRes ((Op.equalIn d 49 m1 m2).run Tryz.prog w) (u.cmp v) w := by
  induction u using V.ind with
  | h k n s l r ih =>
    intro v d m1 m2 w hd h1 h2
    cases v with
    | mk k' n' s' l' r' =>
      rw [IsMk_mk] at h1 h2
      rw [V.cmp_mk, cmpOf]
      simp only [List.length_map]
      obtain ⟨d, rfl⟩ : ∃ e, d = e + 2 := ⟨d - 2, by omega⟩
      by_cases hs : shp k l.length = shp k' l'.length
      · rw [if_pos hs]
        by_cases h3 : k = 3
        · subst h3
          rw [if_pos rfl]
          have hk' : k' = 3 ∧ (l.length = 2 ↔ l'.length = 2) := by
            unfold shp at hs
            by_cases hl : l.length = 2 <;> by_cases h3' : k' = 3 <;> by_cases hl' : l'.length = 2 <;> simp [hl, h3', hl'] at hs ⊢ <;> (repeat' split at hs) <;> omega
          obtain ⟨rfl, hll⟩ := hk'
          have e1 : listMk (l.map IsMk) m1 := by simpa [mkOf] using h1
          have e2 : listMk (l'.map IsMk) m2 := by simpa [mkOf] using h2
          by_cases hl : l.length = 2
          · obtain ⟨a, b, rfl⟩ := at2 hl
            obtain ⟨a', b', rfl⟩ := at2 (hll.1 hl)
            obtain ⟨x, y, rfl, hx, hy⟩ := e1
            obtain ⟨x', y', rfl, hx', hy'⟩ := e2
            rw [eq_like cmp180]
            have hda : a.dep ≤ top [a.dep, b.dep] := le_top (by simp)
            have hdb : b.dep ≤ top [a.dep, b.dep] := le_top (by simp)
            rw [V.dep_mk, if_pos rfl] at hd
            simp only [List.map_cons, List.map_nil] at hd
            have g := eq_pair hx.iface hy.iface hx'.iface hy'.iface (ih a (by simp) a' d x x' w (by omega) hx hx') (ih b (by simp) b' d y y' w (by omega) hy hy')
            exact g
          · rw [listMk_row (by simpa using hl)] at e1
            rw [listMk_row (by simpa using fun h => hl (hll.2 h))] at e2
            obtain ⟨A1, n1, c1, rfl⟩ := e1
            obtain ⟨A2, n2, c2, rfl⟩ := e2
            have hp : pairCmp (l.map V.cmp) l' = 2 := by
              match l, hl with
              | [], _ => rfl
              | [a], _ => rfl
              | [a, b], hl => simp at hl
              | a :: b :: c :: l, _ => rfl
            rw [hp]
            obtain ⟨s, hs⟩ := eq_rows (d := d + 1) (x := .agg #[.slice A1 n1 c1]) (y := .agg #[.slice A2 n2 c2]) (w := w)
            exact .inr (.inr ⟨rfl, s, hs⟩)
        · rw [if_neg h3]
          unfold mkOf at h1 h2
          by_cases k1 : k = 1
          · subst k1
            have e : k' = 1 := by
              unfold shp at hs
              by_cases h3' : k' = 3 <;> by_cases hl' : l'.length = 2 <;> simp [h3', hl'] at hs ⊢ <;> (repeat' split at hs) <;> omega
            subst e
            simp at h1 h2
            subst h1 h2
            rw [eq_like cmp176]
            refine eqRes_bool ?_
            simp [go_sem, leafEq]
          by_cases k2 : k = 2
          · subst k2
            have e : k' = 2 := by
              unfold shp at hs
              by_cases h3' : k' = 3 <;> by_cases hl' : l'.length = 2 <;> simp [h3', hl'] at hs ⊢ <;> (repeat' split at hs) <;> omega
            subst e
            simp at h1 h2
            subst h1 h2
            rw [eq_like cmp177]
            refine eqRes_bool ?_
            simp [go_sem, leafEq]
          by_cases k4 : k = 4
          · subst k4
            have e : k' = 4 := by
              unfold shp at hs
              by_cases h3' : k' = 3 <;> by_cases hl' : l'.length = 2 <;> simp [h3', hl'] at hs ⊢ <;> (repeat' split at hs) <;> omega
            subst e
            simp at h1 h2
            subst h1 h2
            rw [eq_like cmp178]
            refine eqRes_bool ?_
            simp [go_sem, leafEq]
          have e : k' ≠ 1 ∧ k' ≠ 2 ∧ k' ≠ 4 ∧ k' ≠ 3 := by
            unfold shp at hs
            by_cases h3' : k' = 3 <;> by_cases hl' : l'.length = 2 <;> simp [h3, k1, k2, k4, h3', hl'] at hs ⊢ <;> (repeat' split at hs) <;> omega
          obtain ⟨e1, e2, e4, e3⟩ := e
          rw [if_neg k1, if_neg k2, if_neg k4, if_neg h3] at h1
          rw [if_neg e1, if_neg e2, if_neg e4, if_neg e3] at h2
          subst h1 h2
          rw [eq_like cmp185]
          refine eqRes_bool ?_
          simp [go_sem, leafEq, k1, k2, k4]
      · rw [if_neg hs]
        obtain ⟨x, rfl⟩ := h1.ty
        obtain ⟨y, rfl⟩ := h2.ty
        simp only [List.length_map]
        exact .inl ⟨rfl, eq_unlike (mty_ne (shp_range _ _) (shp_range _ _) hs)⟩

end Go.Proofs.YtlejelbefmkakaaGreat

/- seal.pair, Mark, Same: of sealers, openers, boxes. -/
namespace Go.Proofs.YtlejelbefmkakaaGreat
open Go.RowKit

/-- The sealer of the pair of which a thing is. -/
def Th.pairOf (x : Th) (r : Int) : Int := if x.kind = 5 then r else x.ofr

section
variable {m : Wm} {lo : Nat} {W : World}

set_option maxRecDepth 100000 in
set_option maxHeartbeats 4000000 in
theorem pair_w (h : m.Ok lo W) {r : Int} {x : Nat × Th} (hg : m.get r = some x) (hk : x.2.kind = 5 ∨ x.2.kind = 6 ∨ x.2.kind = 7) (hm : x.2.v.v.may = true) :
    Calls Tryz.prog 91 #[.pointer (some ⟨m.wb, 0, none⟩), .int .i64 r] W fun e w' => e = .returned (.tuple #[.int .i64 (x.2.pairOf r), .int .i64 0]) ∧ Fr No W w' := by
  have hT := there_w h
  have hW := What_ok h hg hm
  unfold WhatRes at hW
  clear h hg hm
  obtain ⟨gx, ⟨kind, home, v, n, lost, ofr, byr, set, full⟩⟩ := x
  unfold Th.pairOf
  simp only at hk hW ⊢
  rcases hk with rfl | rfl | rfl
  all_goals
    go_enter Tryz.func91, Tryz.ntmps91
    go_wp2_with fail
    refine hT.mono ?_
    rintro e w' ⟨rfl, rfl⟩
    clear hT
    go_wp2_with fail
    refine hW.mono ?_
    rintro e w1 ⟨⟨k1, n1, s1, A1, c1, l1, r1⟩, rfl, -, -, f1⟩
    have hval1 : ∀ kind : Int, (Th.val ⟨kind, home, T.mk k1 n1 s1 A1 c1 l1 r1, n, lost, ofr, byr, set, full⟩) = .agg (th16 kind home k1 n1 s1 A1 l1.length c1 r1 n lost ofr byr set full) := fun _ => rfl
    rw [hval1]
    unfold th16
    have HF1 := hide f1
    clear f1 hval1 hW
    go_wp2_with fail
    go_ret2
    exact ⟨rfl, HF1.out.alloc _⟩

theorem ref_mark {a : Int} {v : Value} (h : IsMk (.mk 4 0 ⟨#[]⟩ [] a) v) : v = .iface 274 (.int .i64 a) := by
  rw [IsMk_mk] at h
  simpa [mkOf] using h

set_option maxHeartbeats 2000000 in
theorem Mark_w (h : m.Ok lo W) {r : Int} {x : Nat × Th} (hg : m.get r = some x) (hk : x.2.kind = 5 ∨ x.2.kind = 6 ∨ x.2.kind = 7) (hm : x.2.v.v.may = true) (hp0 : 1 ≤ x.2.pairOf r) (hp1 : x.2.pairOf r ≤ 9223372036854775807) :
    Calls Tryz.prog 22 #[.pointer (some ⟨m.wb, 0, none⟩), .int .i64 r] W fun e w' => e = .returned (.tuple #[.iface 274 (.int .i64 (x.2.pairOf r)), .int .i64 0]) ∧ Fr No W w' := by
  have hP := pair_w h hg hk hm
  generalize x.2.pairOf r = a at *
  have hO := fun W' => Of_any (tRef a) W' 0 W'.heap.size (tRef_in hp0 hp1 _ _ _) (Nat.le_refl _)
  rw [tRef_val] at hO
  have hma := tRef_may hp0
  have HO : Hid (∀ W', Calls Tryz.prog 92 #[.agg #[.int .u8 4, .int .i64 0, .string ⟨#[]⟩, .slice none 0 0, .int .i64 a]] W' fun e w' => e = .returned (.tuple #[.iface 274 (.int .i64 a), .int .i64 0]) ∧ Fr No W' w') := hide fun W' => by
    refine (hO W').mono ?_
    rintro e w' ⟨h1, -⟩
    obtain ⟨v, rfl, hv, f⟩ := h1 hma
    rw [tRef_v] at hv
    rw [ref_mark hv]
    exact ⟨rfl, f⟩
  clear hO hma h hg hk hm hp0 hp1
  go_enter Tryz.func22, Tryz.ntmps22
  go_wp2_with fail
  refine hP.mono ?_
  rintro e w1 ⟨rfl, f1⟩
  clear hP
  go_wp2_with fail
  refine (HO.out w1).mono ?_
  rintro e w2 ⟨rfl, f2⟩
  go_wp2_with fail
  go_ret2
  exact ⟨rfl, f1.trans f2⟩

/-- Two marks of references. -/
theorem mark_eql (a b : Int) (w : World) : (binOp .eql 49 (.iface 274 (.int .i64 a)) (.iface 274 (.int .i64 b))).run Tryz.prog w = .ok (.bool (decide (a = b))) w := by
  have i1 : IsMk (.mk 4 0 ⟨#[]⟩ [] a) (.iface 274 (.int .i64 a)) := by rw [IsMk_mk]; simp [mkOf]
  have i2 : IsMk (.mk 4 0 ⟨#[]⟩ [] b) (.iface 274 (.int .i64 b)) := by rw [IsMk_mk]; simp [mkOf]
  have h := run_eq (.mk 4 0 ⟨#[]⟩ [] a) (.mk 4 0 ⟨#[]⟩ [] b) 10000 _ _ w (by simp [V.dep_mk]) i1 i2
  have e : (binOp .eql 49 (.iface 274 (.int .i64 a)) (.iface 274 (.int .i64 b))).run Tryz.prog w = ((Op.equalIn 10000 49 (.iface 274 (.int .i64 a)) (.iface 274 (.int .i64 b))).run Tryz.prog w).andThen fun b w' => .ok (.bool b) w' := by
    simp [binOp, Op.equal]
    rfl
  rw [e]
  have hc : V.cmp (.mk 4 0 ⟨#[]⟩ [] a) (.mk 4 0 ⟨#[]⟩ [] b) = if a = b then 1 else 0 := by simp [V.cmp_mk, cmpOf, shp, leafEq]
  rw [hc] at h
  by_cases hab : a = b
  · rw [if_pos hab] at h
    rcases h with ⟨h, -⟩ | ⟨-, h⟩ | ⟨h, -⟩
    · cases h
    · rw [h]; simp [Result.andThen, hab]
    · cases h
  · rw [if_neg hab] at h
    rcases h with ⟨-, h⟩ | ⟨h, -⟩ | ⟨h, -⟩
    · rw [h]; simp [Result.andThen, hab]
    · cases h
    · cases h

set_option maxHeartbeats 2000000 in
theorem Same_w (h : m.Ok lo W) {r q : Int} {x y : Nat × Th} (hg : m.get r = some x) (hk : x.2.kind = 5 ∨ x.2.kind = 6 ∨ x.2.kind = 7) (hm : x.2.v.v.may = true) (hp0 : 1 ≤ x.2.pairOf r) (hp1 : x.2.pairOf r ≤ 9223372036854775807)
    (hgq : m.get q = some y) (hkq : y.2.kind = 5 ∨ y.2.kind = 6 ∨ y.2.kind = 7) (hmq : y.2.v.v.may = true) (hq0 : 1 ≤ y.2.pairOf q) (hq1 : y.2.pairOf q ≤ 9223372036854775807) :
    Calls Tryz.prog 23 #[.pointer (some ⟨m.wb, 0, none⟩), .int .i64 r, .int .i64 q] W fun e w' => e = .returned (.tuple #[.bool (decide (x.2.pairOf r = y.2.pairOf q)), .int .i64 0]) ∧ Fr No W w' := by
  have hT := there_w h
  have hIr := Is_w h r
  have hIq := Is_w h q
  have e1 : (m.get r).isSome = true := by rw [hg]; rfl
  have e2 : (m.get q).isSome = true := by rw [hgq]; rfl
  rw [e1] at hIr
  rw [e2] at hIq
  have hMr := Mark_w h hg hk hm hp0 hp1
  have HMq := hide fun W' (f : Fr No W W') => Mark_w (h.no f) hgq hkq hmq hq0 hq1
  have hme := mark_eql
  generalize x.2.pairOf r = a at *
  generalize y.2.pairOf q = b at *
  clear h hg hk hm hp0 hp1 hgq hkq hmq hq0 hq1 e1 e2
  go_enter Tryz.func23, Tryz.ntmps23
  go_wp2_with fail
  refine hT.mono ?_
  rintro e w' ⟨rfl, rfl⟩
  go_wp2_with fail
  refine hIr.mono ?_
  rintro e w' ⟨rfl, rfl⟩
  go_wp2_with fail
  refine hIq.mono ?_
  rintro e w' ⟨rfl, rfl⟩
  clear hT hIr hIq
  go_wp2_with fail
  refine hMr.mono ?_
  rintro e w1 ⟨rfl, f1⟩
  clear hMr
  go_wp2_with fail
  refine (HMq.out w1 f1).mono ?_
  rintro e w2 ⟨rfl, f2⟩
  go_wp2_with fail
  go_ret2
  exact ⟨rfl, f1.trans f2⟩
end

end Go.Proofs.YtlejelbefmkakaaGreat

/- world.New, of one side. -/
namespace Go.Proofs.YtlejelbefmkakaaGreat
open Go.RowKit

set_option maxRecDepth 100000 in
theorem cloneS_w (W : World) : Calls Tryz.prog 148 #[.slice none 0 0] W fun e w' => e = .returned (.slice none 0 0) ∧ w' = W := by
  have hq : ∀ w : World, (binOp .eql 32 (.slice none 0 0) (.slice none 0 0)).run Tryz.prog w = .ok (.bool true) w := fun w => by kernel_rfl
  go_enter Tryz.func148, Tryz.ntmps148
  go_wp2
  go_ret
  exact ⟨rfl, rfl⟩

theorem mk1_bool : ∀ w : World, (Instr.makeSlice 33 (.int .i64 1) (.int .i64 1)).run Tryz.prog w = .ok (.slice (some ⟨w.heap.size, 0, none⟩) 1 1) (w.alloc (.cells #[.bool false] 4)) := fun w => by
  have h := run_make_row' (P := Tryz.prog) 33 4 (.bool false) 1 Tryz.underlying33 (by kernel_rfl) rfl .i64 .i64 1 (by decide) (by decide) w
  have e : madeCells #[Value.bool false] 1 = #[Value.bool false] := by kernel_rfl
  rw [e] at h
  exact h

theorem mk1_int : ∀ w : World, (Instr.makeSlice 36 (.int .i64 1) (.int .i64 1)).run Tryz.prog w = .ok (.slice (some ⟨w.heap.size, 0, none⟩) 1 1) (w.alloc (.cells #[.int .i64 0] 3)) := fun w => by
  have h := run_make_row' (P := Tryz.prog) 36 3 (.int .i64 0) 8 Tryz.underlying36 (by kernel_rfl) rfl .i64 .i64 1 (by decide) (by decide) w
  have e : madeCells #[Value.int .i64 0] 1 = #[Value.int .i64 0] := by kernel_rfl
  rw [e] at h
  exact h

end Go.Proofs.YtlejelbefmkakaaGreat

/- A region that draws its order, by what holds whichever operations have come up: each operation is walked once. -/
namespace Go.Proofs.YtlejelbefmkakaaGreat

section
variable {P : Program} {ops : Array Oper} {Q : Exit → Act → World → Prop} {md : Region.Mode}

/-- One more has come up. -/
def upd (f : Nat → Bool) (i : Nat) : Nat → Bool := fun j => j == i || f j

def unl (l : List Bool) : Nat := (l.filter fun b => !b).length

theorem unl_set : ∀ (l : List Bool) (i : Nat), l[i]? = some false → unl (l.set i true) + 1 = unl l
  | [], _, h => by simp at h
  | b :: l, 0, h => by simp at h; subst h; simp [unl]
  | b :: l, i + 1, h => by
    have := unl_set l i (by simpa using h)
    cases b <;> simp [unl] at this ⊢ <;> omega

theorem unl_zero : ∀ (l : List Bool) (i : Nat), unl l = 0 → l[i]? = some false → False
  | [], _, _, h => by simp at h
  | b :: l, 0, hz, h => by simp at h; subst h; simp [unl] at hz
  | b :: l, i + 1, hz, h => by
    refine unl_zero l i ?_ (by simpa using h)
    cases b <;> simp [unl] at hz ⊢
    exact hz

/-- Where each operation waits for earlier ones alone, and nothing may come up, all have. -/
theorem ready_all {listed : Array Bool} (hfw : (List.range ops.size).all (fun i => ((ops[i]?).map fun o => o.after.all fun e => !Region.binds md e || decide (e.on < i)).getD true) = true) (h : Region.ready md ops listed = []) (hs : listed.size = ops.size) :
    ∀ i, i < ops.size → listed.getD i false = true := by
  intro i
  induction i using Nat.strongRecOn with
  | ind i ih =>
    intro hi
    cases hl : listed.getD i false with
    | true => rfl
    | false =>
      exfalso
      have hi2 : i < listed.size := by omega
      have hm : i ∈ Region.ready md ops listed := by
        rw [mem_ready]
        refine ⟨?_, ops[i], Array.getElem?_eq_getElem hi, fun e he hbd => ?_⟩
        · simp only [Array.getD, hi2, dif_pos] at hl ⊢
          exact hl
        · have h1 := List.all_eq_true.1 hfw i (List.mem_range.2 hi)
          rw [Array.getElem?_eq_getElem hi] at h1
          simp only [Option.map_some, Option.getD_some, Array.all_eq_true_iff_forall_mem] at h1
          have h2 : e.on < i := by have := h1 e he; rw [hbd] at this; simpa using this
          exact ih e.on h2 (by omega)
      rw [h] at hm
      cases hm

theorem wpAny_inv (I : (Nat → Bool) → Act → World → Prop) (hfw : (List.range ops.size).all (fun i => ((ops[i]?).map fun o => o.after.all fun e => !Region.binds md e || decide (e.on < i)).getD true) = true)
    (hstep : ∀ (i : Nat) (o : Oper) (f : Nat → Bool) (a : Act) (w : World), ops[i]? = some o → f i = false → (∀ e ∈ o.after, Region.binds md e = true → f e.on = true) → I f a w →
      ∀ K' : Act → World → Prop, Shut (∀ a w, I (upd f i) a w → K' a w) → if Region.wanted o (yielded ops a.tmps) = true then Oper.wp P o a w K' Q else K' (a.put o.dst undef) w)
    (hend : ∀ (f : Nat → Bool) (a : Act) (w : World), (∀ i, i < ops.size → f i = true) → I f a w → Q .normal a w) :
    ∀ (fuel : Nat) (listed : Array Bool) (a : Act) (w : World), listed.size = ops.size → unl listed.toList ≤ fuel → I (fun j => listed.getD j false) a w → wpAny P md ops Q fuel listed a w := by
  have hfin : ∀ (listed : Array Bool) (a : Act) (w : World), listed.size = ops.size → I (fun j => listed.getD j false) a w → Region.ready md ops listed = [] → Q .normal a w := fun listed a w hs hI hr =>
    hend _ a w (ready_all hfw hr hs) hI
  intro fuel
  induction fuel with
  | zero =>
    intro listed a w hs hu hI
    have hr : Region.ready md ops listed = [] := by
      refine List.eq_nil_iff_forall_not_mem.2 fun j hj => ?_
      obtain ⟨h1, o, ho, -⟩ := mem_ready.1 hj
      have hj2 := (Array.getElem?_eq_some_iff.1 ho).1
      refine unl_zero listed.toList j (by omega) ?_
      have hj3 : j < listed.size := by omega
      simp only [Array.getD, hj3, dif_pos] at h1
      rw [Array.getElem?_toList, Array.getElem?_eq_getElem hj3]
      exact congrArg some h1
    exact ⟨hr, hfin listed a w hs hI hr⟩
  | succ fuel ih =>
    intro listed a w hs hu hI
    refine ⟨hfin listed a w hs hI, fun i hi => ?_⟩
    obtain ⟨h1, o, ho, hd⟩ := mem_ready.1 hi
    have hi2 := (Array.getElem?_eq_some_iff.1 ho).1
    have hi3 : i < listed.size := by omega
    have hfalse : listed[i]? = some false := by
      simp only [Array.getD, hi3, dif_pos] at h1
      rw [Array.getElem?_eq_getElem hi3]
      exact congrArg some h1
    have hf : listed.getD i false = false := by
      simp only [Array.getD, hi3, dif_pos] at h1 ⊢
      exact h1
    refine wpOp_step ho fun K' hK => hstep i o _ a w ho hf (fun e he hb => hd e he hb) hI K' fun a' w' hI' => hK a' w' ?_
    refine ih (listed.setIfInBounds i true) a' w' (by simpa using hs) ?_ ?_
    · have := unl_set listed.toList i (by rw [Array.getElem?_toList]; exact hfalse)
      rw [Array.toList_setIfInBounds]
      omega
    · have he : (fun j => (listed.setIfInBounds i true).getD j false) = upd (fun j => listed.getD j false) i := by
        funext j
        simp only [upd, Array.getD_eq_getD_getElem?, Array.getElem?_setIfInBounds]
        by_cases hij : i = j
        · subst hij; simp [hi3]
        · have : ¬ j = i := fun h => hij h.symm
          simp [hij, this]
      rw [he]
      exact hI'

/-- The region. -/
theorem wp_region_inv {id : Nat} {a0 : Act} {w0 : World} (I : Act → (Nat → Bool) → Act → World → Prop) (hm : P.follows .mixedOrders = true) (hfw : (List.range ops.size).all (fun i => ((ops[i]?).map fun o => o.after.all fun e => !Region.binds .any e || decide (e.on < i)).getD true) = true)
    (hst : I a0 (fun _ => false) a0 w0.drew)
    (hstep : ∀ (i : Nat) (o : Oper) (f : Nat → Bool) (a : Act) (w : World), ops[i]? = some o → f i = false → (∀ e ∈ o.after, Region.binds .any e = true → f e.on = true) → I a0 f a w →
      ∀ K' : Act → World → Prop, Shut (∀ a w, I a0 (upd f i) a w → K' a w) → if Region.wanted o (yielded ops a.tmps) = true then Oper.wp P o a w K' Q else K' (a.put o.dst undef) w)
    (hend : ∀ (f : Nat → Bool) (a : Act) (w : World), (∀ i, i < ops.size → f i = true) → I a0 f a w → Q .normal a w) : (Code.region id ops true).wp P Q a0 w0 := by
  refine wp_region_any hm (wpAny_inv (I a0) hfw hstep hend _ _ _ _ (by simp) ?_ ?_)
  · have : ∀ n, unl (List.replicate n false) = n := fun n => by
      induction n with
      | zero => rfl
      | succ n ih => simp only [unl, List.replicate_succ] at ih ⊢; simp
    rw [Array.toList_replicate, this]
    exact Nat.le_refl _
  · have he : (fun j => (Array.replicate ops.size false).getD j false) = fun _ => false := by
      funext j
      simp only [Array.getD_eq_getD_getElem?, Array.getElem?_replicate]
      split <;> rfl
    rw [he]
    exact hst
end

end Go.Proofs.YtlejelbefmkakaaGreat

/- world.New's region: what holds, whichever operations have come up. -/
namespace Go.Proofs.YtlejelbefmkakaaGreat
open Go.RowKit

def nE (g : Nat → Nat) : Nat → Value
  | 0 => .slice none 0 0
  | 1 => .slice none 0 0
  | 2 => .int .i64 1
  | 3 => .slice (some ⟨g 3, 0, none⟩) 1 1
  | 4 => .int .i64 1
  | 5 => .slice (some ⟨g 5, 0, none⟩) 1 1
  | 6 => .map (some (g 6))
  | 7 => .map (some (g 7))
  | 8 => .agg #[.slice none 0 0, .slice (some ⟨g 3, 0, none⟩) 1 1, .map (some (g 6)), .map (some (g 7)), .int .i64 0, .slice (some ⟨g 5, 0, none⟩) 1 1]
  | 9 => .pointer (some ⟨g 9, 0, none⟩)
  | 10 => .pointer (some ⟨g 9, 0, none⟩)
  | 11 => .int .i64 0
  | _ => undef

/-- What an operation has made. -/
def nB (g : Nat → Nat) (w : World) : Nat → Prop
  | 3 => w.heap[g 3]? = some (.cells #[.bool false] 4 (0, 0))
  | 5 => w.heap[g 5]? = some (.cells #[.int .i64 0] 3 (0, 0))
  | 6 => w.heap[g 6]? = some (.map #[] 0)
  | 7 => w.heap[g 7]? = some (.map #[] 0)
  | 9 => w.heap[g 9]? = some (.cells #[.slice none 0 0, .slice (some ⟨g 3, 0, none⟩) 1 1, .map (some (g 6)), .map (some (g 7)), .int .i64 0, .slice (some ⟨g 5, 0, none⟩) 1 1] 38 (0, 0))
  | _ => True

structure NJ (W0 : World) (f : Nat → Bool) (x : List Value) (g : Nat → Nat) (w : World) : Prop where
  fr : Fr No W0 w
  x : ∀ j, f j = true → x.getD j undef = nE g j
  b : ∀ j, f j = true → nB g w j
  lo : ∀ j, f j = true → (j = 3 ∨ j = 5 ∨ j = 6 ∨ j = 7 ∨ j = 9) → W0.heap.size ≤ g j ∧ g j < w.heap.size
  ne : f 6 = true → f 7 = true → g 6 ≠ g 7
  c8 : f 8 = true → f 3 = true ∧ f 5 = true ∧ f 6 = true ∧ f 7 = true
  c9 : f 9 = true → f 8 = true
  c10 : f 10 = true → f 9 = true

theorem upd_ne {f : Nat → Bool} {i j : Nat} (h : j ≠ i) : upd f i j = f j := by
  simp [upd, h]
theorem upd_eq {f : Nat → Bool} {i : Nat} : upd f i i = true := by simp [upd]

theorem NJ.begin (W0 : World) (x : List Value) : NJ W0 (fun _ => false) x (fun _ => 0) W0.drew :=
  ⟨(Fr.refl No W0).drew, nofun, nofun, nofun, nofun, nofun, nofun, nofun⟩

/-- An operation that makes nothing. -/
theorem NJ.quiet {W0 w : World} {f : Nat → Bool} {x : List Value} {g : Nat → Nat} (h : NJ W0 f x g w) {i : Nat} (hi : i ≠ 3 ∧ i ≠ 5 ∧ i ≠ 6 ∧ i ≠ 7 ∧ i ≠ 9) (hx : i < x.length) (h8 : i = 8 → f 3 = true ∧ f 5 = true ∧ f 6 = true ∧ f 7 = true) (h10 : i = 10 → f 9 = true) : NJ W0 (upd f i) (x.set i (nE g i)) g w := by
  have hu : ∀ j, upd f i j = true → j = i ∨ f j = true := fun j hj => by
    by_cases hji : j = i
    · exact .inl hji
    · exact .inr (by rwa [upd_ne hji] at hj)
  have hk : ∀ j, f j = true → upd f i j = true := fun j hj => by
    by_cases hji : j = i
    · rw [hji]; exact upd_eq
    · rwa [upd_ne hji]
  refine ⟨h.fr, fun j hj => ?_, fun j hj => ?_, fun j hj hjj => ?_, fun h6 h7 => ?_, fun h8' => ?_, fun h9' => ?_, fun h10' => ?_⟩
  · rcases hu j hj with rfl | hj
    · simp [List.getD_eq_getElem?_getD, hx]
    · by_cases hji : j = i
      · subst hji; simp [List.getD_eq_getElem?_getD, hx]
      · rw [← h.x j hj, List.getD_eq_getElem?_getD, List.getD_eq_getElem?_getD, List.getElem?_set_ne (fun e => hji e.symm)]
  · rcases hu j hj with rfl | hj
    · unfold nB
      split <;> first | trivial | omega
    · exact h.b j hj
  · rcases hu j hj with rfl | hj
    · omega
    · exact h.lo j hj hjj
  · rw [upd_ne (by omega)] at h6 h7
    exact h.ne h6 h7
  · rcases hu 8 h8' with hh | hh
    · obtain ⟨a, b, c, d⟩ := h8 hh.symm
      exact ⟨hk _ a, hk _ b, hk _ c, hk _ d⟩
    · obtain ⟨a, b, c, d⟩ := h.c8 hh
      exact ⟨hk _ a, hk _ b, hk _ c, hk _ d⟩
  · rw [upd_ne (by omega)] at h9'
    exact hk _ (h.c9 h9')
  · rcases hu 10 h10' with hh | hh
    · exact hk _ (h10 hh.symm)
    · exact hk _ (h.c10 hh)

/-- Another block for one operation. -/
def gset (g : Nat → Nat) (i b : Nat) : Nat → Nat := fun j => if j = i then b else g j
theorem gset_eq {g : Nat → Nat} {i b : Nat} : gset g i b i = b := by simp [gset]
theorem gset_ne {g : Nat → Nat} {i b j : Nat} (h : j ≠ i) : gset g i b j = g j := by simp [gset, h]

theorem nB_alloc {g : Nat → Nat} {w : World} {o : Obj} (j : Nat) (h : nB g w j) (hlt : (j = 3 ∨ j = 5 ∨ j = 6 ∨ j = 7 ∨ j = 9) → g j < w.heap.size) : nB g (w.alloc o) j := by
  unfold nB at h ⊢
  split
  · exact (Below.heap_alloc _ _ _ (hlt (by simp))).trans h
  · exact (Below.heap_alloc _ _ _ (hlt (by simp))).trans h
  · exact (Below.heap_alloc _ _ _ (hlt (by simp))).trans h
  · exact (Below.heap_alloc _ _ _ (hlt (by simp))).trans h
  · exact (Below.heap_alloc _ _ _ (hlt (by simp))).trans h
  · trivial

/-- An operation that makes a block. -/
theorem NJ.make {W0 w : World} {f : Nat → Bool} {x : List Value} {g : Nat → Nat} (h : NJ W0 f x g w) {i : Nat} {o : Obj} (hi : i = 3 ∨ i = 5 ∨ i = 6 ∨ i = 7) (hf : f i = false) (hx : i < x.length) (ho : nB (gset g i w.heap.size) (w.alloc o) i) : NJ W0 (upd f i) (x.set i (nE (gset g i w.heap.size) i)) (gset g i w.heap.size) (w.alloc o) := by
  have h8 : f 8 = false := by
    cases h8 : f 8 with
    | false => rfl
    | true =>
      obtain ⟨a, b, c, d⟩ := h.c8 h8
      rcases hi with rfl | rfl | rfl | rfl <;> simp_all
  have h9 : f 9 = false := by
    cases h9 : f 9 with
    | false => rfl
    | true => rw [h.c9 h9] at h8; cases h8
  have h10 : f 10 = false := by
    cases h10 : f 10 with
    | false => rfl
    | true => rw [h.c10 h10] at h9; cases h9
  have hs := h.fr.size
  have hu : ∀ j, upd f i j = true → j = i ∨ (j ≠ i ∧ f j = true) := fun j hj => by
    by_cases hji : j = i
    · exact .inl hji
    · exact .inr ⟨hji, by rwa [upd_ne hji] at hj⟩
  have hE : ∀ j, j ≠ i → f j = true → nE (gset g i w.heap.size) j = nE g j := fun j hji hj => by
    have j8 : j ≠ 8 := fun e => by subst e; rw [h8] at hj; cases hj
    have j9 : j ≠ 9 := fun e => by subst e; rw [h9] at hj; cases hj
    have j10 : j ≠ 10 := fun e => by subst e; rw [h10] at hj; cases hj
    unfold nE
    split <;> first | rfl | omega | (rw [gset_ne hji])
  have hBk : ∀ j, j ≠ i → f j = true → nB (gset g i w.heap.size) w j := fun j hji hj => by
    have hb := h.b j hj
    have j9 : j ≠ 9 := fun e => by subst e; rw [h9] at hj; cases hj
    unfold nB at hb ⊢
    split <;> first | trivial | omega | (rw [gset_ne hji]; exact hb)
  refine ⟨h.fr.alloc _, fun j hj => ?_, fun j hj => ?_, fun j hj hjj => ?_, fun h6 h7 => ?_, fun h8' => ?_, fun h9' => ?_, fun h10' => ?_⟩
  · rcases hu j hj with rfl | ⟨hji, hj⟩
    · simp [List.getD_eq_getElem?_getD, hx]
    · rw [hE j hji hj, ← h.x j hj, List.getD_eq_getElem?_getD, List.getD_eq_getElem?_getD, List.getElem?_set_ne (fun e => hji e.symm)]
  · rcases hu j hj with rfl | ⟨hji, hj⟩
    · exact ho
    · exact nB_alloc j (hBk j hji hj) fun hjj => by rw [gset_ne hji]; exact (h.lo j hj hjj).2
  · rcases hu j hj with rfl | ⟨hji, hj⟩
    · rw [gset_eq]; simp; omega
    · rw [gset_ne hji]
      have := h.lo j hj hjj
      simp; omega
  · rcases hu 6 h6 with e6 | ⟨n6, f6⟩ <;> rcases hu 7 h7 with e7 | ⟨n7, f7⟩
    · omega
    · subst e6
      rw [gset_eq, gset_ne n7]
      have := h.lo 7 f7 (by simp)
      omega
    · subst e7
      rw [gset_eq, gset_ne n6]
      have := h.lo 6 f6 (by simp)
      omega
    · rw [gset_ne n6, gset_ne n7]
      exact h.ne f6 f7
  · rcases hu 8 h8' with e | ⟨-, e⟩
    · omega
    · rw [h8] at e; cases e
  · rcases hu 9 h9' with e | ⟨-, e⟩
    · omega
    · rw [h9] at e; cases e
  · rcases hu 10 h10' with e | ⟨-, e⟩
    · omega
    · rw [h10] at e; cases e

/-- The box. -/
theorem NJ.box {W0 w : World} {f : Nat → Bool} {x : List Value} {g : Nat → Nat} (h : NJ W0 f x g w) {o : Obj} (h8 : f 8 = true) (hf : f 9 = false) (hx : 9 < x.length) (ho : nB (gset g 9 w.heap.size) (w.alloc o) 9) : NJ W0 (upd f 9) (x.set 9 (nE (gset g 9 w.heap.size) 9)) (gset g 9 w.heap.size) (w.alloc o) := by
  have h10 : f 10 = false := by
    cases h10 : f 10 with
    | false => rfl
    | true => rw [h.c10 h10] at hf; cases hf
  have hs := h.fr.size
  have hu : ∀ j, upd f 9 j = true → j = 9 ∨ (j ≠ 9 ∧ f j = true) := fun j hj => by
    by_cases hji : j = 9
    · exact .inl hji
    · exact .inr ⟨hji, by rwa [upd_ne hji] at hj⟩
  have hk : ∀ j, f j = true → upd f 9 j = true := fun j hj => by
    by_cases hji : j = 9
    · rw [hji]; exact upd_eq
    · rwa [upd_ne hji]
  have hE : ∀ j, j ≠ 9 → f j = true → nE (gset g 9 w.heap.size) j = nE g j := fun j hji hj => by
    have j10 : j ≠ 10 := fun e => by subst e; rw [h10] at hj; cases hj
    unfold nE
    split <;> first | rfl | omega | (simp [gset])
  have hBk : ∀ j, j ≠ 9 → f j = true → nB (gset g 9 w.heap.size) w j := fun j hji hj => by
    have hb := h.b j hj
    unfold nB at hb ⊢
    split <;> first | trivial | omega | (rw [gset_ne hji]; exact hb)
  refine ⟨h.fr.alloc _, fun j hj => ?_, fun j hj => ?_, fun j hj hjj => ?_, fun h6 h7 => ?_, fun h8' => ?_, fun h9' => ?_, fun h10' => ?_⟩
  · rcases hu j hj with rfl | ⟨hji, hj⟩
    · simp [List.getD_eq_getElem?_getD, hx]
    · rw [hE j hji hj, ← h.x j hj, List.getD_eq_getElem?_getD, List.getD_eq_getElem?_getD, List.getElem?_set_ne (fun e => hji e.symm)]
  · rcases hu j hj with rfl | ⟨hji, hj⟩
    · exact ho
    · exact nB_alloc j (hBk j hji hj) fun hjj => by rw [gset_ne hji]; exact (h.lo j hj hjj).2
  · rcases hu j hj with rfl | ⟨hji, hj⟩
    · rw [gset_eq]; simp; omega
    · rw [gset_ne hji]
      have := h.lo j hj hjj
      simp; omega
  · rw [upd_ne (by omega)] at h6 h7
    rw [gset_ne (by omega), gset_ne (by omega)]
    exact h.ne h6 h7
  · obtain ⟨a, b, c, d⟩ := h.c8 h8
    exact ⟨hk _ a, hk _ b, hk _ c, hk _ d⟩
  · exact hk _ h8
  · exact upd_eq

end Go.Proofs.YtlejelbefmkakaaGreat

/- world.New, of one side. -/
namespace Go.Proofs.YtlejelbefmkakaaGreat
open Go.RowKit

set_option maxRecDepth 100000 in
set_option maxHeartbeats 4000000 in
theorem New_one (W : World) : Calls Tryz.prog 82 #[.slice none 0 0] W fun e w' => ∃ m : Wm, e = .returned (.tuple #[.pointer (some ⟨m.wb, 0, none⟩), .int .i64 0]) ∧ m.Ok W.heap.size w' ∧ m.th = [] ∧ m.made = [0] ∧ Fr No W w' := by
  have hmm := @run_makeMap Tryz.prog
  have hC := cloneS_w
  have hb1 := mk1_bool
  have hb2 := mk1_int
  go_enter Tryz.func82, Tryz.ntmps82
  go_wp2_with fail
  refine wp_loop_rounds 1 ?_
  rw [rounds_succ]
  go_wp2_with fail
  refine wp_region_inv (I := fun a0 f a wx => ∃ y0 y1 y2 y3 y4 y5 y6 y7 y8 y9 y10 y11 g, a = ((((((((((((a0.put (some 28) y0).put (some 29) y1).put (some 30) y2).put (some 31) y3).put (some 32) y4).put (some 33) y5).put (some 34) y6).put (some 35) y7).put (some 36) y8).put (some 37) y9).put (some 2) y10).put (some 3) y11) ∧ NJ W f [y0, y1, y2, y3, y4, y5, y6, y7, y8, y9, y10, y11] g wx) (by kernel_rfl) (by kernel_rfl) ?st ?step ?en
  case st => exact ⟨_, _, _, _, _, _, _, _, _, _, _, _, _, by simp only [Act.put, List.setIfInBounds_toArray, List.set_cons_zero, List.set_cons_succ] <;> rfl, NJ.begin W _⟩
  case step =>
    rintro i o f a wx ho hf hd ⟨y0, y1, y2, y3, y4, y5, y6, y7, y8, y9, y10, y11, g, rfl, J⟩ K' hK
    have hi := (Array.getElem?_eq_some_iff.1 ho).1
    simp only [List.size_toArray, List.length_cons, List.length_nil] at hi
    have hid : i = 0 ∨ i = 1 ∨ i = 2 ∨ i = 3 ∨ i = 4 ∨ i = 5 ∨ i = 6 ∨ i = 7 ∨ i = 8 ∨ i = 9 ∨ i = 10 ∨ i = 11 := by omega
    simp only [Act.put, List.setIfInBounds_toArray, List.set_cons_zero, List.set_cons_succ]
    rcases hid with rfl | rfl | rfl | rfl | rfl | rfl | rfl | rfl | rfl | rfl | rfl | rfl
    · simp only [List.getElem?_toArray, List.getElem?_cons_zero, Option.some.injEq] at ho; subst ho
      have HJ := hide J
      have HFI := hide hf
      clear J hd hf
      go_simp
      exact hK.out _ _ ⟨_, _, _, _, _, _, _, _, _, _, _, _, _, by simp only [Act.put, List.setIfInBounds_toArray, List.set_cons_zero, List.set_cons_succ] <;> rfl, HJ.out.quiet (i := 0) (by decide) (by simp) (nofun) (nofun)⟩
    · simp only [List.getElem?_toArray, List.getElem?_cons_succ, List.getElem?_cons_zero, Option.some.injEq] at ho; subst ho
      have b0 := hd ⟨0, .data⟩ (by simp) (by rfl)
      obtain rfl : y0 = .slice none 0 0 := J.x 0 b0
      have HJ := hide J
      have B0 := hide b0
      have HFI := hide hf
      clear J hd hf b0
      go_simp
      refine (hC _).mono ?_
      rintro e w' ⟨rfl, rfl⟩
      try go_simp
      exact hK.out _ _ ⟨_, _, _, _, _, _, _, _, _, _, _, _, _, by simp only [Act.put, List.setIfInBounds_toArray, List.set_cons_zero, List.set_cons_succ] <;> rfl, HJ.out.quiet (i := 1) (by decide) (by simp) (nofun) (nofun)⟩
    · simp only [List.getElem?_toArray, List.getElem?_cons_succ, List.getElem?_cons_zero, Option.some.injEq] at ho; subst ho
      have HJ := hide J
      have HFI := hide hf
      clear J hd hf
      go_simp
      exact hK.out _ _ ⟨_, _, _, _, _, _, _, _, _, _, _, _, _, by simp only [Act.put, List.setIfInBounds_toArray, List.set_cons_zero, List.set_cons_succ] <;> rfl, HJ.out.quiet (i := 2) (by decide) (by simp) (nofun) (nofun)⟩
    · simp only [List.getElem?_toArray, List.getElem?_cons_succ, List.getElem?_cons_zero, Option.some.injEq] at ho; subst ho
      have b2 := hd ⟨2, .data⟩ (by simp) (by rfl)
      obtain rfl : y2 = .int .i64 1 := J.x 2 b2
      have HJ := hide J
      have B2 := hide b2
      have HFI := hide hf
      clear J hd hf b2
      go_simp
      exact hK.out _ _ ⟨_, _, _, _, _, _, _, _, _, _, _, _, _, by simp only [Act.put, List.setIfInBounds_toArray, List.set_cons_zero, List.set_cons_succ] <;> rfl, HJ.out.make (i := 3) (by simp) HFI.out (by simp) (by show (World.alloc _ _).heap[gset g 3 wx.heap.size 3]? = _; rw [gset_eq]; exact World.alloc_heap_new _ _)⟩
    · simp only [List.getElem?_toArray, List.getElem?_cons_succ, List.getElem?_cons_zero, Option.some.injEq] at ho; subst ho
      have HJ := hide J
      have HFI := hide hf
      clear J hd hf
      go_simp
      exact hK.out _ _ ⟨_, _, _, _, _, _, _, _, _, _, _, _, _, by simp only [Act.put, List.setIfInBounds_toArray, List.set_cons_zero, List.set_cons_succ] <;> rfl, HJ.out.quiet (i := 4) (by decide) (by simp) (nofun) (nofun)⟩
    · simp only [List.getElem?_toArray, List.getElem?_cons_succ, List.getElem?_cons_zero, Option.some.injEq] at ho; subst ho
      have b4 := hd ⟨4, .data⟩ (by simp) (by rfl)
      obtain rfl : y4 = .int .i64 1 := J.x 4 b4
      have HJ := hide J
      have B4 := hide b4
      have HFI := hide hf
      clear J hd hf b4
      go_simp
      exact hK.out _ _ ⟨_, _, _, _, _, _, _, _, _, _, _, _, _, by simp only [Act.put, List.setIfInBounds_toArray, List.set_cons_zero, List.set_cons_succ] <;> rfl, HJ.out.make (i := 5) (by simp) HFI.out (by simp) (by show (World.alloc _ _).heap[gset g 5 wx.heap.size 5]? = _; rw [gset_eq]; exact World.alloc_heap_new _ _)⟩
    · simp only [List.getElem?_toArray, List.getElem?_cons_succ, List.getElem?_cons_zero, Option.some.injEq] at ho; subst ho
      have HJ := hide J
      have HFI := hide hf
      clear J hd hf
      go_simp
      exact hK.out _ _ ⟨_, _, _, _, _, _, _, _, _, _, _, _, _, by simp only [Act.put, List.setIfInBounds_toArray, List.set_cons_zero, List.set_cons_succ] <;> rfl, HJ.out.make (i := 6) (by simp) HFI.out (by simp) (by show (World.alloc _ _).heap[gset g 6 wx.heap.size 6]? = _; rw [gset_eq]; exact World.alloc_heap_new _ _)⟩
    · simp only [List.getElem?_toArray, List.getElem?_cons_succ, List.getElem?_cons_zero, Option.some.injEq] at ho; subst ho
      have HJ := hide J
      have HFI := hide hf
      clear J hd hf
      go_simp
      exact hK.out _ _ ⟨_, _, _, _, _, _, _, _, _, _, _, _, _, by simp only [Act.put, List.setIfInBounds_toArray, List.set_cons_zero, List.set_cons_succ] <;> rfl, HJ.out.make (i := 7) (by simp) HFI.out (by simp) (by show (World.alloc _ _).heap[gset g 7 wx.heap.size 7]? = _; rw [gset_eq]; exact World.alloc_heap_new _ _)⟩
    · simp only [List.getElem?_toArray, List.getElem?_cons_succ, List.getElem?_cons_zero, Option.some.injEq] at ho; subst ho
      have b1 := hd ⟨1, .data⟩ (by simp) (by rfl)
      obtain rfl : y1 = .slice none 0 0 := J.x 1 b1
      have b3 := hd ⟨3, .data⟩ (by simp) (by rfl)
      obtain rfl : y3 = .slice (some ⟨g 3, 0, none⟩) 1 1 := J.x 3 b3
      have b5 := hd ⟨5, .data⟩ (by simp) (by rfl)
      obtain rfl : y5 = .slice (some ⟨g 5, 0, none⟩) 1 1 := J.x 5 b5
      have b6 := hd ⟨6, .data⟩ (by simp) (by rfl)
      obtain rfl : y6 = .map (some (g 6)) := J.x 6 b6
      have b7 := hd ⟨7, .data⟩ (by simp) (by rfl)
      obtain rfl : y7 = .map (some (g 7)) := J.x 7 b7
      have HJ := hide J
      have B1 := hide b1
      have B3 := hide b3
      have B5 := hide b5
      have B6 := hide b6
      have B7 := hide b7
      have HFI := hide hf
      clear J hd hf b1 b3 b5 b6 b7
      go_simp
      exact hK.out _ _ ⟨_, _, _, _, _, _, _, _, _, _, _, _, _, by simp only [Act.put, List.setIfInBounds_toArray, List.set_cons_zero, List.set_cons_succ] <;> rfl, HJ.out.quiet (i := 8) (by decide) (by simp) (fun _ => ⟨B3.out, B5.out, B6.out, B7.out⟩) (nofun)⟩
    · simp only [List.getElem?_toArray, List.getElem?_cons_succ, List.getElem?_cons_zero, Option.some.injEq] at ho; subst ho
      have b8 := hd ⟨8, .data⟩ (by simp) (by rfl)
      obtain rfl : y8 = .agg #[.slice none 0 0, .slice (some ⟨g 3, 0, none⟩) 1 1, .map (some (g 6)), .map (some (g 7)), .int .i64 0, .slice (some ⟨g 5, 0, none⟩) 1 1] := J.x 8 b8
      have HJ := hide J
      have B8 := hide b8
      have HFI := hide hf
      clear J hd hf b8
      go_simp
      exact hK.out _ _ ⟨_, _, _, _, _, _, _, _, _, _, _, _, _, by simp only [Act.put, List.setIfInBounds_toArray, List.set_cons_zero, List.set_cons_succ] <;> rfl, HJ.out.box B8.out HFI.out (by simp) (by show (World.alloc _ _).heap[gset g 9 wx.heap.size 9]? = _; rw [gset_eq]; exact World.alloc_heap_new _ _)⟩
    · simp only [List.getElem?_toArray, List.getElem?_cons_succ, List.getElem?_cons_zero, Option.some.injEq] at ho; subst ho
      have b9 := hd ⟨9, .data⟩ (by simp) (by rfl)
      obtain rfl : y9 = .pointer (some ⟨g 9, 0, none⟩) := J.x 9 b9
      have HJ := hide J
      have B9 := hide b9
      have HFI := hide hf
      clear J hd hf b9
      go_simp
      exact hK.out _ _ ⟨_, _, _, _, _, _, _, _, _, _, _, _, _, by simp only [Act.put, List.setIfInBounds_toArray, List.set_cons_zero, List.set_cons_succ] <;> rfl, HJ.out.quiet (i := 10) (by decide) (by simp) (nofun) (fun _ => B9.out)⟩
    · simp only [List.getElem?_toArray, List.getElem?_cons_succ, List.getElem?_cons_zero, Option.some.injEq] at ho; subst ho
      have HJ := hide J
      have HFI := hide hf
      clear J hd hf
      go_simp
      exact hK.out _ _ ⟨_, _, _, _, _, _, _, _, _, _, _, _, _, by simp only [Act.put, List.setIfInBounds_toArray, List.set_cons_zero, List.set_cons_succ] <;> rfl, HJ.out.quiet (i := 11) (by decide) (by simp) (nofun) (nofun)⟩
  case en =>
    rintro f a wx hall ⟨y0, y1, y2, y3, y4, y5, y6, y7, y8, y9, y10, y11, g, rfl, J⟩
    simp only [Act.put, List.setIfInBounds_toArray, List.set_cons_zero, List.set_cons_succ]
    have ha : ∀ j, j < 12 → f j = true := fun j hj => hall j (by simpa using hj)
    obtain rfl : y10 = .pointer (some ⟨g 9, 0, none⟩) := J.x 10 (ha 10 (by omega))
    obtain rfl : y11 = .int .i64 0 := J.x 11 (ha 11 (by omega))
    have n3 : wx.heap[g 9]? = _ := J.b 9 (ha 9 (by omega))
    have n5 : wx.heap[g 5]? = _ := J.b 5 (ha 5 (by omega))
    have n6 : wx.heap[g 6]? = _ := J.b 6 (ha 6 (by omega))
    have n7 : wx.heap[g 7]? = _ := J.b 7 (ha 7 (by omega))
    have hne := J.ne (ha 6 (by omega)) (ha 7 (by omega))
    have l9 := J.lo 9 (ha 9 (by omega)) (by simp)
    have l5 := J.lo 5 (ha 5 (by omega)) (by simp)
    have l6 := J.lo 6 (ha 6 (by omega)) (by simp)
    have l7 := J.lo 7 (ha 7 (by omega)) (by simp)
    have hfr := J.fr
    have hok : (⟨g 9, g 6, g 7, none, 0, 0, some ⟨g 3, 0, none⟩, 1, 1, some ⟨g 5, 0, none⟩, 1, [0], [], []⟩ : Wm).Ok W.heap.size wx :=
      ⟨n3, ⟨#[], 0, n6, ⟨rfl, by simp⟩, by simp, by simp⟩, ⟨#[], 0, n7, rfl, by simp⟩, ⟨rfl, .inr ⟨g 5, 1, #[.int .i64 0], rfl, l5.1, n5, by simp, by simp [maxLen], rfl, rfl⟩⟩, by simp, by simp, ⟨l9.1, l6.1, l7.1, by simp⟩, hne, by simp, by simp, by simp, by simp⟩
    have HOK := hide hok
    have HFR := hide hfr
    clear J hall ha n3 n5 n6 n7 hne l9 l5 l6 l7 hok hfr
    go_wp2_with fail
    go_ret2
    exact ⟨_, rfl, HOK.out, rfl, rfl, HFR.out⟩

end Go.Proofs.YtlejelbefmkakaaGreat

/- Worlds: a pair more, plain. -/
namespace Go.Proofs.YtlejelbefmkakaaGreat
open Go.RowKit

/-- A world with one pair more. -/
def Wm.pair (m : Wm) (g1 g2 : Nat) (t1 t2 : T) (s : Nat) : Wm :=
  (m.add g1 ⟨5, s, t1, 0, 0, 0, 0, 0, false⟩ s).add g2 ⟨6, s, t2, 0, 0, (m.th.length : Int) + 1, 0, 0, false⟩ s

section
variable {m : Wm} {g1 g2 s : Nat} {t1 t2 : T}

theorem pair_len : (m.pair g1 g2 t1 t2 s).th.length = m.th.length + 2 := by unfold Wm.pair; rw [add_len, add_len]
theorem pair_made : (m.pair g1 g2 t1 t2 s).made.length = m.made.length := by unfold Wm.pair; rw [add_made, add_made]
theorem pair_made_at (hs : s < m.made.length) : (m.pair g1 g2 t1 t2 s).made[s]'(by rw [pair_made]; exact hs) = m.made[s] + 2 := by
  unfold Wm.pair
  rw [add_at_made (by rw [add_made]; exact hs), add_at_made hs]
theorem pair_sealer : (m.pair g1 g2 t1 t2 s).get ((m.th.length : Int) + 1) = some (g1, ⟨5, s, t1, 0, 0, 0, 0, 0, false⟩) := by
  unfold Wm.pair
  exact add_get_old (add_get_new _ _ _)
theorem pair_opener : (m.pair g1 g2 t1 t2 s).get ((m.th.length : Int) + 2) = some (g2, ⟨6, s, t2, 0, 0, (m.th.length : Int) + 1, 0, 0, false⟩) := by
  unfold Wm.pair
  have h := add_get_new (m := m.add g1 ⟨5, s, t1, 0, 0, 0, 0, 0, false⟩ s) g2 s ⟨6, s, t2, 0, 0, (m.th.length : Int) + 1, 0, 0, false⟩
  rw [add_len] at h
  rw [← h]
  congr 1
theorem pair_old {r : Int} {y : Nat × Th} (h : m.get r = some y) : (m.pair g1 g2 t1 t2 s).get r = some y := by
  unfold Wm.pair
  exact add_get_old (add_get_old h)
theorem pair_ofr (h : ∀ x ∈ m.th, x.2.ofr ≤ (m.th.length : Int)) : ∀ x ∈ (m.pair g1 g2 t1 t2 s).th, x.2.ofr ≤ ((m.pair g1 g2 t1 t2 s).th.length : Int) := by
  intro x hx
  rw [pair_len]
  unfold Wm.pair Wm.add at hx
  simp only [List.mem_append, List.mem_singleton] at hx
  rcases hx with (hx | rfl) | rfl
  · have := h x hx; omega
  · simp; omega
  · simp
end

end Go.Proofs.YtlejelbefmkakaaGreat

/- posternlaw09.awake. -/
namespace Go.Proofs.YtlejelbefmkakaaGreat
open Go.RowKit

/-- A whole number as a value. -/
def tNum (n : Int) : T := .mk 1 n ⟨#[]⟩ none 0 [] 0
theorem tNum_val (n : Int) : (tNum n).val = .agg #[.int .u8 1, .int .i64 n, .string ⟨#[]⟩, .slice none 0 0, .int .i64 0] := rfl
theorem tNum_v (n : Int) : (tNum n).v = .mk 1 n ⟨#[]⟩ [] 0 := by rw [tNum, T.v_mk]; rfl
theorem tNum_in {n : Int} (h0 : -100 ≤ n) (h1 : n ≤ 100) (w : World) (lo hi : Nat) : (tNum n).In w lo hi :=
  T.in_mk.2 ⟨⟨by decide, by decide, by omega, by omega, by decide, by decide, Nat.le_refl _, by decide, by decide⟩, fun h => absurd rfl h, by simp⟩
theorem tNum_may (n : Int) : (tNum n).v.may = true := by
  rw [tNum_v]
  simp [V.may, V.fits, V.ok_mk, V.size_mk, V.dep_mk, fok]
theorem tNum_refs (n : Int) : (tNum n).v.refs = [] := by
  unfold V.refs
  rw [if_pos (tNum_may n), tNum_v, V.walk_mk]
  simp [walkL, refsOf]

set_option maxRecDepth 100000 in
set_option maxHeartbeats 8000000 in
theorem awake9 (W : World) : Calls Tryz.prog 17 #[] W fun e w' => e = .returned (.bool true) ∧ Fr No W w' := by
  have HNew := hide (New_one W)
  go_enter Tryz.func17, Tryz.ntmps17
  go_wp2_with fail
  refine HNew.out.mono ?_
  rintro e w1 ⟨m, rfl, hok, hth, hmd, f1⟩
  have hs0 : 0 < m.made.length := by rw [hmd]; simp
  have hm0 : m.made[0] = 0 := by simp [hmd]
  have hl0 : m.th.length = 0 := by rw [hth]; rfl
  have hp := Pair_ok hok f1.size 0 hs0 (by omega) (by omega) (by rw [hth]; simp)
  have HP : Hid (Calls Tryz.prog 18 #[.pointer (some ⟨m.wb, 0, none⟩), .int .i64 0] w1 fun e w' => e = .returned (.tuple #[.int .i64 1, .int .i64 2, .int .i64 0]) ∧ ∃ g1 g2 t1 t2, t1.v = V.zero ∧ t2.v = V.zero ∧ (m.pair g1 g2 t1 t2 0).Ok W.heap.size w' ∧ Fr No W w') := hide (by
    refine hp.mono ?_
    rintro e w' ⟨rfl, g1, g2, t1, t2, h1, h2, h3, h4, -⟩
    rw [hl0]
    exact ⟨rfl, g1, g2, t1, t2, h1, h2, h3, f1.trans' h4 fun i hi hb => by have := (hok.lt i hb).1; omega⟩)
  have HL0 := hide hl0
  have HS0 := hide hs0
  have HM0 := hide hm0
  have HTH := hide hth
  clear hp f1 hok HNew hl0 hm0 hth hmd
  go_wp2_with fail
  refine HP.out.mono ?_
  rintro e w2 ⟨rfl, g1, g2, t1, t2, hv1, hv2, hok2, f2⟩
  have hl0 := HL0.out
  obtain ⟨m2, hm2⟩ : ∃ m2, m2 = m.pair g1 g2 t1 t2 0 := ⟨_, rfl⟩
  have hl2 : m2.th.length = 2 := by rw [hm2, pair_len, hl0]
  have hs2 : 0 < m2.made.length := by rw [hm2, pair_made]; exact hs0
  have hd2 : m2.made[0] = 2 := by
    have := pair_made_at (m := m) (g1 := g1) (g2 := g2) (t1 := t1) (t2 := t2) hs0
    rw [HM0.out] at this
    simpa [hm2] using this
  have hwb2 : m2.wb = m.wb := by rw [hm2]; rfl
  have hs1 : m2.get 1 = some (g1, ⟨5, 0, t1, 0, 0, 0, 0, 0, false⟩) := by
    have := pair_sealer (m := m) (g1 := g1) (g2 := g2) (t1 := t1) (t2 := t2) (s := 0)
    rw [hl0] at this
    rw [hm2]; exact this
  have ho2 : m2.get 2 = some (g2, ⟨6, 0, t2, 0, 0, 1, 0, 0, false⟩) := by
    have := pair_opener (m := m) (g1 := g1) (g2 := g2) (t1 := t1) (t2 := t2) (s := 0)
    rw [hl0] at this
    rw [hm2]; exact this
  have hof2 : ∀ x ∈ m2.th, x.2.ofr ≤ (m2.th.length : Int) := by rw [hm2]; exact pair_ofr (by rw [HTH.out]; simp)
  rw [← hm2] at hok2
  have hp2 := Pair_ok hok2 f2.size 0 hs2 (by rw [hd2]; omega) (by omega) hof2
  have HP2 : Hid (Calls Tryz.prog 18 #[.pointer (some ⟨m.wb, 0, none⟩), .int .i64 0] w2 fun e w' => e = .returned (.tuple #[.int .i64 3, .int .i64 4, .int .i64 0]) ∧ ∃ g3 g4 t3 t4, t3.v = V.zero ∧ t4.v = V.zero ∧ (m2.pair g3 g4 t3 t4 0).Ok W.heap.size w' ∧ Fr No W w') := hide (by
    rw [← hwb2]
    refine hp2.mono ?_
    rintro e w' ⟨rfl, g3, g4, t3, t4, h1, h2, h3, h4, -⟩
    rw [hl2]
    exact ⟨rfl, g3, g4, t3, t4, h1, h2, h3, f2.trans' h4 fun i hi hb => by have := (hok2.lt i hb).1; omega⟩)
  have HV1 := hide hv1
  have HV2 := hide hv2
  have HS1 := hide hs1
  have HO2 := hide ho2
  have HL2 := hide hl2
  have HD2 := hide hd2
  have HWB2 := hide hwb2
  have HOF2 := hide hof2
  clear hp2 hv1 hv2 hs1 ho2 hl2 hd2 hwb2 hof2 hok2 f2 hm2 hl0 HP
  go_wp2_with fail
  refine HP2.out.mono ?_
  rintro e w3 ⟨rfl, g3, g4, t3, t4, hv3, hv4, hok4, f4⟩
  have hl2 := HL2.out
  obtain ⟨m4, hm4⟩ : ∃ m4, m4 = m2.pair g3 g4 t3 t4 0 := ⟨_, rfl⟩
  have hl4 : m4.th.length = 4 := by rw [hm4, pair_len, hl2]
  have hs4 : 0 < m4.made.length := by rw [hm4, pair_made]; exact hs2
  have hd4 : m4.made[0] = 4 := by
    have := pair_made_at (m := m2) (g1 := g3) (g2 := g4) (t1 := t3) (t2 := t4) hs2
    rw [HD2.out] at this
    simpa [hm4] using this
  have hwb4 : m4.wb = m.wb := by rw [hm4, ← HWB2.out]; rfl
  have h1 : m4.get 1 = some (g1, ⟨5, 0, t1, 0, 0, 0, 0, 0, false⟩) := by rw [hm4]; exact pair_old HS1.out
  have h2 : m4.get 2 = some (g2, ⟨6, 0, t2, 0, 0, 1, 0, 0, false⟩) := by rw [hm4]; exact pair_old HO2.out
  have h4 : m4.get 4 = some (g4, ⟨6, 0, t4, 0, 0, 3, 0, 0, false⟩) := by
    have := pair_opener (m := m2) (g1 := g3) (g2 := g4) (t1 := t3) (t2 := t4) (s := 0)
    rw [hl2] at this
    rw [hm4]; exact this
  rw [← hm4] at hok4
  have hse := Seal_ok hok4 f4.size 0 hs4 (by rw [hd4]; omega) (by omega) h1 rfl rfl (tNum 7) w3.heap.size (tNum_in (by omega) (by omega) _ _ _) (Nat.le_refl _) (tNum_may 7) (by rw [tNum_refs]; simp) (by rw [tNum_refs]; rfl)
  rw [tNum_val] at hse
  have HSE : Hid (Calls Tryz.prog 19 #[.pointer (some ⟨m.wb, 0, none⟩), .int .i64 1, .agg #[.int .u8 1, .int .i64 7, .string ⟨#[]⟩, .slice none 0 0, .int .i64 0]] w3 fun e w' => e = .returned (.tuple #[.int .i64 5, .int .i64 0]) ∧ ∃ g t, t.v = (tNum 7).v ∧ (m4.add g ⟨7, 0, t, 0, 0, 1, 0, 0, false⟩ 0).Ok W.heap.size w' ∧ Fr No W w') := hide (by
    rw [← hwb4]
    refine hse.mono ?_
    rintro e w' ⟨rfl, g, t', q1, q2, q3, -⟩
    rw [hl4]
    exact ⟨rfl, g, t', q1, q2, f4.trans' q3 fun i hi hb => by have := (hok4.lt i hb).1; omega⟩)
  have HV4 := hide hv4
  have HG2 := hide h2
  have HG4 := hide h4
  have HL4 := hide hl4
  have HWB4 := hide hwb4
  clear hse hv3 hv4 h1 h2 h4 hl4 hwb4 hok4 f4 hm4 hl2 HP2 hd4
  go_wp2_with fail
  refine HSE.out.mono ?_
  rintro e w4 ⟨rfl, g5, t5, hv5, hok5, f5⟩
  obtain ⟨m5, hm5⟩ : ∃ m5, m5 = m4.add g5 ⟨7, 0, t5, 0, 0, 1, 0, 0, false⟩ 0 := ⟨_, rfl⟩
  have h2 : m5.get 2 = some (g2, ⟨6, 0, t2, 0, 0, 1, 0, 0, false⟩) := by rw [hm5]; exact add_get_old HG2.out
  have h4 : m5.get 4 = some (g4, ⟨6, 0, t4, 0, 0, 3, 0, 0, false⟩) := by rw [hm5]; exact add_get_old HG4.out
  have h5 : m5.get 5 = some (g5, ⟨7, 0, t5, 0, 0, 1, 0, 0, false⟩) := by
    have := add_get_new (m := m4) g5 0 ⟨7, 0, t5, 0, 0, 1, 0, 0, false⟩
    rw [HL4.out] at this
    rw [hm5]; exact this
  have hwb5 : m5.wb = m.wb := by rw [hm5, ← HWB4.out]; rfl
  rw [← hm5] at hok5
  have my2 : t2.v.may = true := by rw [HV2.out]; exact zero_may
  have my4 : t4.v.may = true := by rw [HV4.out]; exact zero_may
  have my5 : t5.v.may = true := by rw [hv5]; exact tNum_may 7
  have HO1 : Hid (∀ W', Fr No w4 W' → Calls Tryz.prog 20 #[.pointer (some ⟨m.wb, 0, none⟩), .int .i64 2, .agg #[.int .u8 4, .int .i64 0, .string ⟨#[]⟩, .slice none 0 0, .int .i64 5]] W' fun e w' => (∃ t' : T, e = .returned (.tuple #[t'.val, .int .i64 0]) ∧ t'.v = .mk 1 7 ⟨#[]⟩ [] 0) ∧ Fr No W' w') := hide (fun W' f => by
    rw [← hwb5]
    refine (Open_ok (hok5.no f) h2 rfl my2 h5 rfl my5).mono ?_
    rintro e w' ⟨q1, -, q3⟩
    obtain ⟨t', rfl, hv, -⟩ := q1 rfl
    exact ⟨⟨t', rfl, by rw [hv]; show t5.v = _; rw [hv5, tNum_v]⟩, q3⟩)
  have HO2' : Hid (∀ W', Fr No w4 W' → Calls Tryz.prog 20 #[.pointer (some ⟨m.wb, 0, none⟩), .int .i64 4, .agg #[.int .u8 4, .int .i64 0, .string ⟨#[]⟩, .slice none 0 0, .int .i64 5]] W' fun e w' => e = .returned (.tuple #[.agg #[.int .u8 0, .int .i64 0, .string ⟨#[]⟩, .slice none 0 0, .int .i64 0], .int .i64 91]) ∧ Fr No W' w') := hide (fun W' f => by
    rw [← hwb5]
    refine (Open_ok (hok5.no f) h4 rfl my4 h5 rfl my5).mono ?_
    rintro e w' ⟨-, q2, q3⟩
    exact ⟨q2 (by simp), q3⟩)
  have HSM : Hid (∀ W', Fr No w4 W' → Calls Tryz.prog 23 #[.pointer (some ⟨m.wb, 0, none⟩), .int .i64 2, .int .i64 5] W' fun e w' => e = .returned (.tuple #[.bool true, .int .i64 0]) ∧ Fr No W' w') := hide (fun W' f => by
    rw [← hwb5]
    refine (Same_w (hok5.no f) h2 (.inr (.inl rfl)) my2 (by simp [Th.pairOf]) (by simp [Th.pairOf]) h5 (.inr (.inr rfl)) my5 (by simp [Th.pairOf]) (by simp [Th.pairOf])).mono ?_
    rintro e w' ⟨rfl, q⟩
    exact ⟨by simp [Th.pairOf], q⟩)
  have HF5 := hide f5
  clear h2 h4 h5 hwb5 my2 my4 my5 hok5 hv5 f5 hm5 HSE
  go_wp2_with fail
  refine (HO1.out w4 (Fr.refl No w4)).mono ?_
  rintro e w5 ⟨⟨⟨k, n, s, A, cap, l, r⟩, rfl, hv⟩, fa⟩
  rw [T.v_mk] at hv
  injection hv with e1 e2 e3 e4 e5
  subst e1 e2 e3 e5
  rw [T.val_mk]
  have fb := fa.alloc (.cells #[.int .u8 1, .int .i64 7, .string ⟨#[]⟩, .slice A l.length cap, .int .i64 0] 28)
  have b11 := Blk.new w5 28 #[.int .u8 1, .int .i64 7, .string ⟨#[]⟩, .slice A l.length cap, .int .i64 0]
  have HB := hide b11
  have HFB := hide fb
  clear fa fb b11 e4 HO1
  go_wp2_with fail
  generalize hw6 : World.alloc w5 _ = w6 at *
  generalize hg11 : w5.heap.size = g11 at *
  refine (HO2'.out w6 HFB.out).mono ?_
  rintro e w7 ⟨rfl, fa⟩
  have fb := fa.alloc (.cells #[.int .u8 0, .int .i64 0, .string ⟨#[]⟩, .slice none 0 0, .int .i64 0] 28)
  have b11 := HB.out.fr fb fun h => h
  have HB7 := hide b11
  have HFB7 := hide (HFB.out.trans fb)
  clear fa fb b11 HO2' hw6 hg11
  go_wp2_with fail
  generalize World.alloc w7 _ = w8 at *
  refine (HSM.out w8 HFB7.out).mono ?_
  rintro e w9 ⟨rfl, fa⟩
  have b11 := HB7.out.fr fa fun h => h
  obtain ⟨d0, d1, d2, d3, d4, df⟩ := b11.cells5
  have dq := b11.lt
  have HFE := hide ((HF5.out.trans HFB7.out).trans fa)
  clear b11 fa HSM
  go_wp2_with fail
  go_ret
  exact ⟨rfl, HFE.out⟩

end Go.Proofs.YtlejelbefmkakaaGreat

/- Texts joined: Wo19, Wo20, Wo21, Wo22, Wg18. -/
import Derived.Test.YtnddfiohofnbaaaJn24
import Derived.Deep.OwnRows
/- seal.pair, Mark, Same: of sealers, openers, boxes. -/
namespace Go.Proofs.Ytnddfiohofnbaaa
open Go.RowKit

/-- The sealer of the pair of which a thing is. -/
def Th.pairOf (x : Th) (r : Int) : Int := if x.kind = 5 then r else x.ofr

section
variable {m : Wm} {lo : Nat} {W : World}

set_option maxRecDepth 100000 in
set_option maxHeartbeats 4000000 in
theorem pair_w (h : m.Ok lo W) {r : Int} {x : Nat × Th} (hg : m.get r = some x) (hk : x.2.kind = 5 ∨ x.2.kind = 6 ∨ x.2.kind = 7) (hm : x.2.v.v.may = true) :
    Calls Try.prog 89 #[.pointer (some ⟨m.wb, 0, none⟩), .int .i64 r] W fun e w' => e = .returned (.tuple #[.int .i64 (x.2.pairOf r), .int .i64 0]) ∧ Fr No W w' := by
  have hT := there_w h
  have hW := What_ok h hg hm
  unfold WhatRes at hW
  clear h hg hm
  obtain ⟨gx, ⟨kind, home, v, n, lost, ofr, byr, set, full⟩⟩ := x
  unfold Th.pairOf
  simp only at hk hW ⊢
  rcases hk with rfl | rfl | rfl
  all_goals
    go_enter Try.func89, Try.ntmps89
    go_wp2_with fail
    refine hT.mono ?_
    rintro e w' ⟨rfl, rfl⟩
    clear hT
    go_wp2_with fail
    refine hW.mono ?_
    rintro e w1 ⟨⟨k1, n1, s1, A1, c1, l1, r1⟩, rfl, -, -, f1⟩
    have hval1 : ∀ kind : Int, (Th.val ⟨kind, home, T.mk k1 n1 s1 A1 c1 l1 r1, n, lost, ofr, byr, set, full⟩) = .agg (th16 kind home k1 n1 s1 A1 l1.length c1 r1 n lost ofr byr set full) := fun _ => rfl
    rw [hval1]
    unfold th16
    have HF1 := hide f1
    clear f1 hval1 hW
    go_wp2_with fail
    go_ret2
    exact ⟨rfl, HF1.out.alloc _⟩

theorem ref_mark {a : Int} {v : Value} (h : IsMk (.mk 4 0 ⟨#[]⟩ [] a) v) : v = .iface 179 (.int .i64 a) := by
  rw [IsMk_mk] at h
  simpa [mkOf] using h

set_option maxHeartbeats 2000000 in
theorem Mark_w (h : m.Ok lo W) {r : Int} {x : Nat × Th} (hg : m.get r = some x) (hk : x.2.kind = 5 ∨ x.2.kind = 6 ∨ x.2.kind = 7) (hm : x.2.v.v.may = true) (hp0 : 1 ≤ x.2.pairOf r) (hp1 : x.2.pairOf r ≤ 9223372036854775807) :
    Calls Try.prog 64 #[.pointer (some ⟨m.wb, 0, none⟩), .int .i64 r] W fun e w' => e = .returned (.tuple #[.iface 179 (.int .i64 (x.2.pairOf r)), .int .i64 0]) ∧ Fr No W w' := by
  have hP := pair_w h hg hk hm
  generalize x.2.pairOf r = a at *
  have hO := fun W' => Of_any (tRef a) W' 0 W'.heap.size (tRef_in hp0 hp1 _ _ _) (Nat.le_refl _)
  rw [tRef_val] at hO
  have hma := tRef_may hp0
  have HO : Hid (∀ W', Calls Try.prog 90 #[.agg #[.int .u8 4, .int .i64 0, .string ⟨#[]⟩, .slice none 0 0, .int .i64 a]] W' fun e w' => e = .returned (.tuple #[.iface 179 (.int .i64 a), .int .i64 0]) ∧ Fr No W' w') := hide fun W' => by
    refine (hO W').mono ?_
    rintro e w' ⟨h1, -⟩
    obtain ⟨v, rfl, hv, f⟩ := h1 hma
    rw [tRef_v] at hv
    rw [ref_mark hv]
    exact ⟨rfl, f⟩
  clear hO hma h hg hk hm hp0 hp1
  go_enter Try.func64, Try.ntmps64
  go_wp2_with fail
  refine hP.mono ?_
  rintro e w1 ⟨rfl, f1⟩
  clear hP
  go_wp2_with fail
  refine (HO.out w1).mono ?_
  rintro e w2 ⟨rfl, f2⟩
  go_wp2_with fail
  go_ret2
  exact ⟨rfl, f1.trans f2⟩

/-- Two marks of references. -/
theorem mark_eql (a b : Int) (w : World) : (binOp .eql 109 (.iface 179 (.int .i64 a)) (.iface 179 (.int .i64 b))).run Try.prog w = .ok (.bool (decide (a = b))) w := by
  have i1 : IsMk (.mk 4 0 ⟨#[]⟩ [] a) (.iface 179 (.int .i64 a)) := by rw [IsMk_mk]; simp [mkOf]
  have i2 : IsMk (.mk 4 0 ⟨#[]⟩ [] b) (.iface 179 (.int .i64 b)) := by rw [IsMk_mk]; simp [mkOf]
  have h := run_eq (.mk 4 0 ⟨#[]⟩ [] a) (.mk 4 0 ⟨#[]⟩ [] b) 10000 _ _ w (by simp [V.dep_mk]) i1 i2
  have e : (binOp .eql 109 (.iface 179 (.int .i64 a)) (.iface 179 (.int .i64 b))).run Try.prog w = ((Op.equalIn 10000 109 (.iface 179 (.int .i64 a)) (.iface 179 (.int .i64 b))).run Try.prog w).andThen fun b w' => .ok (.bool b) w' := by
    simp [binOp, Op.equal]
    rfl
  rw [e]
  have hc : V.cmp (.mk 4 0 ⟨#[]⟩ [] a) (.mk 4 0 ⟨#[]⟩ [] b) = if a = b then 1 else 0 := by simp [V.cmp_mk, cmpOf, shp, leafEq]
  rw [hc] at h
  by_cases hab : a = b
  · rw [if_pos hab] at h
    rcases h with ⟨h, -⟩ | ⟨-, h⟩ | ⟨h, -⟩
    · cases h
    · rw [h]; simp [Result.andThen, hab]
    · cases h
  · rw [if_neg hab] at h
    rcases h with ⟨-, h⟩ | ⟨h, -⟩ | ⟨h, -⟩
    · rw [h]; simp [Result.andThen, hab]
    · cases h
    · cases h

set_option maxHeartbeats 2000000 in
theorem Same_w (h : m.Ok lo W) {r q : Int} {x y : Nat × Th} (hg : m.get r = some x) (hk : x.2.kind = 5 ∨ x.2.kind = 6 ∨ x.2.kind = 7) (hm : x.2.v.v.may = true) (hp0 : 1 ≤ x.2.pairOf r) (hp1 : x.2.pairOf r ≤ 9223372036854775807)
    (hgq : m.get q = some y) (hkq : y.2.kind = 5 ∨ y.2.kind = 6 ∨ y.2.kind = 7) (hmq : y.2.v.v.may = true) (hq0 : 1 ≤ y.2.pairOf q) (hq1 : y.2.pairOf q ≤ 9223372036854775807) :
    Calls Try.prog 35 #[.pointer (some ⟨m.wb, 0, none⟩), .int .i64 r, .int .i64 q] W fun e w' => e = .returned (.tuple #[.bool (decide (x.2.pairOf r = y.2.pairOf q)), .int .i64 0]) ∧ Fr No W w' := by
  have hT := there_w h
  have hIr := Is_w h r
  have hIq := Is_w h q
  have e1 : (m.get r).isSome = true := by rw [hg]; rfl
  have e2 : (m.get q).isSome = true := by rw [hgq]; rfl
  rw [e1] at hIr
  rw [e2] at hIq
  have hMr := Mark_w h hg hk hm hp0 hp1
  have HMq := hide fun W' (f : Fr No W W') => Mark_w (h.no f) hgq hkq hmq hq0 hq1
  have hme := mark_eql
  generalize x.2.pairOf r = a at *
  generalize y.2.pairOf q = b at *
  clear h hg hk hm hp0 hp1 hgq hkq hmq hq0 hq1 e1 e2
  go_enter Try.func35, Try.ntmps35
  go_wp2_with fail
  refine hT.mono ?_
  rintro e w' ⟨rfl, rfl⟩
  go_wp2_with fail
  refine hIr.mono ?_
  rintro e w' ⟨rfl, rfl⟩
  go_wp2_with fail
  refine hIq.mono ?_
  rintro e w' ⟨rfl, rfl⟩
  clear hT hIr hIq
  go_wp2_with fail
  refine hMr.mono ?_
  rintro e w1 ⟨rfl, f1⟩
  clear hMr
  go_wp2_with fail
  refine (HMq.out w1 f1).mono ?_
  rintro e w2 ⟨rfl, f2⟩
  go_wp2_with fail
  go_ret2
  exact ⟨rfl, f1.trans f2⟩
end

end Go.Proofs.Ytnddfiohofnbaaa

/- world.New, of one side. -/
namespace Go.Proofs.Ytnddfiohofnbaaa
open Go.RowKit

set_option maxRecDepth 100000 in
theorem cloneS_w (W : World) : Calls Try.prog 36 #[.slice none 0 0] W fun e w' => e = .returned (.slice none 0 0) ∧ w' = W := by
  have hq : ∀ w : World, (binOp .eql 54 (.slice none 0 0) (.slice none 0 0)).run Try.prog w = .ok (.bool true) w := fun w => by kernel_rfl
  go_enter Try.func36, Try.ntmps36
  go_wp2
  go_ret
  exact ⟨rfl, rfl⟩

theorem mk1_bool : ∀ w : World, (Instr.makeSlice 72 (.int .i64 1) (.int .i64 1)).run Try.prog w = .ok (.slice (some ⟨w.heap.size, 0, none⟩) 1 1) (w.alloc (.cells #[.bool false] 4)) := fun w => by
  have h := run_make_row' (P := Try.prog) 72 4 (.bool false) 1 Try.underlying72 (by kernel_rfl) rfl .i64 .i64 1 (by decide) (by decide) w
  have e : madeCells #[Value.bool false] 1 = #[Value.bool false] := by kernel_rfl
  rw [e] at h
  exact h

theorem mk1_int : ∀ w : World, (Instr.makeSlice 43 (.int .i64 1) (.int .i64 1)).run Try.prog w = .ok (.slice (some ⟨w.heap.size, 0, none⟩) 1 1) (w.alloc (.cells #[.int .i64 0] 3)) := fun w => by
  have h := run_make_row' (P := Try.prog) 43 3 (.int .i64 0) 8 Try.underlying43 (by kernel_rfl) rfl .i64 .i64 1 (by decide) (by decide) w
  have e : madeCells #[Value.int .i64 0] 1 = #[Value.int .i64 0] := by kernel_rfl
  rw [e] at h
  exact h

end Go.Proofs.Ytnddfiohofnbaaa

/- world.New's region: what holds, whichever operations have come up. -/
namespace Go.Proofs.Ytnddfiohofnbaaa
open Go.RowKit

def nE (g : Nat → Nat) : Nat → Value
  | 0 => .slice none 0 0
  | 1 => .slice none 0 0
  | 2 => .int .i64 1
  | 3 => .slice (some ⟨g 3, 0, none⟩) 1 1
  | 4 => .int .i64 1
  | 5 => .slice (some ⟨g 5, 0, none⟩) 1 1
  | 6 => .map (some (g 6))
  | 7 => .map (some (g 7))
  | 8 => .agg #[.slice none 0 0, .slice (some ⟨g 3, 0, none⟩) 1 1, .map (some (g 6)), .map (some (g 7)), .int .i64 0, .slice (some ⟨g 5, 0, none⟩) 1 1]
  | 9 => .pointer (some ⟨g 9, 0, none⟩)
  | 10 => .pointer (some ⟨g 9, 0, none⟩)
  | 11 => .int .i64 0
  | _ => undef

/-- What an operation has made. -/
def nB (g : Nat → Nat) (w : World) : Nat → Prop
  | 3 => w.heap[g 3]? = some (.cells #[.bool false] 4 (0, 0))
  | 5 => w.heap[g 5]? = some (.cells #[.int .i64 0] 3 (0, 0))
  | 6 => w.heap[g 6]? = some (.map #[] 0)
  | 7 => w.heap[g 7]? = some (.map #[] 0)
  | 9 => w.heap[g 9]? = some (.cells #[.slice none 0 0, .slice (some ⟨g 3, 0, none⟩) 1 1, .map (some (g 6)), .map (some (g 7)), .int .i64 0, .slice (some ⟨g 5, 0, none⟩) 1 1] 76 (0, 0))
  | _ => True

structure NJ (W0 : World) (f : Nat → Bool) (x : List Value) (g : Nat → Nat) (w : World) : Prop where
  fr : Fr No W0 w
  x : ∀ j, f j = true → x.getD j undef = nE g j
  b : ∀ j, f j = true → nB g w j
  lo : ∀ j, f j = true → (j = 3 ∨ j = 5 ∨ j = 6 ∨ j = 7 ∨ j = 9) → W0.heap.size ≤ g j ∧ g j < w.heap.size
  ne : f 6 = true → f 7 = true → g 6 ≠ g 7
  c8 : f 8 = true → f 3 = true ∧ f 5 = true ∧ f 6 = true ∧ f 7 = true
  c9 : f 9 = true → f 8 = true
  c10 : f 10 = true → f 9 = true

theorem upd_ne {f : Nat → Bool} {i j : Nat} (h : j ≠ i) : upd f i j = f j := by
  simp [upd, h]
theorem upd_eq {f : Nat → Bool} {i : Nat} : upd f i i = true := by simp [upd]

theorem NJ.begin (W0 : World) (x : List Value) : NJ W0 (fun _ => false) x (fun _ => 0) W0.drew :=
  ⟨(Fr.refl No W0).drew, nofun, nofun, nofun, nofun, nofun, nofun, nofun⟩

/-- An operation that makes nothing. -/
theorem NJ.quiet {W0 w : World} {f : Nat → Bool} {x : List Value} {g : Nat → Nat} (h : NJ W0 f x g w) {i : Nat} (hi : i ≠ 3 ∧ i ≠ 5 ∧ i ≠ 6 ∧ i ≠ 7 ∧ i ≠ 9) (hx : i < x.length) (h8 : i = 8 → f 3 = true ∧ f 5 = true ∧ f 6 = true ∧ f 7 = true) (h10 : i = 10 → f 9 = true) : NJ W0 (upd f i) (x.set i (nE g i)) g w := by
  have hu : ∀ j, upd f i j = true → j = i ∨ f j = true := fun j hj => by
    by_cases hji : j = i
    · exact .inl hji
    · exact .inr (by rwa [upd_ne hji] at hj)
  have hk : ∀ j, f j = true → upd f i j = true := fun j hj => by
    by_cases hji : j = i
    · rw [hji]; exact upd_eq
    · rwa [upd_ne hji]
  refine ⟨h.fr, fun j hj => ?_, fun j hj => ?_, fun j hj hjj => ?_, fun h6 h7 => ?_, fun h8' => ?_, fun h9' => ?_, fun h10' => ?_⟩
  · rcases hu j hj with rfl | hj
    · simp [List.getD_eq_getElem?_getD, hx]
    · by_cases hji : j = i
      · subst hji; simp [List.getD_eq_getElem?_getD, hx]
      · rw [← h.x j hj, List.getD_eq_getElem?_getD, List.getD_eq_getElem?_getD, List.getElem?_set_ne (fun e => hji e.symm)]
  · rcases hu j hj with rfl | hj
    · unfold nB
      split <;> first | trivial | omega
    · exact h.b j hj
  · rcases hu j hj with rfl | hj
    · omega
    · exact h.lo j hj hjj
  · rw [upd_ne (by omega)] at h6 h7
    exact h.ne h6 h7
  · rcases hu 8 h8' with hh | hh
    · obtain ⟨a, b, c, d⟩ := h8 hh.symm
      exact ⟨hk _ a, hk _ b, hk _ c, hk _ d⟩
    · obtain ⟨a, b, c, d⟩ := h.c8 hh
      exact ⟨hk _ a, hk _ b, hk _ c, hk _ d⟩
  · rw [upd_ne (by omega)] at h9'
    exact hk _ (h.c9 h9')
  · rcases hu 10 h10' with hh | hh
    · exact hk _ (h10 hh.symm)
    · exact hk _ (h.c10 hh)

/-- Another block for one operation. -/
def gset (g : Nat → Nat) (i b : Nat) : Nat → Nat := fun j => if j = i then b else g j
theorem gset_eq {g : Nat → Nat} {i b : Nat} : gset g i b i = b := by simp [gset]
theorem gset_ne {g : Nat → Nat} {i b j : Nat} (h : j ≠ i) : gset g i b j = g j := by simp [gset, h]

theorem nB_alloc {g : Nat → Nat} {w : World} {o : Obj} (j : Nat) (h : nB g w j) (hlt : (j = 3 ∨ j = 5 ∨ j = 6 ∨ j = 7 ∨ j = 9) → g j < w.heap.size) : nB g (w.alloc o) j := by
  unfold nB at h ⊢
  split
  · exact (Below.heap_alloc _ _ _ (hlt (by simp))).trans h
  · exact (Below.heap_alloc _ _ _ (hlt (by simp))).trans h
  · exact (Below.heap_alloc _ _ _ (hlt (by simp))).trans h
  · exact (Below.heap_alloc _ _ _ (hlt (by simp))).trans h
  · exact (Below.heap_alloc _ _ _ (hlt (by simp))).trans h
  · trivial

/-- An operation that makes a block. -/
theorem NJ.make {W0 w : World} {f : Nat → Bool} {x : List Value} {g : Nat → Nat} (h : NJ W0 f x g w) {i : Nat} {o : Obj} (hi : i = 3 ∨ i = 5 ∨ i = 6 ∨ i = 7) (hf : f i = false) (hx : i < x.length) (ho : nB (gset g i w.heap.size) (w.alloc o) i) : NJ W0 (upd f i) (x.set i (nE (gset g i w.heap.size) i)) (gset g i w.heap.size) (w.alloc o) := by
  have h8 : f 8 = false := by
    cases h8 : f 8 with
    | false => rfl
    | true =>
      obtain ⟨a, b, c, d⟩ := h.c8 h8
      rcases hi with rfl | rfl | rfl | rfl <;> simp_all
  have h9 : f 9 = false := by
    cases h9 : f 9 with
    | false => rfl
    | true => rw [h.c9 h9] at h8; cases h8
  have h10 : f 10 = false := by
    cases h10 : f 10 with
    | false => rfl
    | true => rw [h.c10 h10] at h9; cases h9
  have hs := h.fr.size
  have hu : ∀ j, upd f i j = true → j = i ∨ (j ≠ i ∧ f j = true) := fun j hj => by
    by_cases hji : j = i
    · exact .inl hji
    · exact .inr ⟨hji, by rwa [upd_ne hji] at hj⟩
  have hE : ∀ j, j ≠ i → f j = true → nE (gset g i w.heap.size) j = nE g j := fun j hji hj => by
    have j8 : j ≠ 8 := fun e => by subst e; rw [h8] at hj; cases hj
    have j9 : j ≠ 9 := fun e => by subst e; rw [h9] at hj; cases hj
    have j10 : j ≠ 10 := fun e => by subst e; rw [h10] at hj; cases hj
    unfold nE
    split <;> first | rfl | omega | (rw [gset_ne hji])
  have hBk : ∀ j, j ≠ i → f j = true → nB (gset g i w.heap.size) w j := fun j hji hj => by
    have hb := h.b j hj
    have j9 : j ≠ 9 := fun e => by subst e; rw [h9] at hj; cases hj
    unfold nB at hb ⊢
    split <;> first | trivial | omega | (rw [gset_ne hji]; exact hb)
  refine ⟨h.fr.alloc _, fun j hj => ?_, fun j hj => ?_, fun j hj hjj => ?_, fun h6 h7 => ?_, fun h8' => ?_, fun h9' => ?_, fun h10' => ?_⟩
  · rcases hu j hj with rfl | ⟨hji, hj⟩
    · simp [List.getD_eq_getElem?_getD, hx]
    · rw [hE j hji hj, ← h.x j hj, List.getD_eq_getElem?_getD, List.getD_eq_getElem?_getD, List.getElem?_set_ne (fun e => hji e.symm)]
  · rcases hu j hj with rfl | ⟨hji, hj⟩
    · exact ho
    · exact nB_alloc j (hBk j hji hj) fun hjj => by rw [gset_ne hji]; exact (h.lo j hj hjj).2
  · rcases hu j hj with rfl | ⟨hji, hj⟩
    · rw [gset_eq]; simp; omega
    · rw [gset_ne hji]
      have := h.lo j hj hjj
      simp; omega
  · rcases hu 6 h6 with e6 | ⟨n6, f6⟩ <;> rcases hu 7 h7 with e7 | ⟨n7, f7⟩
    · omega
    · subst e6
      rw [gset_eq, gset_ne n7]
      have := h.lo 7 f7 (by simp)
      omega
    · subst e7
      rw [gset_eq, gset_ne n6]
      have := h.lo 6 f6 (by simp)
      omega
    · rw [gset_ne n6, gset_ne n7]
      exact h.ne f6 f7
  · rcases hu 8 h8' with e | ⟨-, e⟩
    · omega
    · rw [h8] at e; cases e
  · rcases hu 9 h9' with e | ⟨-, e⟩
    · omega
    · rw [h9] at e; cases e
  · rcases hu 10 h10' with e | ⟨-, e⟩
    · omega
    · rw [h10] at e; cases e

/-- The box. -/
theorem NJ.box {W0 w : World} {f : Nat → Bool} {x : List Value} {g : Nat → Nat} (h : NJ W0 f x g w) {o : Obj} (h8 : f 8 = true) (hf : f 9 = false) (hx : 9 < x.length) (ho : nB (gset g 9 w.heap.size) (w.alloc o) 9) : NJ W0 (upd f 9) (x.set 9 (nE (gset g 9 w.heap.size) 9)) (gset g 9 w.heap.size) (w.alloc o) := by
  have h10 : f 10 = false := by
    cases h10 : f 10 with
    | false => rfl
    | true => rw [h.c10 h10] at hf; cases hf
  have hs := h.fr.size
  have hu : ∀ j, upd f 9 j = true → j = 9 ∨ (j ≠ 9 ∧ f j = true) := fun j hj => by
    by_cases hji : j = 9
    · exact .inl hji
    · exact .inr ⟨hji, by rwa [upd_ne hji] at hj⟩
  have hk : ∀ j, f j = true → upd f 9 j = true := fun j hj => by
    by_cases hji : j = 9
    · rw [hji]; exact upd_eq
    · rwa [upd_ne hji]
  have hE : ∀ j, j ≠ 9 → f j = true → nE (gset g 9 w.heap.size) j = nE g j := fun j hji hj => by
    have j10 : j ≠ 10 := fun e => by subst e; rw [h10] at hj; cases hj
    unfold nE
    split <;> first | rfl | omega | (simp [gset])
  have hBk : ∀ j, j ≠ 9 → f j = true → nB (gset g 9 w.heap.size) w j := fun j hji hj => by
    have hb := h.b j hj
    unfold nB at hb ⊢
    split <;> first | trivial | omega | (rw [gset_ne hji]; exact hb)
  refine ⟨h.fr.alloc _, fun j hj => ?_, fun j hj => ?_, fun j hj hjj => ?_, fun h6 h7 => ?_, fun h8' => ?_, fun h9' => ?_, fun h10' => ?_⟩
  · rcases hu j hj with rfl | ⟨hji, hj⟩
    · simp [List.getD_eq_getElem?_getD, hx]
    · rw [hE j hji hj, ← h.x j hj, List.getD_eq_getElem?_getD, List.getD_eq_getElem?_getD, List.getElem?_set_ne (fun e => hji e.symm)]
  · rcases hu j hj with rfl | ⟨hji, hj⟩
    · exact ho
    · exact nB_alloc j (hBk j hji hj) fun hjj => by rw [gset_ne hji]; exact (h.lo j hj hjj).2
  · rcases hu j hj with rfl | ⟨hji, hj⟩
    · rw [gset_eq]; simp; omega
    · rw [gset_ne hji]
      have := h.lo j hj hjj
      simp; omega
  · rw [upd_ne (by omega)] at h6 h7
    rw [gset_ne (by omega), gset_ne (by omega)]
    exact h.ne h6 h7
  · obtain ⟨a, b, c, d⟩ := h.c8 h8
    exact ⟨hk _ a, hk _ b, hk _ c, hk _ d⟩
  · exact hk _ h8
  · exact upd_eq

end Go.Proofs.Ytnddfiohofnbaaa

/- world.New, of one side. -/
namespace Go.Proofs.Ytnddfiohofnbaaa
open Go.RowKit

set_option maxRecDepth 100000 in
set_option maxHeartbeats 4000000 in
theorem New_one (W : World) : Calls Try.prog 10 #[.slice none 0 0] W fun e w' => ∃ m : Wm, e = .returned (.tuple #[.pointer (some ⟨m.wb, 0, none⟩), .int .i64 0]) ∧ m.Ok W.heap.size w' ∧ m.th = [] ∧ m.made = [0] ∧ Fr No W w' := by
  have hmm := @run_makeMap Try.prog
  have hC := cloneS_w
  have hb1 := mk1_bool
  have hb2 := mk1_int
  go_enter Try.func10, Try.ntmps10
  go_wp2_with fail
  refine wp_loop_rounds 1 ?_
  rw [rounds_succ]
  go_wp2_with fail
  refine wp_region_inv (I := fun a0 f a wx => ∃ y0 y1 y2 y3 y4 y5 y6 y7 y8 y9 y10 y11 g, a = ((((((((((((a0.put (some 28) y0).put (some 29) y1).put (some 30) y2).put (some 31) y3).put (some 32) y4).put (some 33) y5).put (some 34) y6).put (some 35) y7).put (some 36) y8).put (some 37) y9).put (some 2) y10).put (some 3) y11) ∧ NJ W f [y0, y1, y2, y3, y4, y5, y6, y7, y8, y9, y10, y11] g wx) (by kernel_rfl) (by kernel_rfl) ?st ?step ?en
  case st => exact ⟨_, _, _, _, _, _, _, _, _, _, _, _, _, by simp only [Act.put, List.setIfInBounds_toArray, List.set_cons_zero, List.set_cons_succ] <;> rfl, NJ.begin W _⟩
  case step =>
    rintro i o f a wx ho hf hd ⟨y0, y1, y2, y3, y4, y5, y6, y7, y8, y9, y10, y11, g, rfl, J⟩ K' hK
    have hi := (Array.getElem?_eq_some_iff.1 ho).1
    simp only [List.size_toArray, List.length_cons, List.length_nil] at hi
    have hid : i = 0 ∨ i = 1 ∨ i = 2 ∨ i = 3 ∨ i = 4 ∨ i = 5 ∨ i = 6 ∨ i = 7 ∨ i = 8 ∨ i = 9 ∨ i = 10 ∨ i = 11 := by omega
    simp only [Act.put, List.setIfInBounds_toArray, List.set_cons_zero, List.set_cons_succ]
    rcases hid with rfl | rfl | rfl | rfl | rfl | rfl | rfl | rfl | rfl | rfl | rfl | rfl
    · simp only [List.getElem?_toArray, List.getElem?_cons_zero, Option.some.injEq] at ho; subst ho
      have HJ := hide J
      have HFI := hide hf
      clear J hd hf
      go_simp
      exact hK.out _ _ ⟨_, _, _, _, _, _, _, _, _, _, _, _, _, by simp only [Act.put, List.setIfInBounds_toArray, List.set_cons_zero, List.set_cons_succ] <;> rfl, HJ.out.quiet (i := 0) (by decide) (by simp) (nofun) (nofun)⟩
    · simp only [List.getElem?_toArray, List.getElem?_cons_succ, List.getElem?_cons_zero, Option.some.injEq] at ho; subst ho
      have b0 := hd ⟨0, .data⟩ (by simp) (by rfl)
      obtain rfl : y0 = .slice none 0 0 := J.x 0 b0
      have HJ := hide J
      have B0 := hide b0
      have HFI := hide hf
      clear J hd hf b0
      go_simp
      refine (hC _).mono ?_
      rintro e w' ⟨rfl, rfl⟩
      try go_simp
      exact hK.out _ _ ⟨_, _, _, _, _, _, _, _, _, _, _, _, _, by simp only [Act.put, List.setIfInBounds_toArray, List.set_cons_zero, List.set_cons_succ] <;> rfl, HJ.out.quiet (i := 1) (by decide) (by simp) (nofun) (nofun)⟩
    · simp only [List.getElem?_toArray, List.getElem?_cons_succ, List.getElem?_cons_zero, Option.some.injEq] at ho; subst ho
      have HJ := hide J
      have HFI := hide hf
      clear J hd hf
      go_simp
      exact hK.out _ _ ⟨_, _, _, _, _, _, _, _, _, _, _, _, _, by simp only [Act.put, List.setIfInBounds_toArray, List.set_cons_zero, List.set_cons_succ] <;> rfl, HJ.out.quiet (i := 2) (by decide) (by simp) (nofun) (nofun)⟩
    · simp only [List.getElem?_toArray, List.getElem?_cons_succ, List.getElem?_cons_zero, Option.some.injEq] at ho; subst ho
      have b2 := hd ⟨2, .data⟩ (by simp) (by rfl)
      obtain rfl : y2 = .int .i64 1 := J.x 2 b2
      have HJ := hide J
      have B2 := hide b2
      have HFI := hide hf
      clear J hd hf b2
      go_simp
      exact hK.out _ _ ⟨_, _, _, _, _, _, _, _, _, _, _, _, _, by simp only [Act.put, List.setIfInBounds_toArray, List.set_cons_zero, List.set_cons_succ] <;> rfl, HJ.out.make (i := 3) (by simp) HFI.out (by simp) (by show (World.alloc _ _).heap[gset g 3 wx.heap.size 3]? = _; rw [gset_eq]; exact World.alloc_heap_new _ _)⟩
    · simp only [List.getElem?_toArray, List.getElem?_cons_succ, List.getElem?_cons_zero, Option.some.injEq] at ho; subst ho
      have HJ := hide J
      have HFI := hide hf
      clear J hd hf
      go_simp
      exact hK.out _ _ ⟨_, _, _, _, _, _, _, _, _, _, _, _, _, by simp only [Act.put, List.setIfInBounds_toArray, List.set_cons_zero, List.set_cons_succ] <;> rfl, HJ.out.quiet (i := 4) (by decide) (by simp) (nofun) (nofun)⟩
    · simp only [List.getElem?_toArray, List.getElem?_cons_succ, List.getElem?_cons_zero, Option.some.injEq] at ho; subst ho
      have b4 := hd ⟨4, .data⟩ (by simp) (by rfl)
      obtain rfl : y4 = .int .i64 1 := J.x 4 b4
      have HJ := hide J
      have B4 := hide b4
      have HFI := hide hf
      clear J hd hf b4
      go_simp
      exact hK.out _ _ ⟨_, _, _, _, _, _, _, _, _, _, _, _, _, by simp only [Act.put, List.setIfInBounds_toArray, List.set_cons_zero, List.set_cons_succ] <;> rfl, HJ.out.make (i := 5) (by simp) HFI.out (by simp) (by show (World.alloc _ _).heap[gset g 5 wx.heap.size 5]? = _; rw [gset_eq]; exact World.alloc_heap_new _ _)⟩
    · simp only [List.getElem?_toArray, List.getElem?_cons_succ, List.getElem?_cons_zero, Option.some.injEq] at ho; subst ho
      have HJ := hide J
      have HFI := hide hf
      clear J hd hf
      go_simp
      exact hK.out _ _ ⟨_, _, _, _, _, _, _, _, _, _, _, _, _, by simp only [Act.put, List.setIfInBounds_toArray, List.set_cons_zero, List.set_cons_succ] <;> rfl, HJ.out.make (i := 6) (by simp) HFI.out (by simp) (by show (World.alloc _ _).heap[gset g 6 wx.heap.size 6]? = _; rw [gset_eq]; exact World.alloc_heap_new _ _)⟩
    · simp only [List.getElem?_toArray, List.getElem?_cons_succ, List.getElem?_cons_zero, Option.some.injEq] at ho; subst ho
      have HJ := hide J
      have HFI := hide hf
      clear J hd hf
      go_simp
      exact hK.out _ _ ⟨_, _, _, _, _, _, _, _, _, _, _, _, _, by simp only [Act.put, List.setIfInBounds_toArray, List.set_cons_zero, List.set_cons_succ] <;> rfl, HJ.out.make (i := 7) (by simp) HFI.out (by simp) (by show (World.alloc _ _).heap[gset g 7 wx.heap.size 7]? = _; rw [gset_eq]; exact World.alloc_heap_new _ _)⟩
    · simp only [List.getElem?_toArray, List.getElem?_cons_succ, List.getElem?_cons_zero, Option.some.injEq] at ho; subst ho
      have b1 := hd ⟨1, .data⟩ (by simp) (by rfl)
      obtain rfl : y1 = .slice none 0 0 := J.x 1 b1
      have b3 := hd ⟨3, .data⟩ (by simp) (by rfl)
      obtain rfl : y3 = .slice (some ⟨g 3, 0, none⟩) 1 1 := J.x 3 b3
      have b5 := hd ⟨5, .data⟩ (by simp) (by rfl)
      obtain rfl : y5 = .slice (some ⟨g 5, 0, none⟩) 1 1 := J.x 5 b5
      have b6 := hd ⟨6, .data⟩ (by simp) (by rfl)
      obtain rfl : y6 = .map (some (g 6)) := J.x 6 b6
      have b7 := hd ⟨7, .data⟩ (by simp) (by rfl)
      obtain rfl : y7 = .map (some (g 7)) := J.x 7 b7
      have HJ := hide J
      have B1 := hide b1
      have B3 := hide b3
      have B5 := hide b5
      have B6 := hide b6
      have B7 := hide b7
      have HFI := hide hf
      clear J hd hf b1 b3 b5 b6 b7
      go_simp
      exact hK.out _ _ ⟨_, _, _, _, _, _, _, _, _, _, _, _, _, by simp only [Act.put, List.setIfInBounds_toArray, List.set_cons_zero, List.set_cons_succ] <;> rfl, HJ.out.quiet (i := 8) (by decide) (by simp) (fun _ => ⟨B3.out, B5.out, B6.out, B7.out⟩) (nofun)⟩
    · simp only [List.getElem?_toArray, List.getElem?_cons_succ, List.getElem?_cons_zero, Option.some.injEq] at ho; subst ho
      have b8 := hd ⟨8, .data⟩ (by simp) (by rfl)
      obtain rfl : y8 = .agg #[.slice none 0 0, .slice (some ⟨g 3, 0, none⟩) 1 1, .map (some (g 6)), .map (some (g 7)), .int .i64 0, .slice (some ⟨g 5, 0, none⟩) 1 1] := J.x 8 b8
      have HJ := hide J
      have B8 := hide b8
      have HFI := hide hf
      clear J hd hf b8
      go_simp
      exact hK.out _ _ ⟨_, _, _, _, _, _, _, _, _, _, _, _, _, by simp only [Act.put, List.setIfInBounds_toArray, List.set_cons_zero, List.set_cons_succ] <;> rfl, HJ.out.box B8.out HFI.out (by simp) (by show (World.alloc _ _).heap[gset g 9 wx.heap.size 9]? = _; rw [gset_eq]; exact World.alloc_heap_new _ _)⟩
    · simp only [List.getElem?_toArray, List.getElem?_cons_succ, List.getElem?_cons_zero, Option.some.injEq] at ho; subst ho
      have b9 := hd ⟨9, .data⟩ (by simp) (by rfl)
      obtain rfl : y9 = .pointer (some ⟨g 9, 0, none⟩) := J.x 9 b9
      have HJ := hide J
      have B9 := hide b9
      have HFI := hide hf
      clear J hd hf b9
      go_simp
      exact hK.out _ _ ⟨_, _, _, _, _, _, _, _, _, _, _, _, _, by simp only [Act.put, List.setIfInBounds_toArray, List.set_cons_zero, List.set_cons_succ] <;> rfl, HJ.out.quiet (i := 10) (by decide) (by simp) (nofun) (fun _ => B9.out)⟩
    · simp only [List.getElem?_toArray, List.getElem?_cons_succ, List.getElem?_cons_zero, Option.some.injEq] at ho; subst ho
      have HJ := hide J
      have HFI := hide hf
      clear J hd hf
      go_simp
      exact hK.out _ _ ⟨_, _, _, _, _, _, _, _, _, _, _, _, _, by simp only [Act.put, List.setIfInBounds_toArray, List.set_cons_zero, List.set_cons_succ] <;> rfl, HJ.out.quiet (i := 11) (by decide) (by simp) (nofun) (nofun)⟩
  case en =>
    rintro f a wx hall ⟨y0, y1, y2, y3, y4, y5, y6, y7, y8, y9, y10, y11, g, rfl, J⟩
    simp only [Act.put, List.setIfInBounds_toArray, List.set_cons_zero, List.set_cons_succ]
    have ha : ∀ j, j < 12 → f j = true := fun j hj => hall j (by simpa using hj)
    obtain rfl : y10 = .pointer (some ⟨g 9, 0, none⟩) := J.x 10 (ha 10 (by omega))
    obtain rfl : y11 = .int .i64 0 := J.x 11 (ha 11 (by omega))
    have n3 : wx.heap[g 9]? = _ := J.b 9 (ha 9 (by omega))
    have n5 : wx.heap[g 5]? = _ := J.b 5 (ha 5 (by omega))
    have n6 : wx.heap[g 6]? = _ := J.b 6 (ha 6 (by omega))
    have n7 : wx.heap[g 7]? = _ := J.b 7 (ha 7 (by omega))
    have hne := J.ne (ha 6 (by omega)) (ha 7 (by omega))
    have l9 := J.lo 9 (ha 9 (by omega)) (by simp)
    have l5 := J.lo 5 (ha 5 (by omega)) (by simp)
    have l6 := J.lo 6 (ha 6 (by omega)) (by simp)
    have l7 := J.lo 7 (ha 7 (by omega)) (by simp)
    have hfr := J.fr
    have hok : (⟨g 9, g 6, g 7, none, 0, 0, some ⟨g 3, 0, none⟩, 1, 1, some ⟨g 5, 0, none⟩, 1, [0], [], []⟩ : Wm).Ok W.heap.size wx :=
      ⟨n3, ⟨#[], 0, n6, ⟨rfl, by simp⟩, by simp, by simp⟩, ⟨#[], 0, n7, rfl, by simp⟩, ⟨rfl, .inr ⟨g 5, 1, #[.int .i64 0], rfl, l5.1, n5, by simp, by simp [maxLen], rfl, rfl⟩⟩, by simp, by simp, ⟨l9.1, l6.1, l7.1, by simp⟩, hne, by simp, by simp, by simp, by simp⟩
    have HOK := hide hok
    have HFR := hide hfr
    clear J hall ha n3 n5 n6 n7 hne l9 l5 l6 l7 hok hfr
    go_wp2_with fail
    go_ret2
    exact ⟨_, rfl, HOK.out, rfl, rfl, HFR.out⟩

end Go.Proofs.Ytnddfiohofnbaaa

/- Chapter 12: the calls whose answers the document fixes. -/
namespace Go.Proofs.Ytnddfiohofnbaaa
open Go.RowKit

theorem get_lit {m : Wm} {l : List (Nat × Th)} (h : m.th = l) (i : Nat) {x : Nat × Th} (hi : l[i]? = some x) : m.get ((i : Int) + 1) = some x := by
  subst h
  have := (List.getElem?_eq_some_iff.1 hi).1
  unfold Wm.get Wm.at_
  rw [if_pos (by omega)]
  simpa using hi

theorem kind_lit {m : Wm} {r : Int} {x : Nat × Th} (h : m.get r = some x) : m.kind r = x.2.kind := by
  unfold Wm.kind
  rw [h]
  rfl

/-- A world of one side. -/
structure G1 (W : World) (m : Wm) (th : List (Nat × Th)) (k : Nat) (w : World) : Prop where
  th : m.th = th
  made : m.made = [k]
  ok : m.Ok W.heap.size w
  fr : Fr No W w

theorem G1.mono {W w w' : World} {m m' : Wm} {th : List (Nat × Th)} {k : Nat} (h : G1 W m th k w) (f : Fr m.B w w') : Fr No W w' := h.fr.trans' f fun i hi hb => by have := (h.ok.lt i hb).1; omega

theorem G1.cell {W w : World} {m : Wm} (h : G1 W m [] 0 w) :
    Calls Try.prog 39 #[.pointer (some ⟨m.wb, 0, none⟩), .agg #[.int .u8 1, .int .i64 0, .int .u8 0, .int .i64 0, .string ⟨#[]⟩, .slice none 0 0, .int .i64 0, .slice none 0 0, .int .i64 0, .int .i64 0, .int .i64 0, .int .i64 0, .int .u8 0, .bool false, .slice none 0 0, .slice none 0 0]] w fun e w' =>
      e = .returned (.tuple #[.int .i64 1, .int .i64 0]) ∧ ∃ m' g, m'.wb = m.wb ∧ G1 W m' [(g, ⟨1, 0, T.zero, 0, 0, 0, 0, 0, false⟩)] 1 w' := by
  have hs : 0 < m.made.length := by rw [h.made]; simp
  have h0 : m.made[0] = 0 := by simp [h.made]
  have hl : m.th.length = 0 := by rw [h.th]; rfl
  have hm := make1 h.ok h.fr.size 0 hs (by omega) (by omega)
  refine hm.mono ?_
  rintro e w' ⟨rfl, g, t', hv, -, -, hok, f⟩
  have hth : (m.add g ⟨1, (0 : Nat), t', 0, 0, 0, 0, 0, false⟩ 0).th = [(g, ⟨1, (0 : Nat), t', 0, 0, 0, 0, 0, false⟩)] := by simp [Wm.add, h.th]
  obtain rfl := zero_of (hok.vals (g, ⟨1, (0 : Nat), t', 0, 0, 0, 0, 0, false⟩) (by rw [hth]; simp)) (hv.trans T.zero_v)
  rw [hl]
  refine ⟨rfl, _, g, ?_, hth, by simp [Wm.add, h.made], hok, h.mono (m' := m) f⟩
  rfl

theorem G1.new {W w : World} {m : Wm} {th : List (Nat × Th)} {k : Nat} (h : G1 W m th k w) (hk : k + 2 ≤ 512) (hlen : th.length + 2 < 100000) {target : Int} {y : Nat × Th} (hy : m.get target = some y) :
    Calls Try.prog 46 #[.pointer (some ⟨m.wb, 0, none⟩), .int .i64 0, .int .i64 target] w fun e w' =>
      e = .returned (.tuple #[.int .i64 ((th.length : Int) + 1 + 1), .int .i64 ((th.length : Int) + 1), .int .i64 0]) ∧ ∃ m' g1 g2, m'.wb = m.wb ∧ G1 W m' (th ++ [(g1, ⟨13, 0, T.zero, 0, 0, (th.length : Int) + 1 + 1, 0, 0, false⟩), (g2, ⟨15, 0, T.zero, 0, 0, target, (th.length : Int) + 1, 0, false⟩)]) (k + 1 + 1) w' := by
  have hs : 0 < m.made.length := by rw [h.made]; simp
  have h0 : m.made[0] = k := by simp [h.made]
  have hl : m.th.length = th.length := by rw [h.th]
  have hm := GNew_ok h.ok h.fr.size 0 hs (by omega) (by omega) hy
  refine hm.mono ?_
  rintro e w' ⟨rfl, m', g1, g2, hwb, hth, hmd, hok, f⟩
  rw [hl] at hth ⊢
  refine ⟨rfl, m', g1, g2, hwb, ?_, ?_, hok, h.mono (m' := m) f⟩
  · rw [hth, h.th]
    rfl
  · rw [hmd, h.made]
    rfl

set_option maxRecDepth 100000 in
set_option maxHeartbeats 8000000 in
theorem awake12 (W : World) : Calls Try.prog 15 #[] W fun e w' => e = .returned (.bool true) ∧ Fr No W w' := by
  have HNew := hide (New_one W)
  go_enter Try.func15, Try.ntmps15
  go_wp2_with fail
  refine HNew.out.mono ?_
  rintro e w1 ⟨m0, rfl, hok, hth, hmd, f1⟩
  have S0 : G1 W m0 [] 0 w1 := ⟨hth, hmd, hok, f1⟩
  have C0 := hide S0.cell
  clear hok hth hmd f1 HNew S0
  go_wp2_with fail
  refine C0.out.mono ?_
  rintro e w2 ⟨rfl, m1, g1, hwb1, S1⟩
  have C1 := hide (S1.new (by omega) (by simp) (get_lit S1.th 0 rfl))
  rw [hwb1] at C1
  simp only [List.length_cons, List.length_nil] at C1
  clear S1 C0
  go_wp2_with fail
  refine C1.out.mono ?_
  rintro e w3 ⟨rfl, m3, g2, g3, hwb3, S3⟩
  have hwb : m3.wb = m0.wb := hwb3
  have C3 := hide (S3.new (by omega) (by simp) (get_lit S3.th 2 rfl))
  rw [hwb] at C3
  simp only [List.length_cons, List.length_nil, List.length_append] at C3
  clear S3 C1 hwb1 hwb3
  go_wp2_with fail
  refine C3.out.mono ?_
  rintro e w4 ⟨rfl, m5, g4, g5, hwb5, S5⟩
  have hwb' : m5.wb = m0.wb := hwb5
  have q1 : m5.get 1 = some (g1, ⟨1, 0, T.zero, 0, 0, 0, 0, 0, false⟩) := get_lit S5.th 0 rfl
  have q2 : m5.get 2 = some (g2, ⟨13, (0 : Nat), T.zero, 0, 0, 3, 0, 0, false⟩) := get_lit S5.th 1 rfl
  have q3 : m5.get 3 = some (g3, ⟨15, 0, T.zero, 0, 0, 1, 2, 0, false⟩) := get_lit S5.th 2 rfl
  have q4 : m5.get 4 = some (g4, ⟨13, 0, T.zero, 0, 0, 5, 0, 0, false⟩) := get_lit S5.th 3 rfl
  have q5 : m5.get 5 = some (g5, ⟨15, 0, T.zero, 0, 0, 3, 4, 0, false⟩) := get_lit S5.th 4 rfl
  have hs : 0 < m5.made.length := by rw [S5.made]; simp
  have way5 : Way m5 5 [5, 3, 1] := .wrap q5 (by simp) (.wrap q3 (by simp) (.base q1 (by simp)))
  have hg5 : m5.gatesOf [5, 3, 1] = [5, 3] := by simp [Wm.gatesOf, kind_lit q5, kind_lit q3, kind_lit q1]
  have hCG := Gates_w S5.ok way5 (by simp) (by rw [q5]; rfl)
  rw [hg5, hwb'] at hCG
  have CG := hide hCG
  have HS5 := hide S5
  have HQ := hide (And.intro q1 (And.intro q2 (And.intro q3 (And.intro q4 q5))))
  clear S5 C3 hwb5 hwb q1 q2 q3 q4 q5 way5 hg5 hCG
  go_wp2_with fail
  refine CG.out.mono ?_
  rintro e w5 ⟨v, rfl, hrow, f5⟩
  obtain ⟨gl, cl, hv, hgl0, hgl1⟩ := hrow.form (by simp)
  subst hv
  have e0 := World.ownsRow.cells hrow (g := gl) rfl 0 (.int .i64 5) rfl
  have e1 := World.ownsRow.cells hrow (g := gl) rfl 1 (.int .i64 3) rfl
  rw [add_at, Nat.zero_add] at e0 e1
  have hCC := GCut_w (HS5.out.ok.no f5) (by have := HS5.out.fr.size; have := f5.size; omega) HQ.out.2.1 hs
  rw [hwb'] at hCC
  have CC := hide hCC
  have E0 := hide e0
  have E1 := hide e1
  have HF5 := hide (HS5.out.fr.trans f5)
  have HG0 := hide (fun h : m5.B gl => by have := (HS5.out.ok.lt gl h).2; omega : ¬ m5.B gl)
  have HG1 := hide hgl1
  have HM5 := hide (HS5.out.mono (m' := m5) (w' := w5) f5.no)
  have HB5 := hide fun i (hi : m5.B i) => (HS5.out.ok.lt i hi).1
  have hth5 := HS5.out.th
  clear hCC e0 e1 f5 hgl0 hgl1 hrow CG HS5 hs
  simp only [List.length_cons, List.length_nil]
  go_wp2_with fail
  refine CC.out.mono ?_
  rintro e w6 ⟨rfl, hok6, f6⟩
  have hn1 : ((2 : Int) - 1).toNat = 1 := by decide
  rw [hn1] at hok6
  obtain ⟨m6, hm6⟩ : ∃ m6, m6 = m5.put 1 ⟨13, (0 : Nat), T.zero, 0, 0, 3, 0, 0, true⟩ := ⟨_, rfl⟩
  rw [← hm6] at hok6
  obtain ⟨q1, q2, q3, q4, q5⟩ := HQ.out
  have r1 : m6.get 1 = some (g1, ⟨1, 0, T.zero, 0, 0, 0, 0, 0, false⟩) := by rw [hm6, put_get_other (by decide)]; exact q1
  have r2 : m6.get 2 = some (g2, ⟨13, (0 : Nat), T.zero, 0, 0, 3, 0, 0, true⟩) := by rw [hm6]; exact put_get_same (i := 1) (get_at q2).1
  have r3 : m6.get 3 = some (g3, ⟨15, 0, T.zero, 0, 0, 1, 2, 0, false⟩) := by rw [hm6, put_get_other (by decide)]; exact q3
  have r4 : m6.get 4 = some (g4, ⟨13, 0, T.zero, 0, 0, 5, 0, 0, false⟩) := by rw [hm6, put_get_other (by decide)]; exact q4
  have r5 : m6.get 5 = some (g5, ⟨15, 0, T.zero, 0, 0, 3, 4, 0, false⟩) := by rw [hm6, put_get_other (by decide)]; exact q5
  have hwb6 : m6.wb = m0.wb := by rw [hm6]; exact hwb'
  have way6 : Way m6 5 [5, 3, 1] := .wrap r5 (by simp) (.wrap r3 (by simp) (.base r1 (by simp)))
  have way1 : Way m6 1 [1] := .base r1 (by simp)
  have hg6 : m6.gatesOf [5, 3, 1] = [5, 3] := by simp [Wm.gatesOf, kind_lit r5, kind_lit r3, kind_lit r1]
  have hg1 : m6.gatesOf [1] = [] := by simp [Wm.gatesOf, kind_lit r1]
  have hcut : ∀ x ∈ m6.gatesOf [5, 3, 1], ∀ W', m6.Ok W.heap.size W' → Calls Try.prog 78 #[.pointer (some ⟨m6.wb, 0, none⟩), .int .i64 x] W' fun e w' => e = .returned (.bool (decide (x = 3))) ∧ Fr No W' w' := by
    rw [hg6]
    intro x hx W' h
    simp only [List.mem_cons, List.not_mem_nil, or_false] at hx
    rcases hx with rfl | rfl
    · exact cut_w h r5 r4
    · exact cut_w h r3 r2
  have CF := hide fun w' (f : Fr No w6 w') => by
    have := First_w (hok6.no f) way6 (by simp) (fun x => decide (x = 3)) hcut
    rw [hg6, hwb6] at this
    exact this
  have CF1 := hide fun w' (f : Fr No w6 w') => by
    have := First_w (hok6.no f) way1 (by simp) (fun x => decide (x = 3)) (by rw [hg1]; simp)
    rw [hg1, hwb6] at this
    exact this
  have CD := hide fun w' (f : Fr No w6 w') => by
    have := GDo_w (hok6.no f) r2
    rw [hwb6] at this
    exact this
  have v1 : firstOf (fun x => decide (x = 3)) [5, 3] = .tuple #[.int .i64 3, .bool true] := by simp [firstOf]
  have v2 : firstOf (fun x => decide (x = 3)) [] = .tuple #[.int .i64 0, .bool false] := by simp [firstOf]
  rw [v1] at CF
  rw [v2] at CF1
  have HF6 := hide (HF5.out.trans' f6 fun i hi hb => by have := HB5.out i hb; omega)
  have e0 := hide ((f6.cell HG1.out HG0.out).trans E0.out)
  have e1 := hide ((f6.cell HG1.out HG0.out).trans E1.out)
  have hsz := HG1.out
  have HS6 := hide (Nat.lt_of_lt_of_le HG1.out f6.size)
  clear f6 hok6 q1 q2 q3 q4 q5 r1 r2 r3 r4 r5 hm6 hwb6 way6 way1 hg6 hg1 hcut v1 v2 CC E0 E1 hsz HQ HM5 HB5 hth5 hn1 hwb' HF5
  go_wp2_with fail
  refine (CF.out w6 (Fr.refl _ _)).mono ?_
  rintro e w7 ⟨rfl, f7⟩
  have HF7 := hide f7
  clear f7
  go_wp2_with fail
  refine (CF1.out w7 HF7.out).mono ?_
  rintro e w8 ⟨rfl, f8⟩
  have HF8 := hide (HF7.out.trans f8)
  clear f8
  go_wp2_with fail
  refine (CD.out w8 HF8.out).mono ?_
  rintro e w9 ⟨rfl, f9⟩
  have HF9 := hide (HF8.out.trans f9)
  have d0 := (HF9.out.cell HS6.out fun h => h).trans e0.out
  have d1 := (HF9.out.cell HS6.out fun h => h).trans e1.out
  have dq := Nat.lt_of_lt_of_le HS6.out HF9.out.size
  have HFE := hide (HF6.out.trans HF9.out)
  clear f9 CF CF1 CD HF7 HF8
  go_wp2_with fail
  go_ret
  refine ⟨rfl, ?_⟩
  have hz := HFE.out.size
  repeat (first | with_reducible exact HFE.out | with_reducible refine Fr.alloc ?_ _ | with_reducible refine Fr.setNew ?_ (by first | (simp; done) | (simp; omega)) _)

end Go.Proofs.Ytnddfiohofnbaaa

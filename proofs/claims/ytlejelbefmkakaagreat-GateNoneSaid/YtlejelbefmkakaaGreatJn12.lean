/- Texts joined: Wo19, Wo20, I0, Wo21, Wo22. -/
import Derived.Test.YtlejelbefmkakaaGreatJn11
import Derived.Deep.OwnRows
import Derived.Deep.RegionHeld3
/- seal.pair, Mark, Same: of sealers, openers, boxes. -/
namespace Go.Proofs.YtlejelbefmkakaaGreat
open Go.RowKit

/-- The sealer of the pair of which a thing is. -/
def Th.pairOf (x : Th) (r : Int) : Int := if x.kind = 5 then r else x.ofr

section
variable {m : Wm} {lo : Nat} {W : World}

set_option maxRecDepth 100000 in
set_option maxHeartbeats 4000000 in
theorem pair_w (h : m.Ok lo W) {r : Int} {x : Nat × Th} (hg : m.get r = some x) (hk : x.2.kind = 5 ∨ x.2.kind = 6 ∨ x.2.kind = 7) (hm : x.2.v.v.may = true) :
    Calls Tryz.prog 91 #[.pointer (some ⟨m.wb, 0, none⟩), .int .i64 r] W fun e w' => e = .returned (.tuple #[.int .i64 (x.2.pairOf r), .int .i64 0]) ∧ Fr No W w' := by
  have hT := there_w h
  have hW := What_ok h hg hm
  unfold WhatRes at hW
  clear h hg hm
  obtain ⟨gx, ⟨kind, home, v, n, lost, ofr, byr, set, full⟩⟩ := x
  unfold Th.pairOf
  simp only at hk hW ⊢
  rcases hk with rfl | rfl | rfl
  all_goals
    go_enter Tryz.func91, Tryz.ntmps91
    go_wp2_with fail
    refine hT.mono ?_
    rintro e w' ⟨rfl, rfl⟩
    clear hT
    go_wp2_with fail
    refine hW.mono ?_
    rintro e w1 ⟨⟨k1, n1, s1, A1, c1, l1, r1⟩, rfl, -, -, f1⟩
    have hval1 : ∀ kind : Int, (Th.val ⟨kind, home, T.mk k1 n1 s1 A1 c1 l1 r1, n, lost, ofr, byr, set, full⟩) = .agg (th16 kind home k1 n1 s1 A1 l1.length c1 r1 n lost ofr byr set full) := fun _ => rfl
    rw [hval1]
    unfold th16
    have HF1 := hide f1
    clear f1 hval1 hW
    go_wp2_with fail
    go_ret2
    exact ⟨rfl, HF1.out.alloc _⟩

theorem ref_mark {a : Int} {v : Value} (h : IsMk (.mk 4 0 ⟨#[]⟩ [] a) v) : v = .iface 274 (.int .i64 a) := by
  rw [IsMk_mk] at h
  simpa [mkOf] using h

set_option maxHeartbeats 2000000 in
theorem Mark_w (h : m.Ok lo W) {r : Int} {x : Nat × Th} (hg : m.get r = some x) (hk : x.2.kind = 5 ∨ x.2.kind = 6 ∨ x.2.kind = 7) (hm : x.2.v.v.may = true) (hp0 : 1 ≤ x.2.pairOf r) (hp1 : x.2.pairOf r ≤ 9223372036854775807) :
    Calls Tryz.prog 22 #[.pointer (some ⟨m.wb, 0, none⟩), .int .i64 r] W fun e w' => e = .returned (.tuple #[.iface 274 (.int .i64 (x.2.pairOf r)), .int .i64 0]) ∧ Fr No W w' := by
  have hP := pair_w h hg hk hm
  generalize x.2.pairOf r = a at *
  have hO := fun W' => Of_any (tRef a) W' 0 W'.heap.size (tRef_in hp0 hp1 _ _ _) (Nat.le_refl _)
  rw [tRef_val] at hO
  have hma := tRef_may hp0
  have HO : Hid (∀ W', Calls Tryz.prog 92 #[.agg #[.int .u8 4, .int .i64 0, .string ⟨#[]⟩, .slice none 0 0, .int .i64 a]] W' fun e w' => e = .returned (.tuple #[.iface 274 (.int .i64 a), .int .i64 0]) ∧ Fr No W' w') := hide fun W' => by
    refine (hO W').mono ?_
    rintro e w' ⟨h1, -⟩
    obtain ⟨v, rfl, hv, f⟩ := h1 hma
    rw [tRef_v] at hv
    rw [ref_mark hv]
    exact ⟨rfl, f⟩
  clear hO hma h hg hk hm hp0 hp1
  go_enter Tryz.func22, Tryz.ntmps22
  go_wp2_with fail
  refine hP.mono ?_
  rintro e w1 ⟨rfl, f1⟩
  clear hP
  go_wp2_with fail
  refine (HO.out w1).mono ?_
  rintro e w2 ⟨rfl, f2⟩
  go_wp2_with fail
  go_ret2
  exact ⟨rfl, f1.trans f2⟩

/-- Two marks of references. -/
theorem mark_eql (a b : Int) (w : World) : (binOp .eql 49 (.iface 274 (.int .i64 a)) (.iface 274 (.int .i64 b))).run Tryz.prog w = .ok (.bool (decide (a = b))) w := by
  have i1 : IsMk (.mk 4 0 ⟨#[]⟩ [] a) (.iface 274 (.int .i64 a)) := by rw [IsMk_mk]; simp [mkOf]
  have i2 : IsMk (.mk 4 0 ⟨#[]⟩ [] b) (.iface 274 (.int .i64 b)) := by rw [IsMk_mk]; simp [mkOf]
  have h := run_eq (.mk 4 0 ⟨#[]⟩ [] a) (.mk 4 0 ⟨#[]⟩ [] b) 10000 _ _ w (by simp [V.dep_mk]) i1 i2
  have e : (binOp .eql 49 (.iface 274 (.int .i64 a)) (.iface 274 (.int .i64 b))).run Tryz.prog w = ((Op.equalIn 10000 49 (.iface 274 (.int .i64 a)) (.iface 274 (.int .i64 b))).run Tryz.prog w).andThen fun b w' => .ok (.bool b) w' := by
    simp [binOp, Op.equal]
    rfl
  rw [e]
  have hc : V.cmp (.mk 4 0 ⟨#[]⟩ [] a) (.mk 4 0 ⟨#[]⟩ [] b) = if a = b then 1 else 0 := by simp [V.cmp_mk, cmpOf, shp, leafEq]
  rw [hc] at h
  by_cases hab : a = b
  · rw [if_pos hab] at h
    rcases h with ⟨h, -⟩ | ⟨-, h⟩ | ⟨h, -⟩
    · cases h
    · rw [h]; simp [Result.andThen, hab]
    · cases h
  · rw [if_neg hab] at h
    rcases h with ⟨-, h⟩ | ⟨h, -⟩ | ⟨h, -⟩
    · rw [h]; simp [Result.andThen, hab]
    · cases h
    · cases h

set_option maxHeartbeats 2000000 in
theorem Same_w (h : m.Ok lo W) {r q : Int} {x y : Nat × Th} (hg : m.get r = some x) (hk : x.2.kind = 5 ∨ x.2.kind = 6 ∨ x.2.kind = 7) (hm : x.2.v.v.may = true) (hp0 : 1 ≤ x.2.pairOf r) (hp1 : x.2.pairOf r ≤ 9223372036854775807)
    (hgq : m.get q = some y) (hkq : y.2.kind = 5 ∨ y.2.kind = 6 ∨ y.2.kind = 7) (hmq : y.2.v.v.may = true) (hq0 : 1 ≤ y.2.pairOf q) (hq1 : y.2.pairOf q ≤ 9223372036854775807) :
    Calls Tryz.prog 23 #[.pointer (some ⟨m.wb, 0, none⟩), .int .i64 r, .int .i64 q] W fun e w' => e = .returned (.tuple #[.bool (decide (x.2.pairOf r = y.2.pairOf q)), .int .i64 0]) ∧ Fr No W w' := by
  have hT := there_w h
  have hIr := Is_w h r
  have hIq := Is_w h q
  have e1 : (m.get r).isSome = true := by rw [hg]; rfl
  have e2 : (m.get q).isSome = true := by rw [hgq]; rfl
  rw [e1] at hIr
  rw [e2] at hIq
  have hMr := Mark_w h hg hk hm hp0 hp1
  have HMq := hide fun W' (f : Fr No W W') => Mark_w (h.no f) hgq hkq hmq hq0 hq1
  have hme := mark_eql
  generalize x.2.pairOf r = a at *
  generalize y.2.pairOf q = b at *
  clear h hg hk hm hp0 hp1 hgq hkq hmq hq0 hq1 e1 e2
  go_enter Tryz.func23, Tryz.ntmps23
  go_wp2_with fail
  refine hT.mono ?_
  rintro e w' ⟨rfl, rfl⟩
  go_wp2_with fail
  refine hIr.mono ?_
  rintro e w' ⟨rfl, rfl⟩
  go_wp2_with fail
  refine hIq.mono ?_
  rintro e w' ⟨rfl, rfl⟩
  clear hT hIr hIq
  go_wp2_with fail
  refine hMr.mono ?_
  rintro e w1 ⟨rfl, f1⟩
  clear hMr
  go_wp2_with fail
  refine (HMq.out w1 f1).mono ?_
  rintro e w2 ⟨rfl, f2⟩
  go_wp2_with fail
  go_ret2
  exact ⟨rfl, f1.trans f2⟩
end

end Go.Proofs.YtlejelbefmkakaaGreat

/- world.New, of one side. -/
namespace Go.Proofs.YtlejelbefmkakaaGreat
open Go.RowKit

set_option maxRecDepth 100000 in
theorem cloneS_w (W : World) : Calls Tryz.prog 148 #[.slice none 0 0] W fun e w' => e = .returned (.slice none 0 0) ∧ w' = W := by
  have hq : ∀ w : World, (binOp .eql 32 (.slice none 0 0) (.slice none 0 0)).run Tryz.prog w = .ok (.bool true) w := fun w => by kernel_rfl
  go_enter Tryz.func148, Tryz.ntmps148
  go_wp2
  go_ret
  exact ⟨rfl, rfl⟩

theorem mk1_bool : ∀ w : World, (Instr.makeSlice 33 (.int .i64 1) (.int .i64 1)).run Tryz.prog w = .ok (.slice (some ⟨w.heap.size, 0, none⟩) 1 1) (w.alloc (.cells #[.bool false] 4)) := fun w => by
  have h := run_make_row' (P := Tryz.prog) 33 4 (.bool false) 1 Tryz.underlying33 (by kernel_rfl) rfl .i64 .i64 1 (by decide) (by decide) w
  have e : madeCells #[Value.bool false] 1 = #[Value.bool false] := by kernel_rfl
  rw [e] at h
  exact h

theorem mk1_int : ∀ w : World, (Instr.makeSlice 36 (.int .i64 1) (.int .i64 1)).run Tryz.prog w = .ok (.slice (some ⟨w.heap.size, 0, none⟩) 1 1) (w.alloc (.cells #[.int .i64 0] 3)) := fun w => by
  have h := run_make_row' (P := Tryz.prog) 36 3 (.int .i64 0) 8 Tryz.underlying36 (by kernel_rfl) rfl .i64 .i64 1 (by decide) (by decide) w
  have e : madeCells #[Value.int .i64 0] 1 = #[Value.int .i64 0] := by kernel_rfl
  rw [e] at h
  exact h

end Go.Proofs.YtlejelbefmkakaaGreat

/- A region that draws its order, by what holds whichever operations have come up: each operation is walked once. -/
namespace Go.Proofs.YtlejelbefmkakaaGreat

section
variable {P : Program} {ops : Array Oper} {Q : Exit → Act → World → Prop} {md : Region.Mode}

/-- One more has come up. -/
def upd (f : Nat → Bool) (i : Nat) : Nat → Bool := fun j => j == i || f j

def unl (l : List Bool) : Nat := (l.filter fun b => !b).length

theorem unl_set : ∀ (l : List Bool) (i : Nat), l[i]? = some false → unl (l.set i true) + 1 = unl l
  | [], _, h => by simp at h
  | b :: l, 0, h => by simp at h; subst h; simp [unl]
  | b :: l, i + 1, h => by
    have := unl_set l i (by simpa using h)
    cases b <;> simp [unl] at this ⊢ <;> omega

theorem unl_zero : ∀ (l : List Bool) (i : Nat), unl l = 0 → l[i]? = some false → False
  | [], _, _, h => by simp at h
  | b :: l, 0, hz, h => by simp at h; subst h; simp [unl] at hz
  | b :: l, i + 1, hz, h => by
    refine unl_zero l i ?_ (by simpa using h)
    cases b <;> simp [unl] at hz ⊢
    exact hz

/-- Where each operation waits for earlier ones alone, and nothing may come up, all have. -/
theorem ready_all {listed : Array Bool} (hfw : (List.range ops.size).all (fun i => ((ops[i]?).map fun o => o.after.all fun e => !Region.binds md e || decide (e.on < i)).getD true) = true) (h : Region.ready md ops listed = []) (hs : listed.size = ops.size) :
    ∀ i, i < ops.size → listed.getD i false = true := by
  intro i
  induction i using Nat.strongRecOn with
  | ind i ih =>
    intro hi
    cases hl : listed.getD i false with
    | true => rfl
    | false =>
      exfalso
      have hi2 : i < listed.size := by omega
      have hm : i ∈ Region.ready md ops listed := by
        rw [mem_ready]
        refine ⟨?_, ops[i], Array.getElem?_eq_getElem hi, fun e he hbd => ?_⟩
        · simp only [Array.getD, hi2, dif_pos] at hl ⊢
          exact hl
        · have h1 := List.all_eq_true.1 hfw i (List.mem_range.2 hi)
          rw [Array.getElem?_eq_getElem hi] at h1
          simp only [Option.map_some, Option.getD_some, Array.all_eq_true_iff_forall_mem] at h1
          have h2 : e.on < i := by have := h1 e he; rw [hbd] at this; simpa using this
          exact ih e.on h2 (by omega)
      rw [h] at hm
      cases hm

theorem wpAny_inv (I : (Nat → Bool) → Act → World → Prop) (hfw : (List.range ops.size).all (fun i => ((ops[i]?).map fun o => o.after.all fun e => !Region.binds md e || decide (e.on < i)).getD true) = true)
    (hstep : ∀ (i : Nat) (o : Oper) (f : Nat → Bool) (a : Act) (w : World), ops[i]? = some o → f i = false → (∀ e ∈ o.after, Region.binds md e = true → f e.on = true) → I f a w →
      ∀ K' : Act → World → Prop, Shut (∀ a w, I (upd f i) a w → K' a w) → if Region.wanted o (yielded ops a.tmps) = true then Oper.wp P o a w K' Q else K' (a.put o.dst undef) w)
    (hend : ∀ (f : Nat → Bool) (a : Act) (w : World), (∀ i, i < ops.size → f i = true) → I f a w → Q .normal a w) :
    ∀ (fuel : Nat) (listed : Array Bool) (a : Act) (w : World), listed.size = ops.size → unl listed.toList ≤ fuel → I (fun j => listed.getD j false) a w → wpAny P md ops Q fuel listed a w := by
  have hfin : ∀ (listed : Array Bool) (a : Act) (w : World), listed.size = ops.size → I (fun j => listed.getD j false) a w → Region.ready md ops listed = [] → Q .normal a w := fun listed a w hs hI hr =>
    hend _ a w (ready_all hfw hr hs) hI
  intro fuel
  induction fuel with
  | zero =>
    intro listed a w hs hu hI
    have hr : Region.ready md ops listed = [] := by
      refine List.eq_nil_iff_forall_not_mem.2 fun j hj => ?_
      obtain ⟨h1, o, ho, -⟩ := mem_ready.1 hj
      have hj2 := (Array.getElem?_eq_some_iff.1 ho).1
      refine unl_zero listed.toList j (by omega) ?_
      have hj3 : j < listed.size := by omega
      simp only [Array.getD, hj3, dif_pos] at h1
      rw [Array.getElem?_toList, Array.getElem?_eq_getElem hj3]
      exact congrArg some h1
    exact ⟨hr, hfin listed a w hs hI hr⟩
  | succ fuel ih =>
    intro listed a w hs hu hI
    refine ⟨hfin listed a w hs hI, fun i hi => ?_⟩
    obtain ⟨h1, o, ho, hd⟩ := mem_ready.1 hi
    have hi2 := (Array.getElem?_eq_some_iff.1 ho).1
    have hi3 : i < listed.size := by omega
    have hfalse : listed[i]? = some false := by
      simp only [Array.getD, hi3, dif_pos] at h1
      rw [Array.getElem?_eq_getElem hi3]
      exact congrArg some h1
    have hf : listed.getD i false = false := by
      simp only [Array.getD, hi3, dif_pos] at h1 ⊢
      exact h1
    refine wpOp_step ho fun K' hK => hstep i o _ a w ho hf (fun e he hb => hd e he hb) hI K' fun a' w' hI' => hK a' w' ?_
    refine ih (listed.setIfInBounds i true) a' w' (by simpa using hs) ?_ ?_
    · have := unl_set listed.toList i (by rw [Array.getElem?_toList]; exact hfalse)
      rw [Array.toList_setIfInBounds]
      omega
    · have he : (fun j => (listed.setIfInBounds i true).getD j false) = upd (fun j => listed.getD j false) i := by
        funext j
        simp only [upd, Array.getD_eq_getD_getElem?, Array.getElem?_setIfInBounds]
        by_cases hij : i = j
        · subst hij; simp [hi3]
        · have : ¬ j = i := fun h => hij h.symm
          simp [hij, this]
      rw [he]
      exact hI'

/-- The region. -/
theorem wp_region_inv {id : Nat} {a0 : Act} {w0 : World} (I : Act → (Nat → Bool) → Act → World → Prop) (hm : P.follows .mixedOrders = true) (hfw : (List.range ops.size).all (fun i => ((ops[i]?).map fun o => o.after.all fun e => !Region.binds .any e || decide (e.on < i)).getD true) = true)
    (hst : I a0 (fun _ => false) a0 w0.drew)
    (hstep : ∀ (i : Nat) (o : Oper) (f : Nat → Bool) (a : Act) (w : World), ops[i]? = some o → f i = false → (∀ e ∈ o.after, Region.binds .any e = true → f e.on = true) → I a0 f a w →
      ∀ K' : Act → World → Prop, Shut (∀ a w, I a0 (upd f i) a w → K' a w) → if Region.wanted o (yielded ops a.tmps) = true then Oper.wp P o a w K' Q else K' (a.put o.dst undef) w)
    (hend : ∀ (f : Nat → Bool) (a : Act) (w : World), (∀ i, i < ops.size → f i = true) → I a0 f a w → Q .normal a w) : (Code.region id ops true).wp P Q a0 w0 := by
  refine wp_region_any hm (wpAny_inv (I a0) hfw hstep hend _ _ _ _ (by simp) ?_ ?_)
  · have : ∀ n, unl (List.replicate n false) = n := fun n => by
      induction n with
      | zero => rfl
      | succ n ih => simp only [unl, List.replicate_succ] at ih ⊢; simp
    rw [Array.toList_replicate, this]
    exact Nat.le_refl _
  · have he : (fun j => (Array.replicate ops.size false).getD j false) = fun _ => false := by
      funext j
      simp only [Array.getD_eq_getD_getElem?, Array.getElem?_replicate]
      split <;> rfl
    rw [he]
    exact hst
end

end Go.Proofs.YtlejelbefmkakaaGreat

/- world.New's region: what holds, whichever operations have come up. -/
namespace Go.Proofs.YtlejelbefmkakaaGreat
open Go.RowKit

def nE (g : Nat → Nat) : Nat → Value
  | 0 => .slice none 0 0
  | 1 => .slice none 0 0
  | 2 => .int .i64 1
  | 3 => .slice (some ⟨g 3, 0, none⟩) 1 1
  | 4 => .int .i64 1
  | 5 => .slice (some ⟨g 5, 0, none⟩) 1 1
  | 6 => .map (some (g 6))
  | 7 => .map (some (g 7))
  | 8 => .agg #[.slice none 0 0, .slice (some ⟨g 3, 0, none⟩) 1 1, .map (some (g 6)), .map (some (g 7)), .int .i64 0, .slice (some ⟨g 5, 0, none⟩) 1 1]
  | 9 => .pointer (some ⟨g 9, 0, none⟩)
  | 10 => .pointer (some ⟨g 9, 0, none⟩)
  | 11 => .int .i64 0
  | _ => undef

/-- What an operation has made. -/
def nB (g : Nat → Nat) (w : World) : Nat → Prop
  | 3 => w.heap[g 3]? = some (.cells #[.bool false] 4 (0, 0))
  | 5 => w.heap[g 5]? = some (.cells #[.int .i64 0] 3 (0, 0))
  | 6 => w.heap[g 6]? = some (.map #[] 0)
  | 7 => w.heap[g 7]? = some (.map #[] 0)
  | 9 => w.heap[g 9]? = some (.cells #[.slice none 0 0, .slice (some ⟨g 3, 0, none⟩) 1 1, .map (some (g 6)), .map (some (g 7)), .int .i64 0, .slice (some ⟨g 5, 0, none⟩) 1 1] 38 (0, 0))
  | _ => True

structure NJ (W0 : World) (f : Nat → Bool) (x : List Value) (g : Nat → Nat) (w : World) : Prop where
  fr : Fr No W0 w
  x : ∀ j, f j = true → x.getD j undef = nE g j
  b : ∀ j, f j = true → nB g w j
  lo : ∀ j, f j = true → (j = 3 ∨ j = 5 ∨ j = 6 ∨ j = 7 ∨ j = 9) → W0.heap.size ≤ g j ∧ g j < w.heap.size
  ne : f 6 = true → f 7 = true → g 6 ≠ g 7
  c8 : f 8 = true → f 3 = true ∧ f 5 = true ∧ f 6 = true ∧ f 7 = true
  c9 : f 9 = true → f 8 = true
  c10 : f 10 = true → f 9 = true

theorem upd_ne {f : Nat → Bool} {i j : Nat} (h : j ≠ i) : upd f i j = f j := by
  simp [upd, h]
theorem upd_eq {f : Nat → Bool} {i : Nat} : upd f i i = true := by simp [upd]

theorem NJ.begin (W0 : World) (x : List Value) : NJ W0 (fun _ => false) x (fun _ => 0) W0.drew :=
  ⟨(Fr.refl No W0).drew, nofun, nofun, nofun, nofun, nofun, nofun, nofun⟩

/-- An operation that makes nothing. -/
theorem NJ.quiet {W0 w : World} {f : Nat → Bool} {x : List Value} {g : Nat → Nat} (h : NJ W0 f x g w) {i : Nat} (hi : i ≠ 3 ∧ i ≠ 5 ∧ i ≠ 6 ∧ i ≠ 7 ∧ i ≠ 9) (hx : i < x.length) (h8 : i = 8 → f 3 = true ∧ f 5 = true ∧ f 6 = true ∧ f 7 = true) (h10 : i = 10 → f 9 = true) : NJ W0 (upd f i) (x.set i (nE g i)) g w := by
  have hu : ∀ j, upd f i j = true → j = i ∨ f j = true := fun j hj => by
    by_cases hji : j = i
    · exact .inl hji
    · exact .inr (by rwa [upd_ne hji] at hj)
  have hk : ∀ j, f j = true → upd f i j = true := fun j hj => by
    by_cases hji : j = i
    · rw [hji]; exact upd_eq
    · rwa [upd_ne hji]
  refine ⟨h.fr, fun j hj => ?_, fun j hj => ?_, fun j hj hjj => ?_, fun h6 h7 => ?_, fun h8' => ?_, fun h9' => ?_, fun h10' => ?_⟩
  · rcases hu j hj with rfl | hj
    · simp [List.getD_eq_getElem?_getD, hx]
    · by_cases hji : j = i
      · subst hji; simp [List.getD_eq_getElem?_getD, hx]
      · rw [← h.x j hj, List.getD_eq_getElem?_getD, List.getD_eq_getElem?_getD, List.getElem?_set_ne (fun e => hji e.symm)]
  · rcases hu j hj with rfl | hj
    · unfold nB
      split <;> first | trivial | omega
    · exact h.b j hj
  · rcases hu j hj with rfl | hj
    · omega
    · exact h.lo j hj hjj
  · rw [upd_ne (by omega)] at h6 h7
    exact h.ne h6 h7
  · rcases hu 8 h8' with hh | hh
    · obtain ⟨a, b, c, d⟩ := h8 hh.symm
      exact ⟨hk _ a, hk _ b, hk _ c, hk _ d⟩
    · obtain ⟨a, b, c, d⟩ := h.c8 hh
      exact ⟨hk _ a, hk _ b, hk _ c, hk _ d⟩
  · rw [upd_ne (by omega)] at h9'
    exact hk _ (h.c9 h9')
  · rcases hu 10 h10' with hh | hh
    · exact hk _ (h10 hh.symm)
    · exact hk _ (h.c10 hh)

/-- Another block for one operation. -/
def gset (g : Nat → Nat) (i b : Nat) : Nat → Nat := fun j => if j = i then b else g j
theorem gset_eq {g : Nat → Nat} {i b : Nat} : gset g i b i = b := by simp [gset]
theorem gset_ne {g : Nat → Nat} {i b j : Nat} (h : j ≠ i) : gset g i b j = g j := by simp [gset, h]

theorem nB_alloc {g : Nat → Nat} {w : World} {o : Obj} (j : Nat) (h : nB g w j) (hlt : (j = 3 ∨ j = 5 ∨ j = 6 ∨ j = 7 ∨ j = 9) → g j < w.heap.size) : nB g (w.alloc o) j := by
  unfold nB at h ⊢
  split
  · exact (Below.heap_alloc _ _ _ (hlt (by simp))).trans h
  · exact (Below.heap_alloc _ _ _ (hlt (by simp))).trans h
  · exact (Below.heap_alloc _ _ _ (hlt (by simp))).trans h
  · exact (Below.heap_alloc _ _ _ (hlt (by simp))).trans h
  · exact (Below.heap_alloc _ _ _ (hlt (by simp))).trans h
  · trivial

/-- An operation that makes a block. -/
theorem NJ.make {W0 w : World} {f : Nat → Bool} {x : List Value} {g : Nat → Nat} (h : NJ W0 f x g w) {i : Nat} {o : Obj} (hi : i = 3 ∨ i = 5 ∨ i = 6 ∨ i = 7) (hf : f i = false) (hx : i < x.length) (ho : nB (gset g i w.heap.size) (w.alloc o) i) : NJ W0 (upd f i) (x.set i (nE (gset g i w.heap.size) i)) (gset g i w.heap.size) (w.alloc o) := by
  have h8 : f 8 = false := by
    cases h8 : f 8 with
    | false => rfl
    | true =>
      obtain ⟨a, b, c, d⟩ := h.c8 h8
      rcases hi with rfl | rfl | rfl | rfl <;> simp_all
  have h9 : f 9 = false := by
    cases h9 : f 9 with
    | false => rfl
    | true => rw [h.c9 h9] at h8; cases h8
  have h10 : f 10 = false := by
    cases h10 : f 10 with
    | false => rfl
    | true => rw [h.c10 h10] at h9; cases h9
  have hs := h.fr.size
  have hu : ∀ j, upd f i j = true → j = i ∨ (j ≠ i ∧ f j = true) := fun j hj => by
    by_cases hji : j = i
    · exact .inl hji
    · exact .inr ⟨hji, by rwa [upd_ne hji] at hj⟩
  have hE : ∀ j, j ≠ i → f j = true → nE (gset g i w.heap.size) j = nE g j := fun j hji hj => by
    have j8 : j ≠ 8 := fun e => by subst e; rw [h8] at hj; cases hj
    have j9 : j ≠ 9 := fun e => by subst e; rw [h9] at hj; cases hj
    have j10 : j ≠ 10 := fun e => by subst e; rw [h10] at hj; cases hj
    unfold nE
    split <;> first | rfl | omega | (rw [gset_ne hji])
  have hBk : ∀ j, j ≠ i → f j = true → nB (gset g i w.heap.size) w j := fun j hji hj => by
    have hb := h.b j hj
    have j9 : j ≠ 9 := fun e => by subst e; rw [h9] at hj; cases hj
    unfold nB at hb ⊢
    split <;> first | trivial | omega | (rw [gset_ne hji]; exact hb)
  refine ⟨h.fr.alloc _, fun j hj => ?_, fun j hj => ?_, fun j hj hjj => ?_, fun h6 h7 => ?_, fun h8' => ?_, fun h9' => ?_, fun h10' => ?_⟩
  · rcases hu j hj with rfl | ⟨hji, hj⟩
    · simp [List.getD_eq_getElem?_getD, hx]
    · rw [hE j hji hj, ← h.x j hj, List.getD_eq_getElem?_getD, List.getD_eq_getElem?_getD, List.getElem?_set_ne (fun e => hji e.symm)]
  · rcases hu j hj with rfl | ⟨hji, hj⟩
    · exact ho
    · exact nB_alloc j (hBk j hji hj) fun hjj => by rw [gset_ne hji]; exact (h.lo j hj hjj).2
  · rcases hu j hj with rfl | ⟨hji, hj⟩
    · rw [gset_eq]; simp; omega
    · rw [gset_ne hji]
      have := h.lo j hj hjj
      simp; omega
  · rcases hu 6 h6 with e6 | ⟨n6, f6⟩ <;> rcases hu 7 h7 with e7 | ⟨n7, f7⟩
    · omega
    · subst e6
      rw [gset_eq, gset_ne n7]
      have := h.lo 7 f7 (by simp)
      omega
    · subst e7
      rw [gset_eq, gset_ne n6]
      have := h.lo 6 f6 (by simp)
      omega
    · rw [gset_ne n6, gset_ne n7]
      exact h.ne f6 f7
  · rcases hu 8 h8' with e | ⟨-, e⟩
    · omega
    · rw [h8] at e; cases e
  · rcases hu 9 h9' with e | ⟨-, e⟩
    · omega
    · rw [h9] at e; cases e
  · rcases hu 10 h10' with e | ⟨-, e⟩
    · omega
    · rw [h10] at e; cases e

/-- The box. -/
theorem NJ.box {W0 w : World} {f : Nat → Bool} {x : List Value} {g : Nat → Nat} (h : NJ W0 f x g w) {o : Obj} (h8 : f 8 = true) (hf : f 9 = false) (hx : 9 < x.length) (ho : nB (gset g 9 w.heap.size) (w.alloc o) 9) : NJ W0 (upd f 9) (x.set 9 (nE (gset g 9 w.heap.size) 9)) (gset g 9 w.heap.size) (w.alloc o) := by
  have h10 : f 10 = false := by
    cases h10 : f 10 with
    | false => rfl
    | true => rw [h.c10 h10] at hf; cases hf
  have hs := h.fr.size
  have hu : ∀ j, upd f 9 j = true → j = 9 ∨ (j ≠ 9 ∧ f j = true) := fun j hj => by
    by_cases hji : j = 9
    · exact .inl hji
    · exact .inr ⟨hji, by rwa [upd_ne hji] at hj⟩
  have hk : ∀ j, f j = true → upd f 9 j = true := fun j hj => by
    by_cases hji : j = 9
    · rw [hji]; exact upd_eq
    · rwa [upd_ne hji]
  have hE : ∀ j, j ≠ 9 → f j = true → nE (gset g 9 w.heap.size) j = nE g j := fun j hji hj => by
    have j10 : j ≠ 10 := fun e => by subst e; rw [h10] at hj; cases hj
    unfold nE
    split <;> first | rfl | omega | (simp [gset])
  have hBk : ∀ j, j ≠ 9 → f j = true → nB (gset g 9 w.heap.size) w j := fun j hji hj => by
    have hb := h.b j hj
    unfold nB at hb ⊢
    split <;> first | trivial | omega | (rw [gset_ne hji]; exact hb)
  refine ⟨h.fr.alloc _, fun j hj => ?_, fun j hj => ?_, fun j hj hjj => ?_, fun h6 h7 => ?_, fun h8' => ?_, fun h9' => ?_, fun h10' => ?_⟩
  · rcases hu j hj with rfl | ⟨hji, hj⟩
    · simp [List.getD_eq_getElem?_getD, hx]
    · rw [hE j hji hj, ← h.x j hj, List.getD_eq_getElem?_getD, List.getD_eq_getElem?_getD, List.getElem?_set_ne (fun e => hji e.symm)]
  · rcases hu j hj with rfl | ⟨hji, hj⟩
    · exact ho
    · exact nB_alloc j (hBk j hji hj) fun hjj => by rw [gset_ne hji]; exact (h.lo j hj hjj).2
  · rcases hu j hj with rfl | ⟨hji, hj⟩
    · rw [gset_eq]; simp; omega
    · rw [gset_ne hji]
      have := h.lo j hj hjj
      simp; omega
  · rw [upd_ne (by omega)] at h6 h7
    rw [gset_ne (by omega), gset_ne (by omega)]
    exact h.ne h6 h7
  · obtain ⟨a, b, c, d⟩ := h.c8 h8
    exact ⟨hk _ a, hk _ b, hk _ c, hk _ d⟩
  · exact hk _ h8
  · exact upd_eq

end Go.Proofs.YtlejelbefmkakaaGreat

/- world.New, of one side. -/
namespace Go.Proofs.YtlejelbefmkakaaGreat
open Go.RowKit

set_option maxRecDepth 100000 in
set_option maxHeartbeats 4000000 in
theorem New_one (W : World) : Calls Tryz.prog 82 #[.slice none 0 0] W fun e w' => ∃ m : Wm, e = .returned (.tuple #[.pointer (some ⟨m.wb, 0, none⟩), .int .i64 0]) ∧ m.Ok W.heap.size w' ∧ m.th = [] ∧ m.made = [0] ∧ Fr No W w' := by
  have hmm := @run_makeMap Tryz.prog
  have hC := cloneS_w
  have hb1 := mk1_bool
  have hb2 := mk1_int
  go_enter Tryz.func82, Tryz.ntmps82
  go_wp2_with fail
  refine wp_loop_rounds 1 ?_
  rw [rounds_succ]
  go_wp2_with fail
  refine wp_region_inv (I := fun a0 f a wx => ∃ y0 y1 y2 y3 y4 y5 y6 y7 y8 y9 y10 y11 g, a = ((((((((((((a0.put (some 28) y0).put (some 29) y1).put (some 30) y2).put (some 31) y3).put (some 32) y4).put (some 33) y5).put (some 34) y6).put (some 35) y7).put (some 36) y8).put (some 37) y9).put (some 2) y10).put (some 3) y11) ∧ NJ W f [y0, y1, y2, y3, y4, y5, y6, y7, y8, y9, y10, y11] g wx) (by kernel_rfl) (by kernel_rfl) ?st ?step ?en
  case st => exact ⟨_, _, _, _, _, _, _, _, _, _, _, _, _, by simp only [Act.put, List.setIfInBounds_toArray, List.set_cons_zero, List.set_cons_succ] <;> rfl, NJ.begin W _⟩
  case step =>
    rintro i o f a wx ho hf hd ⟨y0, y1, y2, y3, y4, y5, y6, y7, y8, y9, y10, y11, g, rfl, J⟩ K' hK
    have hi := (Array.getElem?_eq_some_iff.1 ho).1
    simp only [List.size_toArray, List.length_cons, List.length_nil] at hi
    have hid : i = 0 ∨ i = 1 ∨ i = 2 ∨ i = 3 ∨ i = 4 ∨ i = 5 ∨ i = 6 ∨ i = 7 ∨ i = 8 ∨ i = 9 ∨ i = 10 ∨ i = 11 := by omega
    simp only [Act.put, List.setIfInBounds_toArray, List.set_cons_zero, List.set_cons_succ]
    rcases hid with rfl | rfl | rfl | rfl | rfl | rfl | rfl | rfl | rfl | rfl | rfl | rfl
    · simp only [List.getElem?_toArray, List.getElem?_cons_zero, Option.some.injEq] at ho; subst ho
      have HJ := hide J
      have HFI := hide hf
      clear J hd hf
      go_simp
      exact hK.out _ _ ⟨_, _, _, _, _, _, _, _, _, _, _, _, _, by simp only [Act.put, List.setIfInBounds_toArray, List.set_cons_zero, List.set_cons_succ] <;> rfl, HJ.out.quiet (i := 0) (by decide) (by simp) (nofun) (nofun)⟩
    · simp only [List.getElem?_toArray, List.getElem?_cons_succ, List.getElem?_cons_zero, Option.some.injEq] at ho; subst ho
      have b0 := hd ⟨0, .data⟩ (by simp) (by rfl)
      obtain rfl : y0 = .slice none 0 0 := J.x 0 b0
      have HJ := hide J
      have B0 := hide b0
      have HFI := hide hf
      clear J hd hf b0
      go_simp
      refine (hC _).mono ?_
      rintro e w' ⟨rfl, rfl⟩
      try go_simp
      exact hK.out _ _ ⟨_, _, _, _, _, _, _, _, _, _, _, _, _, by simp only [Act.put, List.setIfInBounds_toArray, List.set_cons_zero, List.set_cons_succ] <;> rfl, HJ.out.quiet (i := 1) (by decide) (by simp) (nofun) (nofun)⟩
    · simp only [List.getElem?_toArray, List.getElem?_cons_succ, List.getElem?_cons_zero, Option.some.injEq] at ho; subst ho
      have HJ := hide J
      have HFI := hide hf
      clear J hd hf
      go_simp
      exact hK.out _ _ ⟨_, _, _, _, _, _, _, _, _, _, _, _, _, by simp only [Act.put, List.setIfInBounds_toArray, List.set_cons_zero, List.set_cons_succ] <;> rfl, HJ.out.quiet (i := 2) (by decide) (by simp) (nofun) (nofun)⟩
    · simp only [List.getElem?_toArray, List.getElem?_cons_succ, List.getElem?_cons_zero, Option.some.injEq] at ho; subst ho
      have b2 := hd ⟨2, .data⟩ (by simp) (by rfl)
      obtain rfl : y2 = .int .i64 1 := J.x 2 b2
      have HJ := hide J
      have B2 := hide b2
      have HFI := hide hf
      clear J hd hf b2
      go_simp
      exact hK.out _ _ ⟨_, _, _, _, _, _, _, _, _, _, _, _, _, by simp only [Act.put, List.setIfInBounds_toArray, List.set_cons_zero, List.set_cons_succ] <;> rfl, HJ.out.make (i := 3) (by simp) HFI.out (by simp) (by show (World.alloc _ _).heap[gset g 3 wx.heap.size 3]? = _; rw [gset_eq]; exact World.alloc_heap_new _ _)⟩
    · simp only [List.getElem?_toArray, List.getElem?_cons_succ, List.getElem?_cons_zero, Option.some.injEq] at ho; subst ho
      have HJ := hide J
      have HFI := hide hf
      clear J hd hf
      go_simp
      exact hK.out _ _ ⟨_, _, _, _, _, _, _, _, _, _, _, _, _, by simp only [Act.put, List.setIfInBounds_toArray, List.set_cons_zero, List.set_cons_succ] <;> rfl, HJ.out.quiet (i := 4) (by decide) (by simp) (nofun) (nofun)⟩
    · simp only [List.getElem?_toArray, List.getElem?_cons_succ, List.getElem?_cons_zero, Option.some.injEq] at ho; subst ho
      have b4 := hd ⟨4, .data⟩ (by simp) (by rfl)
      obtain rfl : y4 = .int .i64 1 := J.x 4 b4
      have HJ := hide J
      have B4 := hide b4
      have HFI := hide hf
      clear J hd hf b4
      go_simp
      exact hK.out _ _ ⟨_, _, _, _, _, _, _, _, _, _, _, _, _, by simp only [Act.put, List.setIfInBounds_toArray, List.set_cons_zero, List.set_cons_succ] <;> rfl, HJ.out.make (i := 5) (by simp) HFI.out (by simp) (by show (World.alloc _ _).heap[gset g 5 wx.heap.size 5]? = _; rw [gset_eq]; exact World.alloc_heap_new _ _)⟩
    · simp only [List.getElem?_toArray, List.getElem?_cons_succ, List.getElem?_cons_zero, Option.some.injEq] at ho; subst ho
      have HJ := hide J
      have HFI := hide hf
      clear J hd hf
      go_simp
      exact hK.out _ _ ⟨_, _, _, _, _, _, _, _, _, _, _, _, _, by simp only [Act.put, List.setIfInBounds_toArray, List.set_cons_zero, List.set_cons_succ] <;> rfl, HJ.out.make (i := 6) (by simp) HFI.out (by simp) (by show (World.alloc _ _).heap[gset g 6 wx.heap.size 6]? = _; rw [gset_eq]; exact World.alloc_heap_new _ _)⟩
    · simp only [List.getElem?_toArray, List.getElem?_cons_succ, List.getElem?_cons_zero, Option.some.injEq] at ho; subst ho
      have HJ := hide J
      have HFI := hide hf
      clear J hd hf
      go_simp
      exact hK.out _ _ ⟨_, _, _, _, _, _, _, _, _, _, _, _, _, by simp only [Act.put, List.setIfInBounds_toArray, List.set_cons_zero, List.set_cons_succ] <;> rfl, HJ.out.make (i := 7) (by simp) HFI.out (by simp) (by show (World.alloc _ _).heap[gset g 7 wx.heap.size 7]? = _; rw [gset_eq]; exact World.alloc_heap_new _ _)⟩
    · simp only [List.getElem?_toArray, List.getElem?_cons_succ, List.getElem?_cons_zero, Option.some.injEq] at ho; subst ho
      have b1 := hd ⟨1, .data⟩ (by simp) (by rfl)
      obtain rfl : y1 = .slice none 0 0 := J.x 1 b1
      have b3 := hd ⟨3, .data⟩ (by simp) (by rfl)
      obtain rfl : y3 = .slice (some ⟨g 3, 0, none⟩) 1 1 := J.x 3 b3
      have b5 := hd ⟨5, .data⟩ (by simp) (by rfl)
      obtain rfl : y5 = .slice (some ⟨g 5, 0, none⟩) 1 1 := J.x 5 b5
      have b6 := hd ⟨6, .data⟩ (by simp) (by rfl)
      obtain rfl : y6 = .map (some (g 6)) := J.x 6 b6
      have b7 := hd ⟨7, .data⟩ (by simp) (by rfl)
      obtain rfl : y7 = .map (some (g 7)) := J.x 7 b7
      have HJ := hide J
      have B1 := hide b1
      have B3 := hide b3
      have B5 := hide b5
      have B6 := hide b6
      have B7 := hide b7
      have HFI := hide hf
      clear J hd hf b1 b3 b5 b6 b7
      go_simp
      exact hK.out _ _ ⟨_, _, _, _, _, _, _, _, _, _, _, _, _, by simp only [Act.put, List.setIfInBounds_toArray, List.set_cons_zero, List.set_cons_succ] <;> rfl, HJ.out.quiet (i := 8) (by decide) (by simp) (fun _ => ⟨B3.out, B5.out, B6.out, B7.out⟩) (nofun)⟩
    · simp only [List.getElem?_toArray, List.getElem?_cons_succ, List.getElem?_cons_zero, Option.some.injEq] at ho; subst ho
      have b8 := hd ⟨8, .data⟩ (by simp) (by rfl)
      obtain rfl : y8 = .agg #[.slice none 0 0, .slice (some ⟨g 3, 0, none⟩) 1 1, .map (some (g 6)), .map (some (g 7)), .int .i64 0, .slice (some ⟨g 5, 0, none⟩) 1 1] := J.x 8 b8
      have HJ := hide J
      have B8 := hide b8
      have HFI := hide hf
      clear J hd hf b8
      go_simp
      exact hK.out _ _ ⟨_, _, _, _, _, _, _, _, _, _, _, _, _, by simp only [Act.put, List.setIfInBounds_toArray, List.set_cons_zero, List.set_cons_succ] <;> rfl, HJ.out.box B8.out HFI.out (by simp) (by show (World.alloc _ _).heap[gset g 9 wx.heap.size 9]? = _; rw [gset_eq]; exact World.alloc_heap_new _ _)⟩
    · simp only [List.getElem?_toArray, List.getElem?_cons_succ, List.getElem?_cons_zero, Option.some.injEq] at ho; subst ho
      have b9 := hd ⟨9, .data⟩ (by simp) (by rfl)
      obtain rfl : y9 = .pointer (some ⟨g 9, 0, none⟩) := J.x 9 b9
      have HJ := hide J
      have B9 := hide b9
      have HFI := hide hf
      clear J hd hf b9
      go_simp
      exact hK.out _ _ ⟨_, _, _, _, _, _, _, _, _, _, _, _, _, by simp only [Act.put, List.setIfInBounds_toArray, List.set_cons_zero, List.set_cons_succ] <;> rfl, HJ.out.quiet (i := 10) (by decide) (by simp) (nofun) (fun _ => B9.out)⟩
    · simp only [List.getElem?_toArray, List.getElem?_cons_succ, List.getElem?_cons_zero, Option.some.injEq] at ho; subst ho
      have HJ := hide J
      have HFI := hide hf
      clear J hd hf
      go_simp
      exact hK.out _ _ ⟨_, _, _, _, _, _, _, _, _, _, _, _, _, by simp only [Act.put, List.setIfInBounds_toArray, List.set_cons_zero, List.set_cons_succ] <;> rfl, HJ.out.quiet (i := 11) (by decide) (by simp) (nofun) (nofun)⟩
  case en =>
    rintro f a wx hall ⟨y0, y1, y2, y3, y4, y5, y6, y7, y8, y9, y10, y11, g, rfl, J⟩
    simp only [Act.put, List.setIfInBounds_toArray, List.set_cons_zero, List.set_cons_succ]
    have ha : ∀ j, j < 12 → f j = true := fun j hj => hall j (by simpa using hj)
    obtain rfl : y10 = .pointer (some ⟨g 9, 0, none⟩) := J.x 10 (ha 10 (by omega))
    obtain rfl : y11 = .int .i64 0 := J.x 11 (ha 11 (by omega))
    have n3 : wx.heap[g 9]? = _ := J.b 9 (ha 9 (by omega))
    have n5 : wx.heap[g 5]? = _ := J.b 5 (ha 5 (by omega))
    have n6 : wx.heap[g 6]? = _ := J.b 6 (ha 6 (by omega))
    have n7 : wx.heap[g 7]? = _ := J.b 7 (ha 7 (by omega))
    have hne := J.ne (ha 6 (by omega)) (ha 7 (by omega))
    have l9 := J.lo 9 (ha 9 (by omega)) (by simp)
    have l5 := J.lo 5 (ha 5 (by omega)) (by simp)
    have l6 := J.lo 6 (ha 6 (by omega)) (by simp)
    have l7 := J.lo 7 (ha 7 (by omega)) (by simp)
    have hfr := J.fr
    have hok : (⟨g 9, g 6, g 7, none, 0, 0, some ⟨g 3, 0, none⟩, 1, 1, some ⟨g 5, 0, none⟩, 1, [0], [], []⟩ : Wm).Ok W.heap.size wx :=
      ⟨n3, ⟨#[], 0, n6, ⟨rfl, by simp⟩, by simp, by simp⟩, ⟨#[], 0, n7, rfl, by simp⟩, ⟨rfl, .inr ⟨g 5, 1, #[.int .i64 0], rfl, l5.1, n5, by simp, by simp [maxLen], rfl, rfl⟩⟩, by simp, by simp, ⟨l9.1, l6.1, l7.1, by simp⟩, hne, by simp, by simp, by simp, by simp⟩
    have HOK := hide hok
    have HFR := hide hfr
    clear J hall ha n3 n5 n6 n7 hne l9 l5 l6 l7 hok hfr
    go_wp2_with fail
    go_ret2
    exact ⟨_, rfl, HOK.out, rfl, rfl, HFR.out⟩

end Go.Proofs.YtlejelbefmkakaaGreat

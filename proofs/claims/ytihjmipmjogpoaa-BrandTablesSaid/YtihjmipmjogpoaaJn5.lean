/- Texts joined: Put4, I0, H1, H2, Bt9, Bt10, Bt12. -/
import Derived.Test.YtihjmipmjogpoaaJn4
import Derived.Deep.RegionHeld3
import Derived.RangeFuncNested
import Derived.OrdersIn
import Derived.RangeFuncLeaves
import Derived.CallsIn
import Derived.StillTailTactics
import Derived.Deep.CutRange
import Derived.Maps.RangeRun
/- (*Table).Put, whatever the key and the value. -/
namespace Go.Proofs.Ytihjmipmjogpoaa
open Go.RowKit

/-- What the table holds behind Put, what was there, whether there was one. -/
inductive PutSays (a b : V) (l : List Ent) (came : Nat) : List Ent → Nat → V → Bool → Prop where
  | err (h : putErr a b ≠ 0) : PutSays a b l came l came V.zero false
  | new (x : Ent) (h : putErr a b = 0) (hp : pos a (l.map fun e => e.k.v) = none) (hk : x.k.v = a) (hv : x.v.v = b) (hc : x.c = came + 1) : PutSays a b l came (l ++ [x]) (came + 1) V.zero false
  | old (i : Nat) (x : Ent) (v' : T) (h : putErr a b = 0) (hp : pos a (l.map fun e => e.k.v) = some i) (hx : l[i]? = some x) (hv : v'.v = b) : PutSays a b l came (l.set i ⟨x.k, v', x.c⟩) came x.v.v true

def PutRes (a b : V) (lo tb M O : Nat) (l : List Ent) (came : Nat) (w : World) (e : Ending) (w' : World) : Prop :=
  ∃ (old : T) (had : Bool) (l' : List Ent) (came' : Nat), e = .returned (.tuple #[old.val, .bool had, .int .i64 (putErr a b)]) ∧ old.In w' 0 w'.heap.size ∧ Tab w' lo w'.heap.size tb M O l' came' ∧ Fr (fun i => i = tb ∨ i = M ∨ i = O) w w' ∧
    (∀ i, tabBlocks tb M O l' i → i < w.heap.size → tabBlocks tb M O l i) ∧ PutSays a b l came l' came' old.v had

theorem putErr_zero {a b : V} (h : putErr a b = 0) : a.may = true ∧ b.may = true ∧ a.keys = true := by
  unfold putErr at h
  split at h
  · rename_i h1
    simp at h1
    split at h
    · rename_i h2; exact ⟨h1.1, h1.2, h2⟩
    · cases h
  · cases h

theorem trees_mem {l : List Ent} {b : Nat} : b ∈ ((trees l).map T.blocks).flatten ↔ ∃ e ∈ l, b ∈ e.k.blocks ∨ b ∈ e.v.blocks := by
  constructor
  · intro h
    obtain ⟨bs, hbs, hb⟩ := List.mem_flatten.1 h
    obtain ⟨t, ht, rfl⟩ := List.mem_map.1 hbs
    obtain ⟨e, he, ht⟩ := List.mem_flatMap.1 ht
    simp at ht
    rcases ht with rfl | rfl
    · exact ⟨e, he, .inl hb⟩
    · exact ⟨e, he, .inr hb⟩
  · rintro ⟨e, he, h⟩
    rcases h with h | h
    · exact List.mem_flatten.2 ⟨_, List.mem_map_of_mem (List.mem_flatMap.2 ⟨e, he, by simp⟩), h⟩
    · exact List.mem_flatten.2 ⟨_, List.mem_map_of_mem (List.mem_flatMap.2 ⟨e, he, by simp⟩), h⟩

theorem Put_any (a b : T) (w : World) (alo ahi : Nat) (ha : a.In w alo ahi) (hb : b.In w alo ahi) (hh : ahi ≤ w.heap.size) (lo tb M O : Nat) (l : List Ent) (came : Nat) (hT : Tab w lo w.heap.size tb M O l came)
    (hap : ∀ i, i ∈ a.blocks ∨ i ∈ b.blocks → i ≠ tb ∧ i ≠ M ∧ i ≠ O) (hc : came < 1000000) :
    Calls Try.prog 26 #[.pointer (some ⟨tb, 0, none⟩), a.val, b.val] w (PutRes a.v b.v lo tb M O l came w) := by
  by_cases he : putErr a.v b.v = 0
  · obtain ⟨hma, hmb, hk⟩ := putErr_zero he
    cases hp : pos a.v (l.map fun e => e.k.v) with
    | none =>
      refine (Put_new a b w alo ahi ha hb hh lo tb M O l came hT hap hma hmb hk hp hc).mono ?_
      rintro e w' ⟨rfl, x, h1, h2, h3, h4, h5, h6⟩
      refine ⟨T.zero, false, _, _, by rw [he]; rfl, (T.zero_ow _ _ _).inn, h4, h5, fun i hi hlt => ?_, by rw [T.zero_v]; exact .new x he hp h1 h2 h3⟩
      rcases hi with hi | hi | hi | hi
      · exact .inl hi
      · exact .inr (.inl hi)
      · exact .inr (.inr (.inl hi))
      · obtain ⟨e, he, hb⟩ := trees_mem.1 hi
        rcases List.mem_append.1 he with he | he
        · exact .inr (.inr (.inr (trees_mem.2 ⟨e, he, hb⟩)))
        · simp at he; subst he
          have := h6 i hb
          omega
    | some i =>
      have hkx := pos_some hma hk (fun v hv => by obtain ⟨e, he, rfl⟩ := List.mem_map.1 hv; exact (hT.may e he).1) hp
      rw [List.getElem?_map] at hkx
      cases hx : l[i]? with
      | none => rw [hx] at hkx; cases hkx
      | some x =>
        refine (Put_old a b w alo ahi ha hb hh lo tb M O l came hT hap hma hmb hk hp hx).mono ?_
        rintro e w' ⟨rfl, v', h1, h2, h3, h4, h5, h6⟩
        refine ⟨x.v, true, _, _, by rw [he], T.In.more (Nat.zero_le _) (Nat.le_refl _) _ h3.inn, h2, h5.mono fun i _ h => .inr (.inl h), fun j hj hlt => ?_, .old i x v' he hp hx h1⟩
        rcases hj with hj | hj | hj | hj
        · exact .inl hj
        · exact .inr (.inl hj)
        · exact .inr (.inr (.inl hj))
        · obtain ⟨e, he, hb⟩ := trees_mem.1 hj
          rcases List.mem_or_eq_of_mem_set he with he | rfl
          · exact .inr (.inr (.inr (trees_mem.2 ⟨e, he, hb⟩)))
          · rcases hb with hb | hb
            · exact .inr (.inr (.inr (trees_mem.2 ⟨x, List.mem_of_getElem? hx, .inl hb⟩)))
            · have := h6 j hb
              omega
  · refine (Put_err a b w alo ahi ha hb hh tb M O came hT.blk he).mono ?_
    rintro e w' ⟨rfl, fr⟩
    exact ⟨T.zero, false, l, came, rfl, (T.zero_ow _ _ _).inn, (hT.no fr (Nat.le_refl _)).more (Nat.le_refl _) fr.size, fr.no, fun i hi _ => hi, by rw [T.zero_v]; exact .err he⟩

end Go.Proofs.Ytihjmipmjogpoaa

/- A region that draws its order, by what holds whichever operations have come up: each operation is walked once. -/
namespace Go.Proofs.Ytihjmipmjogpoaa

section
variable {P : Program} {ops : Array Oper} {Q : Exit → Act → World → Prop} {md : Region.Mode}

/-- One more has come up. -/
def upd (f : Nat → Bool) (i : Nat) : Nat → Bool := fun j => j == i || f j

def unl (l : List Bool) : Nat := (l.filter fun b => !b).length

theorem unl_set : ∀ (l : List Bool) (i : Nat), l[i]? = some false → unl (l.set i true) + 1 = unl l
  | [], _, h => by simp at h
  | b :: l, 0, h => by simp at h; subst h; simp [unl]
  | b :: l, i + 1, h => by
    have := unl_set l i (by simpa using h)
    cases b <;> simp [unl] at this ⊢ <;> omega

theorem unl_zero : ∀ (l : List Bool) (i : Nat), unl l = 0 → l[i]? = some false → False
  | [], _, _, h => by simp at h
  | b :: l, 0, hz, h => by simp at h; subst h; simp [unl] at hz
  | b :: l, i + 1, hz, h => by
    refine unl_zero l i ?_ (by simpa using h)
    cases b <;> simp [unl] at hz ⊢
    exact hz

/-- Where each operation waits for earlier ones alone, and nothing may come up, all have. -/
theorem ready_all {listed : Array Bool} (hfw : (List.range ops.size).all (fun i => ((ops[i]?).map fun o => o.after.all fun e => decide (e.on < i)).getD true) = true) (h : Region.ready md ops listed = []) (hs : listed.size = ops.size) :
    ∀ i, i < ops.size → listed.getD i false = true := by
  intro i
  induction i using Nat.strongRecOn with
  | ind i ih =>
    intro hi
    cases hl : listed.getD i false with
    | true => rfl
    | false =>
      exfalso
      have hi2 : i < listed.size := by omega
      have hm : i ∈ Region.ready md ops listed := by
        rw [mem_ready]
        refine ⟨?_, ops[i], Array.getElem?_eq_getElem hi, fun e he _ => ?_⟩
        · simp only [Array.getD, hi2, dif_pos] at hl ⊢
          exact hl
        · have h1 := List.all_eq_true.1 hfw i (List.mem_range.2 hi)
          rw [Array.getElem?_eq_getElem hi] at h1
          simp only [Option.map_some, Option.getD_some, Array.all_eq_true_iff_forall_mem] at h1
          have h2 := of_decide_eq_true (h1 e he)
          exact ih e.on h2 (by omega)
      rw [h] at hm
      cases hm

theorem wpAny_inv (I : (Nat → Bool) → Act → World → Prop) (hfw : (List.range ops.size).all (fun i => ((ops[i]?).map fun o => o.after.all fun e => decide (e.on < i)).getD true) = true)
    (hstep : ∀ (i : Nat) (o : Oper) (f : Nat → Bool) (a : Act) (w : World), ops[i]? = some o → f i = false → (∀ e ∈ o.after, Region.binds md e = true → f e.on = true) → I f a w →
      ∀ K' : Act → World → Prop, Shut (∀ a w, I (upd f i) a w → K' a w) → if Region.wanted o (yielded ops a.tmps) = true then Oper.wp P o a w K' Q else K' (a.put o.dst undef) w)
    (hend : ∀ (f : Nat → Bool) (a : Act) (w : World), (∀ i, i < ops.size → f i = true) → I f a w → Q .normal a w) :
    ∀ (fuel : Nat) (listed : Array Bool) (a : Act) (w : World), listed.size = ops.size → unl listed.toList ≤ fuel → I (fun j => listed.getD j false) a w → wpAny P md ops Q fuel listed a w := by
  have hfin : ∀ (listed : Array Bool) (a : Act) (w : World), listed.size = ops.size → I (fun j => listed.getD j false) a w → Region.ready md ops listed = [] → Q .normal a w := fun listed a w hs hI hr =>
    hend _ a w (ready_all hfw hr hs) hI
  intro fuel
  induction fuel with
  | zero =>
    intro listed a w hs hu hI
    have hr : Region.ready md ops listed = [] := by
      refine List.eq_nil_iff_forall_not_mem.2 fun j hj => ?_
      obtain ⟨h1, o, ho, -⟩ := mem_ready.1 hj
      have hj2 := (Array.getElem?_eq_some_iff.1 ho).1
      refine unl_zero listed.toList j (by omega) ?_
      have hj3 : j < listed.size := by omega
      simp only [Array.getD, hj3, dif_pos] at h1
      rw [Array.getElem?_toList, Array.getElem?_eq_getElem hj3]
      exact congrArg some h1
    exact ⟨hr, hfin listed a w hs hI hr⟩
  | succ fuel ih =>
    intro listed a w hs hu hI
    refine ⟨hfin listed a w hs hI, fun i hi => ?_⟩
    obtain ⟨h1, o, ho, hd⟩ := mem_ready.1 hi
    have hi2 := (Array.getElem?_eq_some_iff.1 ho).1
    have hi3 : i < listed.size := by omega
    have hfalse : listed[i]? = some false := by
      simp only [Array.getD, hi3, dif_pos] at h1
      rw [Array.getElem?_eq_getElem hi3]
      exact congrArg some h1
    have hf : listed.getD i false = false := by
      simp only [Array.getD, hi3, dif_pos] at h1 ⊢
      exact h1
    refine wpOp_step ho fun K' hK => hstep i o _ a w ho hf (fun e he hb => hd e he hb) hI K' fun a' w' hI' => hK a' w' ?_
    refine ih (listed.setIfInBounds i true) a' w' (by simpa using hs) ?_ ?_
    · have := unl_set listed.toList i (by rw [Array.getElem?_toList]; exact hfalse)
      rw [Array.toList_setIfInBounds]
      omega
    · have he : (fun j => (listed.setIfInBounds i true).getD j false) = upd (fun j => listed.getD j false) i := by
        funext j
        simp only [upd, Array.getD_eq_getD_getElem?, Array.getElem?_setIfInBounds]
        by_cases hij : i = j
        · subst hij; simp [hi3]
        · have : ¬ j = i := fun h => hij h.symm
          simp [hij, this]
      rw [he]
      exact hI'

/-- The region. -/
theorem wp_region_inv {id : Nat} {a0 : Act} {w0 : World} (I : Act → (Nat → Bool) → Act → World → Prop) (hm : P.follows .mixedOrders = true) (hfw : (List.range ops.size).all (fun i => ((ops[i]?).map fun o => o.after.all fun e => decide (e.on < i)).getD true) = true)
    (hst : I a0 (fun _ => false) a0 w0.drew)
    (hstep : ∀ (i : Nat) (o : Oper) (f : Nat → Bool) (a : Act) (w : World), ops[i]? = some o → f i = false → (∀ e ∈ o.after, Region.binds .any e = true → f e.on = true) → I a0 f a w →
      ∀ K' : Act → World → Prop, Shut (∀ a w, I a0 (upd f i) a w → K' a w) → if Region.wanted o (yielded ops a.tmps) = true then Oper.wp P o a w K' Q else K' (a.put o.dst undef) w)
    (hend : ∀ (f : Nat → Bool) (a : Act) (w : World), (∀ i, i < ops.size → f i = true) → I a0 f a w → Q .normal a w) : (Code.region id ops true).wp P Q a0 w0 := by
  refine wp_region_any hm (wpAny_inv (I a0) hfw hstep hend _ _ _ _ (by simp) ?_ ?_)
  · have : ∀ n, unl (List.replicate n false) = n := fun n => by
      induction n with
      | zero => rfl
      | succ n ih => simp only [unl, List.replicate_succ] at ih ⊢; simp
    rw [Array.toList_replicate, this]
    exact Nat.le_refl _
  · have he : (fun j => (Array.replicate ops.size false).getD j false) = fun _ => false := by
      funext j
      simp only [Array.getD_eq_getD_getElem?, Array.getElem?_replicate]
      split <;> rfl
    rw [he]
    exact hst
end

end Go.Proofs.Ytihjmipmjogpoaa

/- A region that draws its order inside the wide fence, by what holds whichever operations have come up; a round among its operations. -/
namespace Go.Proofs.Ytihjmipmjogpoaa
open Go.RowKit

section
variable {P : Program} {ops : Array Oper} {Q : Exit → Act → World → Prop} {n : Nat}

theorem upon_wide {o : Oper} {a : Act} {K : Act → World → Prop} {r : Result Next} (h : o.upon P a K Q r) : o.uponIn Fence.wide n P a K Q r := by
  have hd : ∀ p : Prop, (Fence.wide.depth.isSome = true → p) := fun p h => by simp [Fence.wide] at h
  cases r with
  | ok x w' =>
    cases x with
    | value v => exact h
    | skip => exact h
    | defer d => exact h
    | enter f args => exact ⟨hd _, callsIn_wide.2 h⟩
    | row row args => exact ⟨hd _, fun c cs _ => let ⟨v, w', r, s⟩ := h c cs; ⟨v, w', r, stepsIn_wide.2 s⟩⟩
    | _ => exact h.elim
  | halt x w' =>
    cases x with
    | panic v => exact h
    | _ => exact h.elim

theorem wpIn_of_wp {o : Oper} {a : Act} {w : World} {K : Act → World → Prop} (h : o.wp P a w K Q) : o.wpIn Fence.wide n P a w K Q :=
  ⟨fun _ _ => trivial, upon_wide h⟩

theorem wpAnyIn_inv (I : (Nat → Bool) → Act → World → Prop) (hfw : (List.range ops.size).all (fun i => ((ops[i]?).map fun o => o.after.all fun e => decide (e.on < i)).getD true) = true)
    (hstep : ∀ (i : Nat) (o : Oper) (f : Nat → Bool) (a : Act) (w : World), ops[i]? = some o → f i = false → (∀ e ∈ o.after, Region.binds .any e = true → f e.on = true) → I f a w →
      ∀ K' : Act → World → Prop, Shut (∀ a w, I (upd f i) a w → K' a w) → if Region.wanted o (yielded ops a.tmps) = true then Oper.wpIn Fence.wide n P o a w K' Q else K' (a.put o.dst undef) w)
    (hend : ∀ (f : Nat → Bool) (a : Act) (w : World), (∀ i, i < ops.size → f i = true) → I f a w → Q .normal a w) :
    ∀ (fuel : Nat) (listed : Array Bool) (a : Act) (w : World), listed.size = ops.size → unl listed.toList ≤ fuel → I (fun j => listed.getD j false) a w → wpAnyIn Fence.wide n P .any ops Q fuel listed a w := by
  have hfin : ∀ (listed : Array Bool) (a : Act) (w : World), listed.size = ops.size → I (fun j => listed.getD j false) a w → Region.ready .any ops listed = [] → Q .normal a w := fun listed a w hs hI hr =>
    hend _ a w (ready_all hfw hr hs) hI
  intro fuel
  induction fuel with
  | zero =>
    intro listed a w hs hu hI
    have hr : Region.ready .any ops listed = [] := by
      refine List.eq_nil_iff_forall_not_mem.2 fun j hj => ?_
      obtain ⟨h1, o, ho, -⟩ := mem_ready.1 hj
      have hj2 := (Array.getElem?_eq_some_iff.1 ho).1
      refine unl_zero listed.toList j (by omega) ?_
      have hj3 : j < listed.size := by omega
      simp only [Array.getD, hj3, dif_pos] at h1
      rw [Array.getElem?_toList, Array.getElem?_eq_getElem hj3]
      exact congrArg some h1
    exact ⟨hr, hfin listed a w hs hI hr⟩
  | succ fuel ih =>
    intro listed a w hs hu hI
    refine ⟨hfin listed a w hs hI, fun i hi => ?_⟩
    obtain ⟨h1, o, ho, hd⟩ := mem_ready.1 hi
    have hi2 := (Array.getElem?_eq_some_iff.1 ho).1
    have hi3 : i < listed.size := by omega
    have hfalse : listed[i]? = some false := by
      simp only [Array.getD, hi3, dif_pos] at h1
      rw [Array.getElem?_eq_getElem hi3]
      exact congrArg some h1
    have hf : listed.getD i false = false := by
      simp only [Array.getD, hi3, dif_pos] at h1 ⊢
      exact h1
    have hnext : ∀ a' w', I (upd (fun j => listed.getD j false) i) a' w' → wpAnyIn Fence.wide n P .any ops Q fuel (listed.setIfInBounds i true) a' w' := fun a' w' hI' => by
      refine ih (listed.setIfInBounds i true) a' w' (by simpa using hs) ?_ ?_
      · have := unl_set listed.toList i (by rw [Array.getElem?_toList]; exact hfalse)
        rw [Array.toList_setIfInBounds]
        omega
      · have he : (fun j => (listed.setIfInBounds i true).getD j false) = upd (fun j => listed.getD j false) i := by
          funext j
          simp only [upd, Array.getD_eq_getD_getElem?, Array.getElem?_setIfInBounds]
          by_cases hij : i = j
          · subst hij; simp [hi3]
          · have : ¬ j = i := fun h => hij h.symm
            simp [hij, this]
        rw [he]
        exact hI'
    have hs' := hstep i o _ a w ho hf (fun e he hb => hd e he hb) hI (wpAnyIn Fence.wide n P .any ops Q fuel (listed.setIfInBounds i true)) hnext
    unfold wpOpIn
    rw [ho]
    show if Region.wanted o (yielded ops a.tmps) = true then _ else _
    split
    · rename_i hw; rw [if_pos hw] at hs'; exact hs'
    · rename_i hw; rw [if_neg hw] at hs'; exact ⟨fun _ _ => trivial, hs'⟩

/-- The region. -/
theorem wpIn_region_inv {id : Nat} {a0 : Act} {w0 : World} (I : Act → (Nat → Bool) → Act → World → Prop) (hm : P.follows .mixedOrders = true) (hfw : (List.range ops.size).all (fun i => ((ops[i]?).map fun o => o.after.all fun e => decide (e.on < i)).getD true) = true)
    (hst : I a0 (fun _ => false) a0 w0.drew)
    (hstep : ∀ (i : Nat) (o : Oper) (f : Nat → Bool) (a : Act) (w : World), ops[i]? = some o → f i = false → (∀ e ∈ o.after, Region.binds .any e = true → f e.on = true) → I a0 f a w →
      ∀ K' : Act → World → Prop, Shut (∀ a w, I a0 (upd f i) a w → K' a w) → if Region.wanted o (yielded ops a.tmps) = true then Oper.wpIn Fence.wide n P o a w K' Q else K' (a.put o.dst undef) w)
    (hend : ∀ (f : Nat → Bool) (a : Act) (w : World), (∀ i, i < ops.size → f i = true) → I a0 f a w → Q .normal a w) : (Code.region id ops true).wpIn Fence.wide n P Q a0 w0 := by
  refine wpIn_region_any hm (wpAnyIn_inv (I a0) hfw hstep hend _ _ _ _ (by simp) ?_ ?_)
  · have : ∀ n, unl (List.replicate n false) = n := fun n => by
      induction n with
      | zero => rfl
      | succ n ih => simp only [unl, List.replicate_succ] at ih ⊢; simp
    rw [Array.toList_replicate, this]
    exact Nat.le_refl _
  · have he : (fun j => (Array.replicate ops.size false).getD j false) = fun _ => false := by
      funext j
      simp only [Array.getD_eq_getD_getElem?, Array.getElem?_replicate]
      split <;> rfl
    rw [he]
    exact hst
end

end Go.Proofs.Ytihjmipmjogpoaa

/- A range over a function whose rounds are handed what lies in memory: the caller's law. -/
namespace Go.Proofs.Ytihjmipmjogpoaa
open Go.RowKit

theorem fr_putObj (W : World) (l : Nat) (o : Obj) : Fr (fun i => i = l) W (W.putObj l o) :=
  (Fr.refl _ W).grown (grownBy_putObj' W l o) (fun k hk _ => by cases hk; rfl)

/-- What a round leaves of the book-keeping: the loop's own record as it was, and of what there was M and B alone may have turned. -/
structure RK (l : Nat) (M B : Nat → Prop) (W1 W2 W' : World) : Prop where
  rec_ : W'.heap[l]? = W2.heap[l]?
  fr : Fr (fun i => M i ∨ B i ∨ i = l) W1 W'

/-- How the body of a round may be left. -/
def rpost {α : Type} (l : Nat) (I : List α → (Nat → Prop) → World → Prop) (Ix : Code → List α → (Nat → Prop) → World → Prop) (xs : List α) (M B : Nat → Prop) (W1 W2 : World) : Exit → Act → World → Prop
  | .normal, _, W' => RK l M B W1 W2 W' ∧ ∃ M', (∀ i, M' i → i < W1.heap.size → M i) ∧ I xs M' W'
  | .ret, _, W' => RK l M B W1 W2 W' ∧ ∃ M', (∀ i, M' i → i < W1.heap.size → M i) ∧ Ix .ret xs M' W'
  | .exit id, _, W' => RK l M B W1 W2 W' ∧ ∃ M', (∀ i, M' i → i < W1.heap.size → M i) ∧ Ix (.exit id) xs M' W'
  | .goto t, _, W' => RK l M B W1 W2 W' ∧ ∃ M', (∀ i, M' i → i < W1.heap.size → M i) ∧ Ix (.goto t) xs M' W'
  | .panic _, _, _ => False
  | .outgrown, _, _ => False

/-- What an iterator does: over whatever holds between two rounds. -/
def Iter {α : Type} (P : Program) (gf : Nat) (lb : Array Value) (Ok : α → Array Value → (Nat → Prop) → World → Prop) (xs : List α) (Av : Nat → Prop) (w : World) : Prop :=
  ∀ (l : Nat) (J Jx : List α → (Nat → Prop) → World → Prop) (W : World) (M : Nat → Prop), Fr No w W → (∀ pre M W W', J pre M W → Fr No W W' → J pre M W') → (∀ pre M W, J pre M W → ∀ i, M i → i < W.heap.size) →
    (∀ pre M W1 x args B, J pre M W1 → pre ++ [x] <+: xs → Ok x args B W1 → (∀ i, B i → W.heap.size ≤ i ∧ i < W1.heap.size ∧ ¬ M i) → YieldAt Fence.wide 2 P l args W1 fun e W' =>
      ∃ M' : Nat → Prop, Fr (fun i => M i ∨ B i) W1 W' ∧ (∀ i, M' i → i < W1.heap.size → M i) ∧ ((e = .returned (.bool true) ∧ J (pre ++ [x]) M' W') ∨ (e = .returned (.bool false) ∧ Jx (pre ++ [x]) M' W'))) →
    (∀ i, M i → i < w.heap.size → ¬ Av i) → J [] M W →
    Calls P gf (#[.func (.yield l) #[] #[]] ++ lb) W fun e W' => (∃ v, e = .returned v) ∧ ∃ M' : Nat → Prop, Fr M W W' ∧ (∀ i, M' i → i < W.heap.size → M i) ∧ (J xs M' W' ∨ ∃ q, q <+: xs ∧ Jx q M' W')

theorem wp_rangeFunc_seq {α : Type} {P : Program} {g : Operand} {ps : Array Tmp} {assign body : Code} {Q : Exit → Act → World → Prop} {a : Act} {w : World} {gf : Nat} {lb : Array Value} (hg : a.eval g = .func (.func gf) #[] lb)
    (eg : ∀ args w, (callFunc gf args).run P w = .ok (.enter gf args) w) {xs : List α} {Ok : α → Array Value → (Nat → Prop) → World → Prop} (hps : ∀ x args B W, Ok x args B W → args.size = ps.size) {Av : Nat → Prop} (hiter : Iter P gf lb Ok xs Av w)
    (I : List α → (Nat → Prop) → World → Prop) (Ix : Code → List α → (Nat → Prop) → World → Prop)
    (hI : ∀ pre M W W' S, I pre M W → Fr S W W' → (∀ i, i < W.heap.size → S i → w.heap.size ≤ i ∧ ¬ M i) → I pre M W')
    (hIx : ∀ c pre M W W' S, Ix c pre M W → Fr S W W' → (∀ i, i < W.heap.size → S i → w.heap.size ≤ i ∧ ¬ M i) → Ix c pre M W')
    (hIlt : ∀ pre M W, I pre M W → ∀ i, M i → i < W.heap.size) (M0 : Nat → Prop) (h0 : I [] M0 w) (hM0 : ∀ i, M0 i → i < w.heap.size ∧ ¬ Av i)
    (Ax : α → Array Value → World → Act → World → Prop)
    (hassign : ∀ l x args B W1, Ok x args B W1 → ∀ K : Act → World → Prop, (∀ a' Wa, Fr No W1 Wa → Ax x args W1 a' Wa → K a' Wa) →
      assign.wpIn (Fence.wide.inRound l) 2 P (Exit.then K (fun _ _ _ => False)) { tmps := (ps.zip args).foldl (fun t (p, v) => t.setIfInBounds p v) a.tmps, defers := [] } W1)
    (hbody : ∀ l pre x args B M W1 a' Wa W2, I pre M W1 → pre ++ [x] <+: xs → Ok x args B W1 → (∀ i, B i → w.heap.size ≤ i ∧ i < W1.heap.size ∧ ¬ M i) → Fr No W1 Wa → Ax x args W1 a' Wa → l < W1.heap.size → ¬ M l → ¬ B l → w.heap.size ≤ l →
      Fr (fun i => i = l) Wa W2 → body.wpIn (Fence.wide.inRound l) 2 P (rpost l I Ix (pre ++ [x]) M B W1 W2) a' W2)
    (hdone : ∀ D W M', I xs M' W → Fr M0 w W → (∀ i, M' i → i < w.heap.size → M0 i) → w.heap.size ≤ D → W.heap[D]? = some (.deferred (some [])) → Q .normal { a with defers := { target := .collected D, args := #[] } :: a.defers } W)
    (hstop : ∀ D c q W M', q <+: xs → Ix c q M' W → Fr M0 w W → (∀ i, M' i → i < w.heap.size → M0 i) → w.heap.size ≤ D → W.heap[D]? = some (.deferred (some [])) → c.wp P Q { a with defers := { target := .collected D, args := #[] } :: a.defers } W) :
    (Code.rangeFunc g ps assign body).wp P Q a w := by
  refine (wpIn_wide (n := 3)).1 ?_
  refine wpIn_rangeFunc ?_
  intro fn hfn
  obtain ⟨rec, hrec⟩ : ∃ rec : LoopState → Option Code → Loop, rec = fun st pe => { state := st, pending := pe, fn, tmps := a.tmps, params := ps, assign, body, defers := w.heap.size } := ⟨_, rfl⟩
  obtain ⟨W1, hW1⟩ : ∃ W1, (w.alloc (.deferred (some []))).alloc (.loop (rec .ready none)) = W1 := ⟨_, rfl⟩
  have hL1 : W1.heap[w.heap.size + 1]? = some (.loop (rec .ready none)) := by
    rw [← hW1]; have := World.alloc_heap_new (w.alloc (.deferred (some []))) (.loop (rec .ready none)); rwa [World.size_alloc] at this
  have hK1 : W1.heap[w.heap.size]? = some (.deferred (some [])) := by
    rw [← hW1]; exact (Below.heap_alloc _ _ _ (by simp)).trans (World.alloc_heap_new w _)
  have hb1 : Fr No w W1 := by rw [← hW1]; exact ((Fr.refl No w).alloc _).alloc _
  have hz1 : W1.heap.size = w.heap.size + 1 + 1 := by rw [← hW1]; simp
  refine ⟨w.heap.size + 1, [{ target := .collected w.heap.size, args := #[] }], W1, { target := .fn (.func gf) lb, args := #[.func (.yield (w.heap.size + 1)) #[] #[]] }, W1, gf,
    #[.func (.yield (w.heap.size + 1)) #[] #[]] ++ lb, W1, ?_, ?_, ?_, ?_, (fun h => by cases h), ?_⟩
  · rw [← hW1, hrec]; exact run_enterLoop_outer _ _ _ _ _
  · simp only [resolve, hg]
    simp [go_sem]
  · intro f' _; trivial
  · simp [invoke, go_sem, eg]
  · obtain ⟨l, hl⟩ : ∃ l, w.heap.size + 1 = l := ⟨_, rfl⟩
    rw [hl] at hL1 ⊢
    have hJ0 : ∀ i, (M0 i ∨ i = l) → i < w.heap.size → ¬ Av i := fun i h hlt => by
      rcases h with h | h
      · exact (hM0 i h).2
      · omega
    have hcall := hiter l
      (fun pre Mj W => ∃ M : Nat → Prop, I pre M W ∧ (∀ i, Mj i ↔ (M i ∨ i = l)) ∧ ¬ M l ∧ ¬ M w.heap.size ∧ W.heap[l]? = some (.loop (rec .ready none)) ∧ W.heap[w.heap.size]? = some (.deferred (some [])))
      (fun pre Mj W => ∃ (M : Nat → Prop) (c : Code), Ix c pre M W ∧ (∀ i, Mj i ↔ (M i ∨ i = l)) ∧ ¬ M l ∧ ¬ M w.heap.size ∧ W.heap[l]? = some (.loop (rec .done (some c))) ∧ W.heap[w.heap.size]? = some (.deferred (some [])))
      W1 (fun i => M0 i ∨ i = l) hb1 ?hno ?hlt ?hround hJ0 ?h0
    case hno =>
      rintro pre Mj W W' ⟨M, hi, hm, hn1, hn2, hl1, hk1⟩ f
      exact ⟨M, hI _ _ _ _ No hi f (fun _ _ h => h.elim), hm, hn1, hn2, (f.block l (Array.getElem?_eq_some_iff.1 hl1).1 (fun h => h)).trans hl1, (f.block _ (Array.getElem?_eq_some_iff.1 hk1).1 (fun h => h)).trans hk1⟩
    case hlt =>
      rintro pre Mj W ⟨M, hi, hm, hn1, hn2, hl1, hk1⟩ i hji
      rcases (hm i).1 hji with h | rfl
      · exact hIlt _ _ _ hi i h
      · exact (Array.getElem?_eq_some_iff.1 hl1).1
    case h0 => exact ⟨M0, hI _ _ _ _ No h0 hb1 (fun _ _ h => h.elim), fun i => Iff.rfl, fun h => by have := (hM0 _ h).1; omega, fun h => by have := (hM0 _ h).1; omega, hL1, hK1⟩
    case hround =>
      rintro pre Mj W x args B ⟨M, hi, hm, hn1, hn2, hl1, hk1⟩ hlen hok hB
      have hll : l < W.heap.size := (Array.getElem?_eq_some_iff.1 hl1).1
      have hkl : w.heap.size < W.heap.size := (Array.getElem?_eq_some_iff.1 hk1).1
      have hBl : ¬ B l := fun h => (hB l h).2.2 ((hm l).2 (.inr rfl))
      have hBk : ¬ B w.heap.size := fun h => by have := (hB _ h).1; omega
      have hy := run_yield (P := P) (args := args) hl1 (by rw [hrec]; exact hps x args B W hok)
      rw [hrec] at hy
      refine ⟨fn, _, assign, body, hy, roundIn_of_wpIn hfn (hassign l x args B W hok _ ?_)⟩
      clear hy
      intro a' Wa fa hax
      have hla : Wa.heap[l]? = some (.loop (rec .ready none)) := (fa.block l hll (fun h => h)).trans hl1
      have hka : Wa.heap[w.heap.size]? = some (.deferred (some [])) := (fa.block _ hkl (fun h => h)).trans hk1
      have hlta : l < Wa.heap.size := (Array.getElem?_eq_some_iff.1 hla).1
      refine ⟨_, run_beginRound hla (by rw [hrec]), ?_⟩
      have hl2 : (Wa.putObj l (.loop { rec .ready none with state := .busy })).heap[l]? = some (.loop { rec .ready none with state := .busy }) := World.putObj_heap_same hlta
      refine wpIn_mono (hbody l pre x args B M W a' Wa _ hi hlen hok (fun i h => ⟨by have := (hB i h).1; omega, (hB i h).2.1, fun h' => (hB i h).2.2 ((hm i).2 (.inl h'))⟩) fa hax hll hn1 hBl (by omega) (fr_putObj Wa l _)) ?_
      have fin : ∀ (jump : Option Code) (W3 : World), RK l M B W (Wa.putObj l (.loop { rec .ready none with state := .busy })) W3 →
          (Instr.endRound l jump).run P W3 = .ok (.bool jump.isNone) (W3.putObj l (.loop (rec (if jump.isNone then .ready else .done) jump))) ∧
          (W3.putObj l (.loop (rec (if jump.isNone then .ready else .done) jump))).heap[l]? = some (.loop (rec (if jump.isNone then .ready else .done) jump)) ∧
          (W3.putObj l (.loop (rec (if jump.isNone then .ready else .done) jump))).heap[w.heap.size]? = some (.deferred (some [])) ∧
          Fr (fun i => Mj i ∨ B i) W (W3.putObj l (.loop (rec (if jump.isNone then .ready else .done) jump))) := fun jump W3 hk3 => by
        have hl3 := hk3.rec_.trans hl2
        have hd3 : W3.heap[w.heap.size]? = some (.deferred (some [])) := (hk3.fr.block _ hkl (fun h => by rcases h with h | h | h; exact hn2 h; exact hBk h; omega)).trans hk1
        have := run_endRound (P := P) jump hl3
        rw [hrec] at this ⊢
        refine ⟨this, World.putObj_heap_same (Array.getElem?_eq_some_iff.1 hl3).1, (World.putObj_heap_other (by omega)).trans hd3, ?_⟩
        refine (hk3.fr.mono (S' := fun i => Mj i ∨ B i) fun i _ h => ?_).trans' (fr_putObj W3 l _) fun i _ h => .inl ((hm i).2 (.inr h))
        rcases h with h | h | h
        · exact .inl ((hm i).2 (.inl h))
        · exact .inr h
        · exact .inl ((hm i).2 (.inr h))
      have hM' : ∀ M' : Nat → Prop, (∀ i, M' i → i < W.heap.size → M i) → ¬ M' l ∧ ¬ M' w.heap.size ∧ (∀ i, (M' i ∨ i = l) → i < W.heap.size → Mj i) := fun M' h =>
        ⟨fun h' => hn1 (h l h' hll), fun h' => hn2 (h _ h' hkl), fun i h' hlt => (hm i).2 (h'.imp (fun q => h i q hlt) id)⟩
      have hst : ∀ (M' : Nat → Prop) (W3 : World) (o : Obj), ¬ M' l → ∀ i, i < W3.heap.size → i = l → w.heap.size ≤ i ∧ ¬ M' i := fun M' W3 o h i _ e => by subst e; exact ⟨by omega, h⟩
      rintro e a3 W3 hp
      cases e with
      | normal =>
        obtain ⟨hk3, M', hsub, hi3⟩ := hp
        obtain ⟨hr, hl4, hk4, f4⟩ := fin none W3 hk3
        obtain ⟨q1, q2, q3⟩ := hM' M' hsub
        exact ⟨_, _, hr, fun i => M' i ∨ i = l, f4, q3, .inl ⟨rfl, M', hI _ _ _ _ _ hi3 (fr_putObj W3 l _) (hst M' W3 (.deferred none) q1), fun i => Iff.rfl, q1, q2, hl4, hk4⟩⟩
      | ret =>
        obtain ⟨hk3, M', hsub, hi3⟩ := hp
        obtain ⟨hr, hl4, hk4, f4⟩ := fin (some .ret) W3 hk3
        obtain ⟨q1, q2, q3⟩ := hM' M' hsub
        exact ⟨_, _, hr, fun i => M' i ∨ i = l, f4, q3, .inr ⟨rfl, M', .ret, hIx _ _ _ _ _ _ hi3 (fr_putObj W3 l _) (hst M' W3 (.deferred none) q1), fun i => Iff.rfl, q1, q2, hl4, hk4⟩⟩
      | exit id =>
        obtain ⟨hk3, M', hsub, hi3⟩ := hp
        obtain ⟨hr, hl4, hk4, f4⟩ := fin (some (.exit id)) W3 hk3
        obtain ⟨q1, q2, q3⟩ := hM' M' hsub
        exact ⟨_, _, hr, fun i => M' i ∨ i = l, f4, q3, .inr ⟨rfl, M', .exit id, hIx _ _ _ _ _ _ hi3 (fr_putObj W3 l _) (hst M' W3 (.deferred none) q1), fun i => Iff.rfl, q1, q2, hl4, hk4⟩⟩
      | goto t =>
        obtain ⟨hk3, M', hsub, hi3⟩ := hp
        obtain ⟨hr, hl4, hk4, f4⟩ := fin (some (.goto t)) W3 hk3
        obtain ⟨q1, q2, q3⟩ := hM' M' hsub
        exact ⟨_, _, hr, fun i => M' i ∨ i = l, f4, q3, .inr ⟨rfl, M', .goto t, hIx _ _ _ _ _ _ hi3 (fr_putObj W3 l _) (hst M' W3 (.deferred none) q1), fun i => Iff.rfl, q1, q2, hl4, hk4⟩⟩
      | panic ch => exact hp.elim
      | outgrown => exact hp.elim
    refine (callsIn_wide.2 hcall).mono ?_
    rintro e W2 ⟨⟨v, rfl⟩, Mj', f2, hsub, hJ⟩
    have hfin : ∀ o : Obj, Fr M0 w (W2.putObj l o) := fun o => by
      refine (hb1.no.trans' f2 fun i hi h => ?_).trans' (fr_putObj W2 l o) fun i hi h => ?_
      · rcases h with h | h
        · exact h
        · omega
      · have h' : i = l := h; omega
    rcases hJ with ⟨M, hi, hm, hn1, hn2, hl2, hk2⟩ | ⟨q, hq, M, c, hi, hm, hn1, hn2, hl2, hk2⟩
    · refine ⟨none, _, by have := run_endLoop (P := P) hl2 (by rw [hrec]; simp); rw [hrec] at this; exact this, ?_⟩
      refine hdone _ _ M (hI _ _ _ _ _ hi (fr_putObj W2 l _) (fun i _ e => by have e' : i = l := e; subst e'; exact ⟨by omega, hn1⟩)) (hfin _) (fun i h hlt => ?_) (Nat.le_refl _) ((World.putObj_heap_other (by omega)).trans hk2)
      rcases hsub i ((hm i).2 (.inl h)) (by omega) with h' | h'
      · exact h'
      · omega
    · refine ⟨some c, _, by have := run_endLoop (P := P) hl2 (by rw [hrec]; simp); rw [hrec] at this; exact this, ?_⟩
      refine wpIn_wide.2 (hstop _ _ q _ M hq (hIx _ _ _ _ _ _ hi (fr_putObj W2 l _) (fun i _ e => by have e' : i = l := e; subst e'; exact ⟨by omega, hn1⟩)) (hfin _) (fun i h hlt => ?_) (Nat.le_refl _) ((World.putObj_heap_other (by omega)).trans hk2))
      rcases hsub i ((hm i).2 (.inl h)) (by omega) with h' | h'
      · exact h'
      · omega

end Go.Proofs.Ytihjmipmjogpoaa

/- BrandTables: (*Table).Copy. -/
namespace Go.Proofs.Ytihjmipmjogpoaa
open Go.RowKit

/-- An entry as plain data. -/
def Ent.d (e : Ent) : V × V × Nat := (e.k.v, e.v.v, e.c)

theorem perm_of_mem {α : Type} : ∀ {l1 l2 : List α}, l1.Nodup → l2.Nodup → (∀ x, x ∈ l1 ↔ x ∈ l2) → l1.Perm l2
  | [], l2, _, _, h => by
    cases l2 with
    | nil => exact List.Perm.nil
    | cons y l2 => have := (h y).2 (by simp); simp at this
  | a :: l1, l2, h1, h2, h => by
    obtain ⟨s, t, rfl⟩ := List.append_of_mem ((h a).1 (by simp))
    have hp := List.perm_middle (a := a) (l₁ := s) (l₂ := t)
    have h3 := (hp.nodup_iff).1 h2
    rw [List.nodup_cons] at h1 h3
    refine List.Perm.trans (List.Perm.cons a (perm_of_mem h1.2 h3.2 fun x => ?_)) hp.symm
    have h4 := (h x).trans hp.mem_iff
    simp only [List.mem_cons] at h4
    constructor
    · intro hx
      rcases h4.1 (.inr hx) with rfl | h5
      · exact absurd hx h1.1
      · exact h5
    · intro hx
      rcases h4.2 (.inr hx) with rfl | h5
      · exact absurd hx h3.1
      · exact h5

theorem nodup_of_map {α β : Type} (f : α → β) {l : List α} (h : (l.map f).Nodup) : l.Nodup := by
  have h1 := List.pairwise_map.1 h
  exact h1.imp fun {a b} hab e => hab (congrArg f e)

/-- How far it came, laid into an empty table. -/
theorem Tab.come {w : World} {lo tb M O : Nat} {c0 came : Nat} (hT : Tab w lo w.heap.size tb M O [] c0) (hc : came ≤ 1000000) : Tab (w.setCell ⟨tb, 2, none⟩ (.int .i64 (came : Int))) lo (w.setCell ⟨tb, 2, none⟩ (.int .i64 (came : Int))).heap.size tb M O [] came := by
  have f := (Fr.refl (fun i => i = tb) w).set (p := ⟨tb, 2, none⟩) (fun _ => rfl) (.int .i64 (came : Int))
  have hne := hT.ne
  obtain ⟨es, cl, hm, hme⟩ := hT.m
  obtain ⟨eo, co, ho, hoe⟩ := hT.o
  have hs := f.size
  have a := hT.tb0
  have b := hT.m0
  have c := hT.o0
  refine ⟨?_, ⟨es, cl, (f.block M (by omega) hne.1).trans hm, hme⟩, ⟨eo, co, (f.block O (by omega) hne.2).trans ho, hoe⟩, Forest.nil _ _ _, by omega, by omega, by omega, hT.mo, by simp [trees], by simp [trees], by simp [trees], by simp, by simp, by simp, by simp, hc, fun es2 cl2 h2 => hT.stm es2 cl2 ((f.block M (by omega) hne.1).symm.trans h2)⟩
  have := hT.blk.set_ 2 (.int .i64 (came : Int))
  simpa using this

/-- Where Copy's loop stands: what has been handed out, what is laid. -/
structure CpI (w : World) (M cl : Nat) (es : Array MapEntry) (l : List Ent) (came tb1 M1 O1 rI : Nat) (v : List (MapEntry × Ent)) (l2 : List Ent) (wr : World) : Prop where
  fr : Fr No w wr
  it : wr.heap[rI]? = some (.mapIter (some M) cl (v.map fun p => p.1.born).toArray cl)
  nd : (v.map fun p => p.1.born).Nodup
  sub : ∀ p ∈ v, p ∈ es.toList.zip l
  rows : l2.map Ent.d = v.map fun p => p.2.d
  tab : Tab wr w.heap.size wr.heap.size tb1 M1 O1 l2 came
  rn : ¬ tabBlocks tb1 M1 O1 l2 rI
  r0 : w.heap.size ≤ rI

theorem zip_mem {es : List MapEntry} {l : List Ent} (hl : es.length = l.length) {e : MapEntry} (he : e ∈ es) : ∃ (i : Nat) (x : Ent), es[i]? = some e ∧ l[i]? = some x ∧ (e, x) ∈ es.zip l := by
  obtain ⟨i, hi, rfl⟩ := List.mem_iff_getElem.1 he
  have hi' : i < l.length := by omega
  refine ⟨i, l[i], List.getElem?_eq_getElem hi, List.getElem?_eq_getElem hi', List.mem_iff_getElem.2 ⟨i, by simp; omega, by simp⟩⟩

theorem zip_at {es : List MapEntry} {l : List Ent} {p : MapEntry × Ent} (h : p ∈ es.zip l) : ∃ i : Nat, es[i]? = some p.1 ∧ l[i]? = some p.2 := by
  obtain ⟨i, hi, rfl⟩ := List.mem_iff_getElem.1 h
  simp at hi
  exact ⟨i, by simp, by simp⟩

/-- At the end all have been handed out. -/
theorem CpI.all {w wr : World} {M cl : Nat} {es : Array MapEntry} {l : List Ent} {came tb1 M1 O1 rI : Nat} {v : List (MapEntry × Ent)} {l2 : List Ent} (inv : CpI w M cl es l came tb1 M1 O1 rI v l2 wr) (hl : es.toList.length = l.length) (hnd : (es.toList.map (·.born)).Nodup)
    (h0 : (leftOf es (v.map fun p => p.1.born).toArray).size = 0) : (l2.map Ent.d).Perm (l.map Ent.d) := by
  have hzf : (es.toList.zip l).map (fun p => p.1) = es.toList := by
    rw [show (fun p : MapEntry × Ent => p.1) = Prod.fst from rfl, List.map_fst_zip]
    omega
  have hzs : (es.toList.zip l).map (fun p => p.2) = l := by
    rw [show (fun p : MapEntry × Ent => p.2) = Prod.snd from rfl, List.map_snd_zip]
    omega
  have hzb : ((es.toList.zip l).map fun p => p.1.born).Nodup := by
    have : ((es.toList.zip l).map fun p => p.1.born) = es.toList.map (·.born) := by
      conv => rhs; rw [← hzf]
      rw [List.map_map]
      rfl
    rw [this]
    exact hnd
  have hn1 : v.Nodup := nodup_of_map _ inv.nd
  have hn2 : (es.toList.zip l).Nodup := nodup_of_map _ hzb
  have hinj : ∀ p q, p ∈ es.toList.zip l → q ∈ es.toList.zip l → p.1.born = q.1.born → p = q := by
    intro p q hp hq h
    obtain ⟨i, hi, rfl⟩ := List.mem_iff_getElem.1 hp
    obtain ⟨j, hj, rfl⟩ := List.mem_iff_getElem.1 hq
    have h1 := List.pairwise_iff_getElem.1 hzb
    rcases Nat.lt_trichotomy i j with hlt | rfl | hlt
    · exact absurd (by rw [List.getElem_map, List.getElem_map]; exact h) (h1 i j (by simpa using hi) (by simpa using hj) hlt)
    · rfl
    · exact absurd (by rw [List.getElem_map, List.getElem_map]; exact h.symm) (h1 j i (by simpa using hj) (by simpa using hi) hlt)
  have hp : v.Perm (es.toList.zip l) := perm_of_mem hn1 hn2 fun p => ⟨inv.sub p, fun hp => by
    obtain ⟨i, he, hx⟩ := zip_at hp
    have hem : p.1 ∈ es := by have := List.mem_of_getElem? he; simpa using this
    have hc : (v.map fun p => p.1.born).toArray.contains p.1.born = true := by
      cases hc : (v.map fun p => p.1.born).toArray.contains p.1.born with
      | true => rfl
      | false =>
        have : p.1 ∈ leftOf es (v.map fun p => p.1.born).toArray := Array.mem_filter.2 ⟨hem, by simp at hc ⊢; exact hc⟩
        rw [Array.eq_empty_of_size_eq_zero h0] at this
        simp at this
    have hm : p.1.born ∈ v.map fun p => p.1.born := by simpa [Array.contains_iff_mem] using hc
    obtain ⟨q, hq, hb⟩ := List.mem_map.1 hm
    rw [← hinj q p (inv.sub _ hq) hp hb]
    exact hq⟩
  rw [inv.rows]
  have h2 := hp.map fun p => p.2.d
  have h3 : (es.toList.zip l).map (fun p => p.2.d) = l.map Ent.d := by
    conv => rhs; rw [← hzs]
    rw [List.map_map]
    rfl
  rw [h3] at h2
  exact h2

end Go.Proofs.Ytihjmipmjogpoaa

/- BrandTables: (*Table).Copy: one entry laid. -/
namespace Go.Proofs.Ytihjmipmjogpoaa
open Go.RowKit

/-- An entry more, whichever came. -/
theorem Tab.lay {w w' : World} {lo tb M O : Nat} {l : List Ent} {came : Nat} (hT : Tab w lo w.heap.size tb M O l came) (fr : Fr (fun i => i = M ∨ i = O) w w')
    {n : Int} {es eo : Array MapEntry} {c1 c2 b1 b2 : Nat} {m val : Value} (hes : EntsAre es.toList l) (heo : OrdsAre eo.toList l)
    (hM : w'.heap[M]? = some (.map (es.push { key := m, val := val, born := b1 }) c1)) (hO : w'.heap[O]? = some (.map (eo.push { key := .int .i64 n, val := m, born := b2 }) c2))
    (x : Ent) (hx : n = (x.c : Int)) (hx1 : 1 ≤ x.c) (hx2 : x.c ≤ came) (hx3 : ∀ e ∈ l, e.c ≠ x.c) {p q p' q' : Nat} (hk : x.k.Ow w' p q) (hv : x.v.Ow w' p' q') (h0 : w.heap.size ≤ p) (h1 : p ≤ q) (h2 : q ≤ p') (h3 : p' ≤ q') (h4 : q' ≤ w'.heap.size) (hmk : IsMk x.k.v m) (hval : val = x.val)
    (hp : pos x.k.v (l.map fun e => e.k.v) = none) (hm1 : x.k.v.may = true) (hm2 : x.k.v.keys = true) (hm3 : x.v.v.may = true) (hst : Stm es.toList b1) (hb1 : b1 < c1) :
    Tab w' lo w'.heap.size tb M O (l ++ [x]) came := by
  have hne := hT.ne
  have a := hT.tb0
  have b := hT.m0
  have c := hT.o0
  have hs := fr.size
  have F0 := (hT.forest.frB fr (Nat.le_refl _) (by
    rintro b hib (rfl | rfl)
    · exact hT.outm hib
    · exact hT.outo hib)).more (Nat.le_refl _) h0
  have F1 := (F0.snoc hk (by omega) h1).more (Nat.le_refl lo) h2
  have F2 := (F1.snoc hv (by omega) h3).more (Nat.le_refl lo) h4
  have ht : trees (l ++ [x]) = trees l ++ [x.k] ++ [x.v] := by simp [trees]
  have hbk := fun i (hi : i ∈ x.k.blocks) => T.In.blocks x.k hk.inn i hi
  have hbv := fun i (hi : i ∈ x.v.blocks) => T.In.blocks x.v hv.inn i hi
  have hout : ∀ i, i < w.heap.size → i ∉ ((trees l).map T.blocks).flatten → i ∉ ((trees (l ++ [x])).map T.blocks).flatten := by
    intro i hi hn hm
    rw [ht] at hm
    simp only [List.map_append, List.flatten_append, List.mem_append, List.map_cons, List.map_nil, List.flatten_cons, List.flatten_nil, List.append_nil] at hm
    rcases hm with (hm | hm) | hm
    · exact hn hm
    · have := hbk i hm; omega
    · have := hbv i hm; omega
  have hlast : ∀ {P : Ent → Prop}, (∀ e ∈ l, P e) → P x → ∀ e ∈ l ++ [x], P e := by
    intro P h h' e he
    rcases List.mem_append.1 he with he | he
    · exact h e he
    · simp at he; subst he; exact h'
  refine ⟨hT.blk.fr fr (by rintro (h | h) <;> omega), ⟨_, _, hM, ?_, ?_⟩, ⟨_, _, hO, ?_, ?_⟩, by rw [ht]; exact F2, by omega, by omega, by omega, hT.mo, hout _ (by omega) hT.out, hout _ (by omega) hT.outm, hout _ (by omega) hT.outo, hlast hT.may ⟨hm1, hm2, hm3⟩, ?_, ?_, hlast hT.cran ⟨hx1, hx2⟩, hT.came0, fun es2 cl2 h2 => ?_⟩
  · simp [hes.1]
  · intro i e y he hy
    rw [Array.toList_push] at he
    rcases Nat.lt_trichotomy i l.length with h | h | h
    · rw [List.getElem?_append_left (by rw [hes.1]; exact h)] at he
      rw [List.getElem?_append_left h] at hy
      exact hes.2 i e y he hy
    · rw [List.getElem?_append_right (by rw [hes.1]; omega), hes.1, h] at he
      rw [List.getElem?_append_right (by omega), h] at hy
      simp at he hy
      subst he; subst hy
      exact ⟨hmk, hval⟩
    · rw [List.getElem?_eq_none (by simp; omega)] at hy; cases hy
  · simp [heo.1]
  · intro i e y he hy
    rw [Array.toList_push] at he
    rcases Nat.lt_trichotomy i l.length with h | h | h
    · rw [List.getElem?_append_left (by rw [heo.1]; exact h)] at he
      rw [List.getElem?_append_left h] at hy
      exact heo.2 i e y he hy
    · rw [List.getElem?_append_right (by rw [heo.1]; omega), heo.1, h] at he
      rw [List.getElem?_append_right (by omega), h] at hy
      simp at he hy
      subst he; subst hy
      exact ⟨by rw [hx], hmk⟩
    · rw [List.getElem?_eq_none (by simp; omega)] at hy; cases hy
  · rw [List.pairwise_append]
    refine ⟨hT.dist, by simp, fun e he y hy => ?_⟩
    simp at hy; subst hy
    intro heq
    exact absurd (List.mem_map_of_mem (f := fun e : Ent => e.k.v) he) (by rw [heq]; exact pos_none hm1 hm2 (fun v hv => by obtain ⟨e, he, rfl⟩ := List.mem_map.1 hv; exact (hT.may e he).1) hp)
  · rw [List.pairwise_append]
    refine ⟨hT.cdist, by simp, fun e he y hy => ?_⟩
    simp at hy; subst hy
    exact hx3 e he
  · rw [hM] at h2
    injection h2 with h2
    injection h2 with h3 h4
    subst h3 h4
    rw [Array.toList_push]
    refine ⟨fun y hy => ?_, ?_⟩
    · rcases List.mem_append.1 hy with hy | hy
      · have := hst.1 y hy; omega
      · simp at hy; subst hy; exact hb1
    · rw [List.map_append, List.nodup_append]
      refine ⟨hst.2, by simp, fun a ha b hb e => ?_⟩
      obtain ⟨y, hy, rfl⟩ := List.mem_map.1 ha
      simp at hb
      have := hst.1 y hy
      omega

end Go.Proofs.Ytihjmipmjogpoaa

/- BrandTables: (*Table).Copy: the statement that lays an entry's copy, whichever operations have come up. -/
namespace Go.Proofs.Ytihjmipmjogpoaa
open Go.RowKit

theorem upd_get {f : Nat → Bool} {xs : List Value} {E : Nat → Value} (h : ∀ j, f j = true → xs.getD j undef = E j) {i : Nat} (hi : i < xs.length) : ∀ j, upd f i j = true → (xs.set i (E i)).getD j undef = E j := by
  intro j hj
  by_cases hij : i = j
  · subst hij
    simp [hi]
  · have : f j = true := by
      simp only [upd, Bool.or_eq_true, beq_iff_eq] at hj
      rcases hj with hj | hj
      · exact absurd hj.symm hij
      · exact hj
    have := h j this
    simp only [List.getD_eq_getElem?_getD, List.getElem?_set_ne hij] at this ⊢
    exact this

/-- What each operation gives. -/
def cpE (tb1 M1 g5 : Nat) (mk : Value) (kc vc : Value) (xc : Int) (tk tv : T) : Nat → Value
  | 0 => .pointer (some ⟨tb1, 0, none⟩)
  | 1 => .pointer (some ⟨tb1, 0, none⟩)
  | 2 => .pointer (some ⟨tb1, 0, none⟩)
  | 3 => .map (some M1)
  | 4 => mk
  | 5 => .pointer (some ⟨g5, 0, none⟩)
  | 6 => kc
  | 7 => tk.val
  | 8 => .pointer (some ⟨g5, 5, none⟩)
  | 9 => vc
  | 10 => tv.val
  | 11 => .pointer (some ⟨g5, 10, none⟩)
  | 12 => .int .i64 xc
  | 13 => .agg (tk.cells ++ (tv.cells ++ [Value.int .i64 xc])).toArray
  | _ => undef

theorem cpE_k {tb1 M1 g5 : Nat} {mk kc vc : Value} {xc : Int} {tk tk' tv : T} : ∀ j, j ≠ 7 → j ≠ 13 → cpE tb1 M1 g5 mk kc vc xc tk tv j = cpE tb1 M1 g5 mk kc vc xc tk' tv j
  | 0, _, _ | 1, _, _ | 2, _, _ | 3, _, _ | 4, _, _ | 5, _, _ | 6, _, _ | 8, _, _ | 9, _, _ | 10, _, _ | 11, _, _ | 12, _, _ => rfl
  | 7, h, _ => absurd rfl h
  | 13, _, h => absurd rfl h
  | (_ + 14), _, _ => rfl

theorem cpE_v {tb1 M1 g5 : Nat} {mk kc vc : Value} {xc : Int} {tk tv tv' : T} : ∀ j, j ≠ 10 → j ≠ 13 → cpE tb1 M1 g5 mk kc vc xc tk tv j = cpE tb1 M1 g5 mk kc vc xc tk tv' j
  | 0, _, _ | 1, _, _ | 2, _, _ | 3, _, _ | 4, _, _ | 5, _, _ | 6, _, _ | 7, _, _ | 8, _, _ | 9, _, _ | 11, _, _ | 12, _, _ => rfl
  | 10, h, _ => absurd rfl h
  | 13, _, h => absurd rfl h
  | (_ + 14), _, _ => rfl

/-- The copies that there are. -/
structure WJ (W4 : World) (u v : V) (tk tv : T) (b7 b10 : Bool) (w : World) : Prop where
  fr : Fr No W4 w
  ex : ∃ m, W4.heap.size ≤ m ∧ m ≤ w.heap.size ∧ (b7 = true → tk.v = u ∧ tk.Ow w W4.heap.size m) ∧ (b10 = true → b7 = true ∧ tv.v = v ∧ tv.Ow w m w.heap.size)

structure CJ (W4 : World) (u v : V) (E : T → T → Nat → Value) (U : T → T → World → World) (f : Nat → Bool) (x : List Value) (tk tv : T) (w : World) : Prop where
  x : ∀ j, f j = true → x.getD j undef = E tk tv j
  c13 : f 13 = true → f 7 = true ∧ f 10 = true
  c14 : f 14 = true → ∀ j, j < 14 → f j = true
  pre : f 14 = false → WJ W4 u v tk tv (f 7) (f 10) w
  post : f 14 = true → ∃ wb, WJ W4 u v tk tv true true wb ∧ w = U tk tv wb

section
variable {W4 w w' : World} {u v : V} {tb1 M1 g5 : Nat} {mk kc vc : Value} {xc : Int} {U : T → T → World → World} {f : Nat → Bool} {x : List Value} {tk tv : T}

theorem CJ.begin : CJ W4 u v (cpE tb1 M1 g5 mk kc vc xc) U (fun _ => false) x T.zero T.zero W4.drew :=
  ⟨nofun, nofun, nofun, fun _ => ⟨(Fr.refl No W4).drew, W4.heap.size, Nat.le_refl _, Nat.le_refl _, nofun, nofun⟩, nofun⟩

theorem CJ.not14 {E : T → T → Nat → Value} (h : CJ W4 u v E U f x tk tv w) {i : Nat} (hi : i < 14) (hf : f i = false) : f 14 = false := by
  cases h14 : f 14 with
  | false => rfl
  | true => have := h.c14 h14 i hi; rw [hf] at this; cases this

theorem upd_ne {f : Nat → Bool} {i j : Nat} (h : j ≠ i) : upd f i j = f j := by simp [upd, h]
theorem upd_eq {f : Nat → Bool} {i : Nat} : upd f i i = true := by simp [upd]

/-- An operation that leaves memory as it is. -/
theorem CJ.quiet {E : T → T → Nat → Value} (h : CJ W4 u v E U f x tk tv w) {i : Nat} (hf : f i = false) (hi : i < 14) (hi7 : i ≠ 7) (hi10 : i ≠ 10) (h13 : i = 13 → f 7 = true ∧ f 10 = true) (hx : i < x.length) : CJ W4 u v E U (upd f i) (x.set i (E tk tv i)) tk tv w := by
  have h14 := h.not14 hi hf
  have e7 : upd f i 7 = f 7 := upd_ne (by omega)
  have e10 : upd f i 10 = f 10 := upd_ne (by omega)
  have e14 : upd f i 14 = f 14 := upd_ne (by omega)
  refine ⟨upd_get h.x hx, fun h' => ?_, fun h' => ?_, fun _ => ?_, fun h' => ?_⟩
  · rw [e7, e10]
    by_cases h0 : i = 13
    · exact h13 h0
    · rw [upd_ne (by omega)] at h'
      exact h.c13 h'
  · rw [e14, h14] at h'; cases h'
  · rw [e7, e10]; exact h.pre h14
  · rw [e14, h14] at h'; cases h'

theorem CJ.callk (h : CJ W4 u v (cpE tb1 M1 g5 mk kc vc xc) U f x tk tv w) (hf : f 7 = false) {t' : T} (hv : t'.v = u) (ho : t'.Ow w' w.heap.size w'.heap.size) (fr : Fr No w w') (hx : 7 < x.length) : CJ W4 u v (cpE tb1 M1 g5 mk kc vc xc) U (upd f 7) (x.set 7 t'.val) t' tv w' := by
  have h14 := h.not14 (i := 7) (by omega) hf
  have h13 : f 13 = false := by
    cases h13 : f 13 with
    | false => rfl
    | true => have := (h.c13 h13).1; rw [hf] at this; cases this
  obtain ⟨f4, m, hm, hm2, -, hv10⟩ := h.pre h14
  have h10 : f 10 = false := by
    cases h10 : f 10 with
    | false => rfl
    | true => have := (hv10 h10).1; rw [hf] at this; cases this
  refine ⟨?_, fun h' => ?_, fun h' => ?_, fun _ => ⟨f4.trans fr, w'.heap.size, by have := f4.size; have := fr.size; omega, Nat.le_refl _, fun _ => ⟨hv, ho.more f4.size (Nat.le_refl _)⟩, fun h' => ?_⟩, fun h' => ?_⟩
  · refine upd_get (E := cpE tb1 M1 g5 mk kc vc xc t' tv) (fun j hj => ?_) hx
    rw [h.x j hj]
    exact cpE_k j (by rintro rfl; rw [hf] at hj; cases hj) (by rintro rfl; rw [h13] at hj; cases hj)
  · rw [upd_ne (by omega), h13] at h'; cases h'
  · rw [upd_ne (by omega), h14] at h'; cases h'
  · rw [upd_ne (by omega), h10] at h'; cases h'
  · rw [upd_ne (by omega), h14] at h'; cases h'

theorem CJ.callv (h : CJ W4 u v (cpE tb1 M1 g5 mk kc vc xc) U f x tk tv w) (hf : f 10 = false) (h7 : f 7 = true) {t' : T} (hv : t'.v = v) (ho : t'.Ow w' w.heap.size w'.heap.size) (fr : Fr No w w') (hx : 10 < x.length) : CJ W4 u v (cpE tb1 M1 g5 mk kc vc xc) U (upd f 10) (x.set 10 t'.val) tk t' w' := by
  have h14 := h.not14 (i := 10) (by omega) hf
  have h13 : f 13 = false := by
    cases h13 : f 13 with
    | false => rfl
    | true => have := (h.c13 h13).2; rw [hf] at this; cases this
  obtain ⟨f4, m, hm, hm2, hk7, -⟩ := h.pre h14
  refine ⟨?_, fun h' => ?_, fun h' => ?_, fun _ => ⟨f4.trans fr, w.heap.size, f4.size, fr.size, fun _ => ⟨(hk7 h7).1, ((hk7 h7).2.more (Nat.le_refl _) hm2).no fr (Nat.le_refl _)⟩, fun _ => ⟨upd_ne (f := f) (i := 10) (j := 7) (by omega) ▸ h7, hv, ho⟩⟩, fun h' => ?_⟩
  · refine upd_get (E := cpE tb1 M1 g5 mk kc vc xc tk t') (fun j hj => ?_) hx
    rw [h.x j hj]
    exact cpE_v j (by rintro rfl; rw [hf] at hj; cases hj) (by rintro rfl; rw [h13] at hj; cases hj)
  · rw [upd_ne (by omega), h13] at h'; cases h'
  · rw [upd_ne (by omega), h14] at h'; cases h'
  · rw [upd_ne (by omega), h14] at h'; cases h'

theorem CJ.last (h : CJ W4 u v (cpE tb1 M1 g5 mk kc vc xc) U f x tk tv w) (hf : f 14 = false) (hall : ∀ j, j < 14 → f j = true) (hx : x.length = 14) : CJ W4 u v (cpE tb1 M1 g5 mk kc vc xc) U (upd f 14) x tk tv (U tk tv w) := by
  have h7 := hall 7 (by omega)
  have h10 := hall 10 (by omega)
  have hp := h.pre hf
  rw [h7, h10] at hp
  refine ⟨fun j hj => ?_, fun _ => ⟨by rw [upd_ne (by omega)]; exact h7, by rw [upd_ne (by omega)]; exact h10⟩, fun _ j hj => by rw [upd_ne (by omega)]; exact hall j hj, fun h' => ?_, fun _ => ⟨w, hp, rfl⟩⟩
  · by_cases h14 : j = 14
    · subst h14
      simp [cpE, hx]
    · rw [upd_ne h14] at hj
      exact h.x j hj
  · rw [upd_eq] at h'; cases h'
end

end Go.Proofs.Ytihjmipmjogpoaa

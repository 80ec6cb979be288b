/- Texts joined: H1, H2, H5, H6, H7, J1, J2. -/
import Derived.Test.YtihjmipmjogpoaaJn11
import Derived.RangeFuncNested
import Derived.OrdersIn
import Derived.RangeFuncLeaves
import Derived.CallsIn
import Derived.Deep.CutRange
/- A region that draws its order inside the wide fence, by what holds whichever operations have come up; a round among its operations. -/
namespace Go.Proofs.Ytihjmipmjogpoaa
open Go.RowKit

section
variable {P : Program} {ops : Array Oper} {Q : Exit → Act → World → Prop} {n : Nat}

theorem upon_wide {o : Oper} {a : Act} {K : Act → World → Prop} {r : Result Next} (h : o.upon P a K Q r) : o.uponIn Fence.wide n P a K Q r := by
  have hd : ∀ p : Prop, (Fence.wide.depth.isSome = true → p) := fun p h => by simp [Fence.wide] at h
  cases r with
  | ok x w' =>
    cases x with
    | value v => exact h
    | skip => exact h
    | defer d => exact h
    | enter f args => exact ⟨hd _, callsIn_wide.2 h⟩
    | row row args => exact ⟨hd _, fun c cs _ => let ⟨v, w', r, s⟩ := h c cs; ⟨v, w', r, stepsIn_wide.2 s⟩⟩
    | _ => exact h.elim
  | halt x w' =>
    cases x with
    | panic v => exact h
    | _ => exact h.elim

theorem wpIn_of_wp {o : Oper} {a : Act} {w : World} {K : Act → World → Prop} (h : o.wp P a w K Q) : o.wpIn Fence.wide n P a w K Q :=
  ⟨fun _ _ => trivial, upon_wide h⟩

theorem wpAnyIn_inv (I : (Nat → Bool) → Act → World → Prop) (hfw : (List.range ops.size).all (fun i => ((ops[i]?).map fun o => o.after.all fun e => decide (e.on < i)).getD true) = true)
    (hstep : ∀ (i : Nat) (o : Oper) (f : Nat → Bool) (a : Act) (w : World), ops[i]? = some o → f i = false → (∀ e ∈ o.after, Region.binds .any e = true → f e.on = true) → I f a w →
      ∀ K' : Act → World → Prop, Shut (∀ a w, I (upd f i) a w → K' a w) → if Region.wanted o (yielded ops a.tmps) = true then Oper.wpIn Fence.wide n P o a w K' Q else K' (a.put o.dst undef) w)
    (hend : ∀ (f : Nat → Bool) (a : Act) (w : World), (∀ i, i < ops.size → f i = true) → I f a w → Q .normal a w) :
    ∀ (fuel : Nat) (listed : Array Bool) (a : Act) (w : World), listed.size = ops.size → unl listed.toList ≤ fuel → I (fun j => listed.getD j false) a w → wpAnyIn Fence.wide n P .any ops Q fuel listed a w := by
  have hfin : ∀ (listed : Array Bool) (a : Act) (w : World), listed.size = ops.size → I (fun j => listed.getD j false) a w → Region.ready .any ops listed = [] → Q .normal a w := fun listed a w hs hI hr =>
    hend _ a w (ready_all hfw hr hs) hI
  intro fuel
  induction fuel with
  | zero =>
    intro listed a w hs hu hI
    have hr : Region.ready .any ops listed = [] := by
      refine List.eq_nil_iff_forall_not_mem.2 fun j hj => ?_
      obtain ⟨h1, o, ho, -⟩ := mem_ready.1 hj
      have hj2 := (Array.getElem?_eq_some_iff.1 ho).1
      refine unl_zero listed.toList j (by omega) ?_
      have hj3 : j < listed.size := by omega
      simp only [Array.getD, hj3, dif_pos] at h1
      rw [Array.getElem?_toList, Array.getElem?_eq_getElem hj3]
      exact congrArg some h1
    exact ⟨hr, hfin listed a w hs hI hr⟩
  | succ fuel ih =>
    intro listed a w hs hu hI
    refine ⟨hfin listed a w hs hI, fun i hi => ?_⟩
    obtain ⟨h1, o, ho, hd⟩ := mem_ready.1 hi
    have hi2 := (Array.getElem?_eq_some_iff.1 ho).1
    have hi3 : i < listed.size := by omega
    have hfalse : listed[i]? = some false := by
      simp only [Array.getD, hi3, dif_pos] at h1
      rw [Array.getElem?_eq_getElem hi3]
      exact congrArg some h1
    have hf : listed.getD i false = false := by
      simp only [Array.getD, hi3, dif_pos] at h1 ⊢
      exact h1
    have hnext : ∀ a' w', I (upd (fun j => listed.getD j false) i) a' w' → wpAnyIn Fence.wide n P .any ops Q fuel (listed.setIfInBounds i true) a' w' := fun a' w' hI' => by
      refine ih (listed.setIfInBounds i true) a' w' (by simpa using hs) ?_ ?_
      · have := unl_set listed.toList i (by rw [Array.getElem?_toList]; exact hfalse)
        rw [Array.toList_setIfInBounds]
        omega
      · have he : (fun j => (listed.setIfInBounds i true).getD j false) = upd (fun j => listed.getD j false) i := by
          funext j
          simp only [upd, Array.getD_eq_getD_getElem?, Array.getElem?_setIfInBounds]
          by_cases hij : i = j
          · subst hij; simp [hi3]
          · have : ¬ j = i := fun h => hij h.symm
            simp [hij, this]
        rw [he]
        exact hI'
    have hs' := hstep i o _ a w ho hf (fun e he hb => hd e he hb) hI (wpAnyIn Fence.wide n P .any ops Q fuel (listed.setIfInBounds i true)) hnext
    unfold wpOpIn
    rw [ho]
    show if Region.wanted o (yielded ops a.tmps) = true then _ else _
    split
    · rename_i hw; rw [if_pos hw] at hs'; exact hs'
    · rename_i hw; rw [if_neg hw] at hs'; exact ⟨fun _ _ => trivial, hs'⟩

/-- The region. -/
theorem wpIn_region_inv {id : Nat} {a0 : Act} {w0 : World} (I : Act → (Nat → Bool) → Act → World → Prop) (hm : P.follows .mixedOrders = true) (hfw : (List.range ops.size).all (fun i => ((ops[i]?).map fun o => o.after.all fun e => decide (e.on < i)).getD true) = true)
    (hst : I a0 (fun _ => false) a0 w0.drew)
    (hstep : ∀ (i : Nat) (o : Oper) (f : Nat → Bool) (a : Act) (w : World), ops[i]? = some o → f i = false → (∀ e ∈ o.after, Region.binds .any e = true → f e.on = true) → I a0 f a w →
      ∀ K' : Act → World → Prop, Shut (∀ a w, I a0 (upd f i) a w → K' a w) → if Region.wanted o (yielded ops a.tmps) = true then Oper.wpIn Fence.wide n P o a w K' Q else K' (a.put o.dst undef) w)
    (hend : ∀ (f : Nat → Bool) (a : Act) (w : World), (∀ i, i < ops.size → f i = true) → I a0 f a w → Q .normal a w) : (Code.region id ops true).wpIn Fence.wide n P Q a0 w0 := by
  refine wpIn_region_any hm (wpAnyIn_inv (I a0) hfw hstep hend _ _ _ _ (by simp) ?_ ?_)
  · have : ∀ n, unl (List.replicate n false) = n := fun n => by
      induction n with
      | zero => rfl
      | succ n ih => simp only [unl, List.replicate_succ] at ih ⊢; simp
    rw [Array.toList_replicate, this]
    exact Nat.le_refl _
  · have he : (fun j => (Array.replicate ops.size false).getD j false) = fun _ => false := by
      funext j
      simp only [Array.getD_eq_getD_getElem?, Array.getElem?_replicate]
      split <;> rfl
    rw [he]
    exact hst
end

end Go.Proofs.Ytihjmipmjogpoaa

/- A range over a function whose rounds are handed what lies in memory: the caller's law. -/
namespace Go.Proofs.Ytihjmipmjogpoaa
open Go.RowKit

theorem fr_putObj (W : World) (l : Nat) (o : Obj) : Fr (fun i => i = l) W (W.putObj l o) :=
  (Fr.refl _ W).grown (grownBy_putObj' W l o) (fun k hk _ => by cases hk; rfl)

/-- What a round leaves of the book-keeping: the loop's own record as it was, and of what there was M and B alone may have turned. -/
structure RK (l : Nat) (M B : Nat → Prop) (W1 W2 W' : World) : Prop where
  rec_ : W'.heap[l]? = W2.heap[l]?
  fr : Fr (fun i => M i ∨ B i ∨ i = l) W1 W'

/-- How the body of a round may be left. -/
def rpost {α : Type} (l : Nat) (I : List α → (Nat → Prop) → World → Prop) (Ix : Code → List α → (Nat → Prop) → World → Prop) (xs : List α) (M B : Nat → Prop) (W1 W2 : World) : Exit → Act → World → Prop
  | .normal, _, W' => RK l M B W1 W2 W' ∧ ∃ M', (∀ i, M' i → i < W1.heap.size → M i) ∧ I xs M' W'
  | .ret, _, W' => RK l M B W1 W2 W' ∧ ∃ M', (∀ i, M' i → i < W1.heap.size → M i) ∧ Ix .ret xs M' W'
  | .exit id, _, W' => RK l M B W1 W2 W' ∧ ∃ M', (∀ i, M' i → i < W1.heap.size → M i) ∧ Ix (.exit id) xs M' W'
  | .goto t, _, W' => RK l M B W1 W2 W' ∧ ∃ M', (∀ i, M' i → i < W1.heap.size → M i) ∧ Ix (.goto t) xs M' W'
  | .panic _, _, _ => False
  | .outgrown, _, _ => False

/-- What an iterator does: over whatever holds between two rounds. -/
def Iter {α : Type} (P : Program) (gf : Nat) (lb : Array Value) (Ok : α → Array Value → (Nat → Prop) → World → Prop) (xs : List α) (Av : Nat → Prop) (w : World) : Prop :=
  ∀ (l : Nat) (J Jx : List α → (Nat → Prop) → World → Prop) (W : World) (M : Nat → Prop), Fr No w W → (∀ pre M W W', J pre M W → Fr No W W' → J pre M W') → (∀ pre M W, J pre M W → ∀ i, M i → i < W.heap.size) →
    (∀ pre M W1 x args B, J pre M W1 → pre ++ [x] <+: xs → Ok x args B W1 → (∀ i, B i → W.heap.size ≤ i ∧ i < W1.heap.size ∧ ¬ M i) → YieldAt Fence.wide 2 P l args W1 fun e W' =>
      ∃ M' : Nat → Prop, Fr (fun i => M i ∨ B i) W1 W' ∧ (∀ i, M' i → i < W1.heap.size → M i) ∧ ((e = .returned (.bool true) ∧ J (pre ++ [x]) M' W') ∨ (e = .returned (.bool false) ∧ Jx (pre ++ [x]) M' W'))) →
    (∀ i, M i → i < w.heap.size → ¬ Av i) → J [] M W →
    Calls P gf (#[.func (.yield l) #[] #[]] ++ lb) W fun e W' => (∃ v, e = .returned v) ∧ ∃ M' : Nat → Prop, Fr M W W' ∧ (∀ i, M' i → i < W.heap.size → M i) ∧ (J xs M' W' ∨ ∃ q, q <+: xs ∧ Jx q M' W')

theorem wp_rangeFunc_seq {α : Type} {P : Program} {g : Operand} {ps : Array Tmp} {assign body : Code} {Q : Exit → Act → World → Prop} {a : Act} {w : World} {gf : Nat} {lb : Array Value} (hg : a.eval g = .func (.func gf) #[] lb)
    (eg : ∀ args w, (callFunc gf args).run P w = .ok (.enter gf args) w) {xs : List α} {Ok : α → Array Value → (Nat → Prop) → World → Prop} (hps : ∀ x args B W, Ok x args B W → args.size = ps.size) {Av : Nat → Prop} (hiter : Iter P gf lb Ok xs Av w)
    (I : List α → (Nat → Prop) → World → Prop) (Ix : Code → List α → (Nat → Prop) → World → Prop)
    (hI : ∀ pre M W W' S, I pre M W → Fr S W W' → (∀ i, i < W.heap.size → S i → w.heap.size ≤ i ∧ ¬ M i) → I pre M W')
    (hIx : ∀ c pre M W W' S, Ix c pre M W → Fr S W W' → (∀ i, i < W.heap.size → S i → w.heap.size ≤ i ∧ ¬ M i) → Ix c pre M W')
    (hIlt : ∀ pre M W, I pre M W → ∀ i, M i → i < W.heap.size) (M0 : Nat → Prop) (h0 : I [] M0 w) (hM0 : ∀ i, M0 i → i < w.heap.size ∧ ¬ Av i)
    (Ax : α → Array Value → World → Act → World → Prop)
    (hassign : ∀ l x args B W1, Ok x args B W1 → ∀ K : Act → World → Prop, (∀ a' Wa, Fr No W1 Wa → Ax x args W1 a' Wa → K a' Wa) →
      assign.wpIn (Fence.wide.inRound l) 2 P (Exit.then K (fun _ _ _ => False)) { tmps := (ps.zip args).foldl (fun t (p, v) => t.setIfInBounds p v) a.tmps, defers := [] } W1)
    (hbody : ∀ l pre x args B M W1 a' Wa W2, I pre M W1 → pre ++ [x] <+: xs → Ok x args B W1 → (∀ i, B i → w.heap.size ≤ i ∧ i < W1.heap.size ∧ ¬ M i) → Fr No W1 Wa → Ax x args W1 a' Wa → l < W1.heap.size → ¬ M l → ¬ B l → w.heap.size ≤ l →
      Fr (fun i => i = l) Wa W2 → body.wpIn (Fence.wide.inRound l) 2 P (rpost l I Ix (pre ++ [x]) M B W1 W2) a' W2)
    (hdone : ∀ D W M', I xs M' W → Fr M0 w W → (∀ i, M' i → i < w.heap.size → M0 i) → w.heap.size ≤ D → W.heap[D]? = some (.deferred (some [])) → Q .normal { a with defers := { target := .collected D, args := #[] } :: a.defers } W)
    (hstop : ∀ D c q W M', q <+: xs → Ix c q M' W → Fr M0 w W → (∀ i, M' i → i < w.heap.size → M0 i) → w.heap.size ≤ D → W.heap[D]? = some (.deferred (some [])) → c.wp P Q { a with defers := { target := .collected D, args := #[] } :: a.defers } W) :
    (Code.rangeFunc g ps assign body).wp P Q a w := by
  refine (wpIn_wide (n := 3)).1 ?_
  refine wpIn_rangeFunc ?_
  intro fn hfn
  obtain ⟨rec, hrec⟩ : ∃ rec : LoopState → Option Code → Loop, rec = fun st pe => { state := st, pending := pe, fn, tmps := a.tmps, params := ps, assign, body, defers := w.heap.size } := ⟨_, rfl⟩
  obtain ⟨W1, hW1⟩ : ∃ W1, (w.alloc (.deferred (some []))).alloc (.loop (rec .ready none)) = W1 := ⟨_, rfl⟩
  have hL1 : W1.heap[w.heap.size + 1]? = some (.loop (rec .ready none)) := by
    rw [← hW1]; have := World.alloc_heap_new (w.alloc (.deferred (some []))) (.loop (rec .ready none)); rwa [World.size_alloc] at this
  have hK1 : W1.heap[w.heap.size]? = some (.deferred (some [])) := by
    rw [← hW1]; exact (Below.heap_alloc _ _ _ (by simp)).trans (World.alloc_heap_new w _)
  have hb1 : Fr No w W1 := by rw [← hW1]; exact ((Fr.refl No w).alloc _).alloc _
  have hz1 : W1.heap.size = w.heap.size + 1 + 1 := by rw [← hW1]; simp
  refine ⟨w.heap.size + 1, [{ target := .collected w.heap.size, args := #[] }], W1, { target := .fn (.func gf) lb, args := #[.func (.yield (w.heap.size + 1)) #[] #[]] }, W1, gf,
    #[.func (.yield (w.heap.size + 1)) #[] #[]] ++ lb, W1, ?_, ?_, ?_, ?_, (fun h => by cases h), ?_⟩
  · rw [← hW1, hrec]; exact run_enterLoop_outer _ _ _ _ _
  · simp only [resolve, hg]
    simp [go_sem]
  · intro f' _; trivial
  · simp [invoke, go_sem, eg]
  · obtain ⟨l, hl⟩ : ∃ l, w.heap.size + 1 = l := ⟨_, rfl⟩
    rw [hl] at hL1 ⊢
    have hJ0 : ∀ i, (M0 i ∨ i = l) → i < w.heap.size → ¬ Av i := fun i h hlt => by
      rcases h with h | h
      · exact (hM0 i h).2
      · omega
    have hcall := hiter l
      (fun pre Mj W => ∃ M : Nat → Prop, I pre M W ∧ (∀ i, Mj i ↔ (M i ∨ i = l)) ∧ ¬ M l ∧ ¬ M w.heap.size ∧ W.heap[l]? = some (.loop (rec .ready none)) ∧ W.heap[w.heap.size]? = some (.deferred (some [])))
      (fun pre Mj W => ∃ (M : Nat → Prop) (c : Code), Ix c pre M W ∧ (∀ i, Mj i ↔ (M i ∨ i = l)) ∧ ¬ M l ∧ ¬ M w.heap.size ∧ W.heap[l]? = some (.loop (rec .done (some c))) ∧ W.heap[w.heap.size]? = some (.deferred (some [])))
      W1 (fun i => M0 i ∨ i = l) hb1 ?hno ?hlt ?hround hJ0 ?h0
    case hno =>
      rintro pre Mj W W' ⟨M, hi, hm, hn1, hn2, hl1, hk1⟩ f
      exact ⟨M, hI _ _ _ _ No hi f (fun _ _ h => h.elim), hm, hn1, hn2, (f.block l (Array.getElem?_eq_some_iff.1 hl1).1 (fun h => h)).trans hl1, (f.block _ (Array.getElem?_eq_some_iff.1 hk1).1 (fun h => h)).trans hk1⟩
    case hlt =>
      rintro pre Mj W ⟨M, hi, hm, hn1, hn2, hl1, hk1⟩ i hji
      rcases (hm i).1 hji with h | rfl
      · exact hIlt _ _ _ hi i h
      · exact (Array.getElem?_eq_some_iff.1 hl1).1
    case h0 => exact ⟨M0, hI _ _ _ _ No h0 hb1 (fun _ _ h => h.elim), fun i => Iff.rfl, fun h => by have := (hM0 _ h).1; omega, fun h => by have := (hM0 _ h).1; omega, hL1, hK1⟩
    case hround =>
      rintro pre Mj W x args B ⟨M, hi, hm, hn1, hn2, hl1, hk1⟩ hlen hok hB
      have hll : l < W.heap.size := (Array.getElem?_eq_some_iff.1 hl1).1
      have hkl : w.heap.size < W.heap.size := (Array.getElem?_eq_some_iff.1 hk1).1
      have hBl : ¬ B l := fun h => (hB l h).2.2 ((hm l).2 (.inr rfl))
      have hBk : ¬ B w.heap.size := fun h => by have := (hB _ h).1; omega
      have hy := run_yield (P := P) (args := args) hl1 (by rw [hrec]; exact hps x args B W hok)
      rw [hrec] at hy
      refine ⟨fn, _, assign, body, hy, roundIn_of_wpIn hfn (hassign l x args B W hok _ ?_)⟩
      clear hy
      intro a' Wa fa hax
      have hla : Wa.heap[l]? = some (.loop (rec .ready none)) := (fa.block l hll (fun h => h)).trans hl1
      have hka : Wa.heap[w.heap.size]? = some (.deferred (some [])) := (fa.block _ hkl (fun h => h)).trans hk1
      have hlta : l < Wa.heap.size := (Array.getElem?_eq_some_iff.1 hla).1
      refine ⟨_, run_beginRound hla (by rw [hrec]), ?_⟩
      have hl2 : (Wa.putObj l (.loop { rec .ready none with state := .busy })).heap[l]? = some (.loop { rec .ready none with state := .busy }) := World.putObj_heap_same hlta
      refine wpIn_mono (hbody l pre x args B M W a' Wa _ hi hlen hok (fun i h => ⟨by have := (hB i h).1; omega, (hB i h).2.1, fun h' => (hB i h).2.2 ((hm i).2 (.inl h'))⟩) fa hax hll hn1 hBl (by omega) (fr_putObj Wa l _)) ?_
      have fin : ∀ (jump : Option Code) (W3 : World), RK l M B W (Wa.putObj l (.loop { rec .ready none with state := .busy })) W3 →
          (Instr.endRound l jump).run P W3 = .ok (.bool jump.isNone) (W3.putObj l (.loop (rec (if jump.isNone then .ready else .done) jump))) ∧
          (W3.putObj l (.loop (rec (if jump.isNone then .ready else .done) jump))).heap[l]? = some (.loop (rec (if jump.isNone then .ready else .done) jump)) ∧
          (W3.putObj l (.loop (rec (if jump.isNone then .ready else .done) jump))).heap[w.heap.size]? = some (.deferred (some [])) ∧
          Fr (fun i => Mj i ∨ B i) W (W3.putObj l (.loop (rec (if jump.isNone then .ready else .done) jump))) := fun jump W3 hk3 => by
        have hl3 := hk3.rec_.trans hl2
        have hd3 : W3.heap[w.heap.size]? = some (.deferred (some [])) := (hk3.fr.block _ hkl (fun h => by rcases h with h | h | h; exact hn2 h; exact hBk h; omega)).trans hk1
        have := run_endRound (P := P) jump hl3
        rw [hrec] at this ⊢
        refine ⟨this, World.putObj_heap_same (Array.getElem?_eq_some_iff.1 hl3).1, (World.putObj_heap_other (by omega)).trans hd3, ?_⟩
        refine (hk3.fr.mono (S' := fun i => Mj i ∨ B i) fun i _ h => ?_).trans' (fr_putObj W3 l _) fun i _ h => .inl ((hm i).2 (.inr h))
        rcases h with h | h | h
        · exact .inl ((hm i).2 (.inl h))
        · exact .inr h
        · exact .inl ((hm i).2 (.inr h))
      have hM' : ∀ M' : Nat → Prop, (∀ i, M' i → i < W.heap.size → M i) → ¬ M' l ∧ ¬ M' w.heap.size ∧ (∀ i, (M' i ∨ i = l) → i < W.heap.size → Mj i) := fun M' h =>
        ⟨fun h' => hn1 (h l h' hll), fun h' => hn2 (h _ h' hkl), fun i h' hlt => (hm i).2 (h'.imp (fun q => h i q hlt) id)⟩
      have hst : ∀ (M' : Nat → Prop) (W3 : World) (o : Obj), ¬ M' l → ∀ i, i < W3.heap.size → i = l → w.heap.size ≤ i ∧ ¬ M' i := fun M' W3 o h i _ e => by subst e; exact ⟨by omega, h⟩
      rintro e a3 W3 hp
      cases e with
      | normal =>
        obtain ⟨hk3, M', hsub, hi3⟩ := hp
        obtain ⟨hr, hl4, hk4, f4⟩ := fin none W3 hk3
        obtain ⟨q1, q2, q3⟩ := hM' M' hsub
        exact ⟨_, _, hr, fun i => M' i ∨ i = l, f4, q3, .inl ⟨rfl, M', hI _ _ _ _ _ hi3 (fr_putObj W3 l _) (hst M' W3 (.deferred none) q1), fun i => Iff.rfl, q1, q2, hl4, hk4⟩⟩
      | ret =>
        obtain ⟨hk3, M', hsub, hi3⟩ := hp
        obtain ⟨hr, hl4, hk4, f4⟩ := fin (some .ret) W3 hk3
        obtain ⟨q1, q2, q3⟩ := hM' M' hsub
        exact ⟨_, _, hr, fun i => M' i ∨ i = l, f4, q3, .inr ⟨rfl, M', .ret, hIx _ _ _ _ _ _ hi3 (fr_putObj W3 l _) (hst M' W3 (.deferred none) q1), fun i => Iff.rfl, q1, q2, hl4, hk4⟩⟩
      | exit id =>
        obtain ⟨hk3, M', hsub, hi3⟩ := hp
        obtain ⟨hr, hl4, hk4, f4⟩ := fin (some (.exit id)) W3 hk3
        obtain ⟨q1, q2, q3⟩ := hM' M' hsub
        exact ⟨_, _, hr, fun i => M' i ∨ i = l, f4, q3, .inr ⟨rfl, M', .exit id, hIx _ _ _ _ _ _ hi3 (fr_putObj W3 l _) (hst M' W3 (.deferred none) q1), fun i => Iff.rfl, q1, q2, hl4, hk4⟩⟩
      | goto t =>
        obtain ⟨hk3, M', hsub, hi3⟩ := hp
        obtain ⟨hr, hl4, hk4, f4⟩ := fin (some (.goto t)) W3 hk3
        obtain ⟨q1, q2, q3⟩ := hM' M' hsub
        exact ⟨_, _, hr, fun i => M' i ∨ i = l, f4, q3, .inr ⟨rfl, M', .goto t, hIx _ _ _ _ _ _ hi3 (fr_putObj W3 l _) (hst M' W3 (.deferred none) q1), fun i => Iff.rfl, q1, q2, hl4, hk4⟩⟩
      | panic ch => exact hp.elim
      | outgrown => exact hp.elim
    refine (callsIn_wide.2 hcall).mono ?_
    rintro e W2 ⟨⟨v, rfl⟩, Mj', f2, hsub, hJ⟩
    have hfin : ∀ o : Obj, Fr M0 w (W2.putObj l o) := fun o => by
      refine (hb1.no.trans' f2 fun i hi h => ?_).trans' (fr_putObj W2 l o) fun i hi h => ?_
      · rcases h with h | h
        · exact h
        · omega
      · have h' : i = l := h; omega
    rcases hJ with ⟨M, hi, hm, hn1, hn2, hl2, hk2⟩ | ⟨q, hq, M, c, hi, hm, hn1, hn2, hl2, hk2⟩
    · refine ⟨none, _, by have := run_endLoop (P := P) hl2 (by rw [hrec]; simp); rw [hrec] at this; exact this, ?_⟩
      refine hdone _ _ M (hI _ _ _ _ _ hi (fr_putObj W2 l _) (fun i _ e => by have e' : i = l := e; subst e'; exact ⟨by omega, hn1⟩)) (hfin _) (fun i h hlt => ?_) (Nat.le_refl _) ((World.putObj_heap_other (by omega)).trans hk2)
      rcases hsub i ((hm i).2 (.inl h)) (by omega) with h' | h'
      · exact h'
      · omega
    · refine ⟨some c, _, by have := run_endLoop (P := P) hl2 (by rw [hrec]; simp); rw [hrec] at this; exact this, ?_⟩
      refine wpIn_wide.2 (hstop _ _ q _ M hq (hIx _ _ _ _ _ _ hi (fr_putObj W2 l _) (fun i _ e => by have e' : i = l := e; subst e'; exact ⟨by omega, hn1⟩)) (hfin _) (fun i h hlt => ?_) (Nat.le_refl _) ((World.putObj_heap_other (by omega)).trans hk2))
      rcases hsub i ((hm i).2 (.inl h)) (by omega) with h' | h'
      · exact h'
      · omega

end Go.Proofs.Ytihjmipmjogpoaa

/- Chapter 2: Each's functions: what is told of a value, each part in memory of its own. -/
namespace Go.Proofs.Ytihjmipmjogpoaa
open Go.RowKit

/-- What a round is handed: a place and a value, in memory of their own. -/
structure OkV (x : List Int × V) (W : World) (base : Nat) (A : Option Addr) (c : Nat) (t : T) : Prop where
  place : OwnI W base A c x.1
  sh : t.Sh W base W.heap.size
  v : t.v = x.2
  sep : ∀ b ∈ t.blocks, (Value.slice A x.1.length c).ownBlock ≠ some b
  rng : ∀ y ∈ x.1, -9223372036854775808 ≤ y ∧ y ≤ 9223372036854775807
  len : x.1.length * 8 ≤ 140737488351232

def OkB (x : List Int × V) (A : Option Addr) (c : Nat) (t : T) (i : Nat) : Prop := (Value.slice A x.1.length c).ownBlock = some i ∨ i ∈ t.blocks

/-- .. as arguments. -/
def OkP (x : List Int × V) (args : Array Value) (B : Nat → Prop) (W : World) : Prop :=
  ∃ (A : Option Addr) (c : Nat) (t : T) (base : Nat), args = #[.agg (.slice A x.1.length c :: t.cells).toArray] ∧ B = OkB x A c t ∧ OkV x W base A c t

/-- Where 107 stands ahead of its call of yield. -/
structure C5 (W1 : World) (p : List Int) (x : T) (l gb : Nat) (f : Nat → Bool) (x6 x7 x8 x9 x10 x11 : Value) (A : Option Addr) (cap : Nat) (A' : Option Addr) (c' : Nat) (t' : T) (w : World) : Prop where
  fr : Fr No W1 w
  l6 : f 0 = true → x6 = .func (.yield l) #[] #[]
  m7 : f 1 = true → x7 = .slice A p.length cap
  c8 : f 2 = true → f 1 = true ∧ x8 = .slice A' p.length c' ∧ OwnI w W1.heap.size A' c' p
  l9 : f 3 = true → x9 = x.val
  c10 : f 4 = true → f 3 = true ∧ x10 = t'.val ∧ t'.v = x.v ∧ t'.Sh w W1.heap.size w.heap.size
  sep : f 2 = true → f 4 = true → ∀ b ∈ t'.blocks, (Value.slice A' p.length c').ownBlock ≠ some b
  b11 : f 5 = true → f 2 = true ∧ f 4 = true ∧ x11 = .agg (.slice A' p.length c' :: t'.cells).toArray

section
variable {W1 w w' : World} {p : List Int} {x : T} {l gb : Nat} {f : Nat → Bool} {x6 x7 x8 x9 x10 x11 : Value} {A : Option Addr} {cap : Nat} {A' : Option Addr} {c' : Nat} {t' : T}

theorem C5.begin : C5 W1 p x l gb (fun _ => false) x6 x7 x8 x9 x10 x11 A cap none 0 x W1.drew :=
  ⟨(Fr.refl No W1).drew, nofun, nofun, nofun, nofun, nofun, nofun, nofun⟩

theorem C5.load0 (h : C5 W1 p x l gb f x6 x7 x8 x9 x10 x11 A cap A' c' t' w) : C5 W1 p x l gb (upd f 0) (.func (.yield l) #[] #[]) x7 x8 x9 x10 x11 A cap A' c' t' w :=
  ⟨h.fr, fun _ => rfl, h.m7, h.c8, h.l9, h.c10, h.sep, h.b11⟩
theorem C5.move1 (h : C5 W1 p x l gb f x6 x7 x8 x9 x10 x11 A cap A' c' t' w) : C5 W1 p x l gb (upd f 1) x6 (.slice A p.length cap) x8 x9 x10 x11 A cap A' c' t' w :=
  ⟨h.fr, h.l6, fun _ => rfl, fun h2 => ⟨rfl, (h.c8 h2).2⟩, h.l9, h.c10, h.sep, h.b11⟩
theorem C5.load3 (h : C5 W1 p x l gb f x6 x7 x8 x9 x10 x11 A cap A' c' t' w) : C5 W1 p x l gb (upd f 3) x6 x7 x8 x.val x10 x11 A cap A' c' t' w :=
  ⟨h.fr, h.l6, h.m7, h.c8, fun _ => rfl, fun h4 => ⟨rfl, (h.c10 h4).2⟩, h.sep, h.b11⟩
theorem C5.call2 (h : C5 W1 p x l gb f x6 x7 x8 x9 x10 x11 A cap A' c' t' w) (hf : f 2 = false) (h1 : f 1 = true) {A2 : Option Addr} {c2 : Nat} (ho : OwnI w' w.heap.size A2 c2 p) (fr : Fr No w w') :
    C5 W1 p x l gb (upd f 2) x6 x7 (.slice A2 p.length c2) x9 x10 x11 A cap A2 c2 t' w' := by
  have hs := h.fr.size
  refine ⟨h.fr.trans fr, h.l6, h.m7, fun _ => ⟨h1, rfl, owns_mono ho hs⟩, h.l9, fun h4 => ⟨(h.c10 h4).1, (h.c10 h4).2.1, (h.c10 h4).2.2.1, ((h.c10 h4).2.2.2.no fr).more (Nat.le_refl _) fr.size⟩, fun _ h4 b hb e => ?_, fun h5 => ?_⟩
  · have h6 := (T.In.blocks _ (h.c10 h4).2.2.2.inn b hb).2
    have h7 := (owns_lt ho b e).1
    omega
  · have := (h.b11 h5).1; rw [hf] at this; cases this
theorem C5.call4 (h : C5 W1 p x l gb f x6 x7 x8 x9 x10 x11 A cap A' c' t' w) (hf : f 4 = false) (h3 : f 3 = true) {t2 : T} (hv : t2.v = x.v) (hsh : t2.Sh w' w.heap.size w'.heap.size) (fr : Fr No w w') :
    C5 W1 p x l gb (upd f 4) x6 x7 x8 x9 t2.val x11 A cap A' c' t2 w' := by
  have hs := h.fr.size
  refine ⟨h.fr.trans fr, h.l6, h.m7, fun h2 => ⟨(h.c8 h2).1, (h.c8 h2).2.1, owns_fr (h.c8 h2).2.2 fr (fun _ _ h => h)⟩, h.l9, fun _ => ⟨h3, rfl, hv, hsh.more hs (Nat.le_refl _)⟩, fun h2 _ b hb e => ?_, fun h5 => ?_⟩
  · have h6 := (T.In.blocks _ hsh.inn b hb).1
    have h7 := (owns_lt (h.c8 h2).2.2 b e).2
    omega
  · have := (h.b11 h5).2.1; rw [hf] at this; cases this
theorem C5.build5 (h : C5 W1 p x l gb f x6 x7 x8 x9 x10 x11 A cap A' c' t' w) (h2 : f 2 = true) (h4 : f 4 = true) : C5 W1 p x l gb (upd f 5) x6 x7 x8 x9 x10 (.agg (.slice A' p.length c' :: t'.cells).toArray) A cap A' c' t' w :=
  ⟨h.fr, h.l6, h.m7, h.c8, h.l9, h.c10, h.sep, fun _ => ⟨h2, h4, rfl⟩⟩
end

/-- Where 107 stands. -/
structure CI (W1 : World) (p : List Int) (x : T) (l gb : Nat) (Dn : Value → World → Prop) (f : Nat → Bool) (x5 x6 x7 x8 x9 x10 x11 x12 : Value) (A : Option Addr) (cap : Nat) (A' : Option Addr) (c' : Nat) (t' : T) (w : World) : Prop where
  pre : f 6 = false → C5 W1 p x l gb f x6 x7 x8 x9 x10 x11 A cap A' c' t' w
  post : f 6 = true → (∀ i, i < 6 → f i = true) ∧ Dn x12 w
  fin : f 7 = true → f 6 = true ∧ x5 = x12

theorem CI.not6 {W1 w : World} {p : List Int} {x : T} {l gb : Nat} {Dn : Value → World → Prop} {f : Nat → Bool} {x5 x6 x7 x8 x9 x10 x11 x12 : Value} {A : Option Addr} {cap : Nat} {A' : Option Addr} {c' : Nat} {t' : T} (h : CI W1 p x l gb Dn f x5 x6 x7 x8 x9 x10 x11 x12 A cap A' c' t' w) {i : Nat} (hi : i < 6) (hf : f i = false) :
    f 6 = false ∧ f 7 = false := by
  have h6 : f 6 = false := by
    cases h6 : f 6 with
    | false => rfl
    | true => have := (h.post h6).1 i hi; rw [hf] at this; cases this
  refine ⟨h6, ?_⟩
  cases h7 : f 7 with
  | false => rfl
  | true => have := (h.fin h7).1; rw [h6] at this; cases this

theorem CI.up {W1 w w' : World} {p : List Int} {x : T} {l gb : Nat} {Dn : Value → World → Prop} {f : Nat → Bool} {x5 x6 x7 x8 x9 x10 x11 x12 y6 y7 y8 y9 y10 y11 : Value} {A : Option Addr} {cap : Nat} {A' : Option Addr} {c' : Nat} {t' : T} {B' : Option Addr} {d' : Nat} {s' : T} (h : CI W1 p x l gb Dn f x5 x6 x7 x8 x9 x10 x11 x12 A cap A' c' t' w) {i : Nat} (hi : i < 6) (hf : f i = false)
    (hc : C5 W1 p x l gb (upd f i) y6 y7 y8 y9 y10 y11 A cap B' d' s' w') : CI W1 p x l gb Dn (upd f i) x5 y6 y7 y8 y9 y10 y11 x12 A cap B' d' s' w' := by
  obtain ⟨h6, h7⟩ := h.not6 hi hf
  refine ⟨fun _ => hc, fun h' => ?_, fun h' => ?_⟩
  · simp [upd, h6] at h'; omega
  · simp [upd, h7] at h'; omega

end Go.Proofs.Ytihjmipmjogpoaa

/- Chapter 2: Each's functions, as iterators. -/
namespace Go.Proofs.Ytihjmipmjogpoaa
open Go.RowKit

theorem ite_wpIn {P : Program} {n : Nat} {o : Oper} {a : Act} {w : World} {K : Act → World → Prop} {Q : Exit → Act → World → Prop} {c : Prop} [Decidable c] {R : Prop} (h : if c then o.wp P a w K Q else R) : if c then o.wpIn Fence.wide n P a w K Q else R := by
  split
  · rename_i hc; rw [if_pos hc] at h; exact wpIn_of_wp h
  · rename_i hc; rw [if_neg hc] at h; exact h

/-- Between two parts: besides, the box that holds yield. -/
structure J7 (J : List (List Int × V) → (Nat → Prop) → World → Prop) (l gb s0 : Nat) (pre : List (List Int × V)) (M : Nat → Prop) (W : World) : Prop where
  j : J pre M W
  b : Blk W gb 144 #[.func (.yield l) #[] #[]]
  n : ¬ M gb
  s : s0 ≤ W.heap.size

/-- What 107 leaves. -/
def Dn107 (J Jx : List (List Int × V) → (Nat → Prop) → World → Prop) (l gb s0 : Nat) (pre : List (List Int × V)) (M : Nat → Prop) (W : World) (x : List Int × V) (r : Value) (w : World) : Prop :=
  ∃ M' : Nat → Prop, Fr M W w ∧ (∀ i, M' i → i < W.heap.size → M i) ∧ ((r = .bool true ∧ J7 J l gb s0 (pre ++ [x]) M' w) ∨ (r = .bool false ∧ Jx (pre ++ [x]) M' w))

set_option maxRecDepth 100000 in
set_option maxHeartbeats 8000000 in
theorem f107_any {XS : List (List Int × V)} {l gb s0 : Nat} {J Jx : List (List Int × V) → (Nat → Prop) → World → Prop} (hno : ∀ pre M W W', J pre M W → Fr No W W' → J pre M W') (hlt : ∀ pre M W, J pre M W → ∀ i, M i → i < W.heap.size)
    (hround : ∀ pre M W1 x args B, J pre M W1 → pre ++ [x] <+: XS → OkP x args B W1 → (∀ i, B i → s0 ≤ i ∧ i < W1.heap.size ∧ ¬ M i) → YieldAt Fence.wide 2 Try.prog l args W1 fun e W' =>
      ∃ M' : Nat → Prop, Fr (fun i => M i ∨ B i) W1 W' ∧ (∀ i, M' i → i < W1.heap.size → M i) ∧ ((e = .returned (.bool true) ∧ J (pre ++ [x]) M' W') ∨ (e = .returned (.bool false) ∧ Jx (pre ++ [x]) M' W')))
    (pre : List (List Int × V)) (M : Nat → Prop) (W : World) (x : T) (lo hi : Nat) (A : Option Addr) (cap : Nat) (p : List Int) (lo' hi' : Nat) (hlen : pre ++ [(p, x.v)] <+: XS) (hJ : J7 J l gb s0 pre M W) (hx : x.In W lo hi) (hh : hi ≤ W.heap.size)
    (hp : Ints W lo' hi' A cap p) (hh' : hi' ≤ W.heap.size) : Calls Try.prog 107 #[.slice A p.length cap, x.val, .pointer (some ⟨gb, 0, none⟩)] W fun e w' => ∃ b : Bool, e = .returned (.bool b) ∧ Dn107 J Jx l gb s0 pre M W (p, x.v) (.bool b) w' := by
  have hb := hJ.b
  have hcl := fun w' (f : Fr No (W.alloc (.cells x.cells.toArray 27)) w') => cloneI_any A cap p w' lo' hi' (hp.no (((Fr.refl No W).alloc _).trans f) hh') (Nat.le_trans hh' (((Fr.refl No W).alloc _).trans f).size)
  have how := fun w' (f : Fr No (W.alloc (.cells x.cells.toArray 27)) w') => own2_any x w' lo hi (hx.no (((Fr.refl No W).alloc _).trans f) hh) (Nat.le_trans hh (((Fr.refl No W).alloc _).trans f).size)
  have hW1 : Fr No W (W.alloc (.cells x.cells.toArray 27)) := (Fr.refl No W).alloc _
  have hbx := Blk.new W 27 x.cells.toArray
  have hgb1 := hb.alloc (.cells x.cells.toArray 27)
  obtain ⟨XV, hXV⟩ : ∃ XV, x.v = XV := ⟨_, rfl⟩
  rw [hXV] at hlen ⊢
  obtain ⟨k, n, s, B0, cb, la, r⟩ := x
  rw [T.val_mk] at *
  have hcx : (T.mk k n s B0 cb la r).cells.toArray = #[.int .u8 k, .int .i64 n, .string s, .slice B0 la.length cb, .int .i64 r] := rfl
  rw [hcx] at hcl how hW1 hbx hgb1
  obtain ⟨c0, c1, c2, c3, c4, -⟩ := hbx.cells5
  have cg := hgb1.cell 0
  simp only [List.getElem?_toArray, List.getElem?_cons_zero] at cg
  have q0 := hbx.lt
  have q1 := hgb1.lt
  have HCL := hide hcl
  have HOW := hide how
  have HW1 := hide hW1
  have HGB := hide hb
  have HNG := hide hJ.n
  have HS0 := hide hJ.s
  have HJ0 := hide hJ.j
  have HLT := hide (hlt _ _ _ hJ.j)
  have HXE := hide hXV
  have HRG := hide hp.rng
  have HLN := hide hp.len
  clear hcl how hW1 hb hJ hx hp hbx hgb1 hXV hcx
  have hs0 := HS0.out
  go_enter Try.func107, Try.ntmps107
  go_wp2_with fail
  go_upto_region 1 with (fail)
  generalize World.alloc W _ = W1 at *
  refine (wpIn_wide (n := 3)).1 ?_
  refine wpIn_region_inv (I := fun a0 f a w' => ∃ x5 x6 x7 x8 x9 x10 x11 x12 A' c' t', a = ((((((((a0.put (some 5) x5).put (some 6) x6).put (some 7) x7).put (some 8) x8).put (some 9) x9).put (some 10) x10).put (some 11) x11).put (some 12) x12) ∧ CI W1 p (T.mk k n s B0 cb la r) l gb (Dn107 J Jx l gb s0 pre M W (p, XV)) f x5 x6 x7 x8 x9 x10 x11 x12 A cap A' c' t' w') (by kernel_rfl) (by kernel_rfl) ?st ?step ?en
  case st => exact ⟨_, _, _, _, _, _, _, _, _, _, _, rfl, fun _ => C5.begin, nofun, nofun⟩
  case step =>
      rintro i o f a w' ho hf hd ⟨x5, x6, x7, x8, x9, x10, x11, x12, A', c', t', rfl, J⟩ K' hK
      have hi := (Array.getElem?_eq_some_iff.1 ho).1
      simp only [List.size_toArray, List.length_cons, List.length_nil] at hi
      have hid : i = 0 ∨ i = 1 ∨ i = 2 ∨ i = 3 ∨ i = 4 ∨ i = 5 ∨ i = 6 ∨ i = 7 := by omega
      simp only [Act.put, List.setIfInBounds_toArray, List.set_cons_zero, List.set_cons_succ]
      rcases hid with rfl | rfl | rfl | rfl | rfl | rfl | rfl | rfl
      · simp only [List.getElem?_toArray, List.getElem?_cons_succ, List.getElem?_cons_zero, Option.some.injEq] at ho; subst ho
        have C := J.pre (J.not6 (by omega) hf).1
        have hcs := C.fr.cells
        have hsz := C.fr.size
        have hg : gb < w'.heap.size := by omega
        have HJ := hide J
        have HC := hide C
        clear J C hd
        refine ite_wpIn ?_
        go_simp
        exact hK.out _ _ ⟨_, _, _, _, _, _, _, _, _, _, _, by simp only [Act.put, List.setIfInBounds_toArray, List.set_cons_zero, List.set_cons_succ] <;> rfl, HJ.out.up (by omega) hf (HC.out.load0)⟩
      · simp only [List.getElem?_toArray, List.getElem?_cons_succ, List.getElem?_cons_zero, Option.some.injEq] at ho; subst ho
        have C := J.pre (J.not6 (by omega) hf).1
        have HJ := hide J
        have HC := hide C
        clear J C hd
        refine ite_wpIn ?_
        go_simp
        exact hK.out _ _ ⟨_, _, _, _, _, _, _, _, _, _, _, by simp only [Act.put, List.setIfInBounds_toArray, List.set_cons_zero, List.set_cons_succ] <;> rfl, HJ.out.up (by omega) hf (HC.out.move1)⟩
      · simp only [List.getElem?_toArray, List.getElem?_cons_succ, List.getElem?_cons_zero, Option.some.injEq] at ho; subst ho
        have C := J.pre (J.not6 (by omega) hf).1
        have h1 := hd ⟨1, .data⟩ (by simp) (by rfl)
        have h0 := C.m7 h1
        subst h0
        have HH1 := hide h1
        clear h1
        have HJ := hide J
        have HC := hide C
        clear J C hd
        refine ite_wpIn ?_
        go_simp
        go_at_call 108
        refine (HCL.out _ HC.out.fr).mono ?_
        rintro e w4 ⟨A2, c2, rfl, ho2, f4⟩
        exact hK.out _ _ ⟨_, _, _, _, _, _, _, _, _, _, _, by simp only [Act.put, List.setIfInBounds_toArray, List.set_cons_zero, List.set_cons_succ] <;> rfl, HJ.out.up (by omega) hf (HC.out.call2 hf HH1.out ho2 f4)⟩
      · simp only [List.getElem?_toArray, List.getElem?_cons_succ, List.getElem?_cons_zero, Option.some.injEq] at ho; subst ho
        have C := J.pre (J.not6 (by omega) hf).1
        have hcs := C.fr.cells
        have hsz := C.fr.size
        have hg : W.heap.size < w'.heap.size := by omega
        have HJ := hide J
        have HC := hide C
        clear J C hd
        refine ite_wpIn ?_
        go_simp
        exact hK.out _ _ ⟨_, _, _, _, _, _, _, _, _, _, _, by simp only [Act.put, List.setIfInBounds_toArray, List.set_cons_zero, List.set_cons_succ] <;> rfl, HJ.out.up (by omega) hf (HC.out.load3)⟩
      · simp only [List.getElem?_toArray, List.getElem?_cons_succ, List.getElem?_cons_zero, Option.some.injEq] at ho; subst ho
        have C := J.pre (J.not6 (by omega) hf).1
        have h1 := hd ⟨3, .data⟩ (by simp) (by rfl)
        have h0 := C.l9 h1
        rw [T.val_mk] at h0
        subst h0
        have HH1 := hide h1
        clear h1
        have HJ := hide J
        have HC := hide C
        clear J C hd
        refine ite_wpIn ?_
        go_simp
        go_at_call 104
        refine (HOW.out _ HC.out.fr).mono ?_
        rintro e w4 ⟨t2, rfl, hv2, hsh2, f4⟩
        exact hK.out _ _ ⟨_, _, _, _, _, _, _, _, _, _, _, by simp only [Act.put, List.setIfInBounds_toArray, List.set_cons_zero, List.set_cons_succ] <;> rfl, HJ.out.up (by omega) hf (HC.out.call4 hf HH1.out hv2 hsh2 f4)⟩
      · simp only [List.getElem?_toArray, List.getElem?_cons_succ, List.getElem?_cons_zero, Option.some.injEq] at ho; subst ho
        have C := J.pre (J.not6 (by omega) hf).1
        have h2 := hd ⟨2, .data⟩ (by simp) (by rfl)
        have h4 := hd ⟨4, .data⟩ (by simp) (by rfl)
        obtain ⟨-, rfl, -⟩ := C.c8 h2
        obtain ⟨-, e10, -, -⟩ := C.c10 h4
        obtain ⟨k5, n5, s5, A5, cap5, l5, r5⟩ := t'
        rw [T.val_mk] at e10
        subst e10
        have HH2 := hide h2
        have HH4 := hide h4
        clear h2 h4
        have HJ := hide J
        have HC := hide C
        clear J C hd
        refine ite_wpIn ?_
        go_simp
        exact hK.out _ _ ⟨_, _, _, _, _, _, _, _, _, _, _, by simp only [Act.put, List.setIfInBounds_toArray, List.set_cons_zero, List.set_cons_succ] <;> rfl, HJ.out.up (by omega) hf (HC.out.build5 HH2.out HH4.out)⟩
      · simp only [List.getElem?_toArray, List.getElem?_cons_succ, List.getElem?_cons_zero, Option.some.injEq] at ho; subst ho
        have h0 := hd ⟨0, .data⟩ (by simp) (by rfl)
        have h5 := hd ⟨5, .data⟩ (by simp) (by rfl)
        have C := J.pre hf
        obtain ⟨k5, n5, s5, A5, cap5, l5, r5⟩ := t'
        obtain ⟨h2, h4, e11⟩ := C.b11 h5
        have e11' : x11 = .agg #[.slice A' p.length c', .int .u8 k5, .int .i64 n5, .string s5, .slice A5 l5.length cap5, .int .i64 r5] := e11
        clear e11
        subst e11'
        obtain ⟨h1, rfl, hown⟩ := C.c8 h2
        obtain ⟨h3, rfl, hv, hsh⟩ := C.c10 h4
        have e6 := C.l6 h0
        subst e6
        have hsep := C.sep h2 h4
        have hfr : Fr No W w' := HW1.out.trans C.fr
        have hlow := HW1.out.size
        have hsz := C.fr.size
        have hB : ∀ i, OkB (p, XV) A' c' (T.mk k5 n5 s5 A5 cap5 l5 r5) i → W1.heap.size ≤ i ∧ i < w'.heap.size := fun i hi => by
          rcases hi with hi | hi
          · exact owns_lt hown i hi
          · exact T.In.blocks _ hsh.inn i hi
        obtain ⟨fn, tmps, assign, body, hy, hR⟩ := hround pre M w' (p, XV) #[.agg #[.slice A' p.length c', .int .u8 k5, .int .i64 n5, .string s5, .slice A5 l5.length cap5, .int .i64 r5]] _ (hno _ _ _ _ HJ0.out hfr) hlen ⟨A', c', T.mk k5 n5 s5 A5 cap5 l5 r5, W1.heap.size, rfl, rfl, hown, hsh, hv.trans HXE.out, hsep, HRG.out, HLN.out⟩ (fun i hi => ⟨by have := hB i hi; omega, (hB i hi).2, fun h => by have := hB i hi; have := HLT.out i h; omega⟩)
        have hall : ∀ i, i < 6 → f i = true := fun i hi => by
          have : i = 0 ∨ i = 1 ∨ i = 2 ∨ i = 3 ∨ i = 4 ∨ i = 5 := by omega
          rcases this with rfl | rfl | rfl | rfl | rfl | rfl <;> assumption
        have h7 : f 7 = false := by
          cases h7 : f 7 with
          | false => rfl
          | true => have := (J.fin h7).1; rw [hf] at this; cases this
        have HALL := hide hall
        have H7 := hide h7
        have HBB := hide hB
        have HFR := hide hfr
        clear J C hd h0 h1 h2 h3 h4 h5 hown hv hsh hsep hall h7 hB hfr
        go_simp
        refine hR.mono ?_
        rintro e w4 ⟨M', f4, hsub, hres⟩
        have hDn : ∃ b : Bool, e = .returned (.bool b) ∧ Dn107 J Jx l gb s0 pre M W (p, XV) (.bool b) w4 := by
          have hF : Fr M W w4 := (HFR.out.no (S := M)).trans' f4 fun i hi h => by
            rcases h with h | h
            · exact h
            · have := (HBB.out i h).1; omega
          have hgbW := HGB.out.lt
          have hb4 : Blk w4 gb 144 #[.func (.yield l) #[] #[]] := (HGB.out.fr HFR.out fun h => h).fr f4 (fun h => by
            rcases h with h | h
            · exact HNG.out h
            · have := (HBB.out _ h).1; omega)
          rcases hres with ⟨rfl, hj⟩ | ⟨rfl, hj⟩
          · exact ⟨true, rfl, M', hF, fun i h1 h2 => hsub i h1 (by have := HFR.out.size; omega), .inl ⟨rfl, hj, hb4, fun h => HNG.out (hsub gb h (by have := HFR.out.size; omega)), by have := f4.size; omega⟩⟩
          · exact ⟨false, rfl, M', hF, fun i h1 h2 => hsub i h1 (by have := HFR.out.size; omega), .inr ⟨rfl, hj⟩⟩
        obtain ⟨b, rfl, hDn⟩ := hDn
        exact hK.out _ _ ⟨_, _, _, _, _, _, _, _, A', c', T.mk k5 n5 s5 A5 cap5 l5 r5, by simp only [Act.put, List.setIfInBounds_toArray, List.set_cons_zero, List.set_cons_succ] <;> rfl, ⟨fun h => by simp [upd] at h, fun _ => ⟨fun i hi => by simp only [upd, Bool.or_eq_true]; exact .inr (HALL.out i hi), hDn⟩, fun h => by simp [upd, H7.out] at h⟩⟩
      · simp only [List.getElem?_toArray, List.getElem?_cons_succ, List.getElem?_cons_zero, Option.some.injEq] at ho; subst ho
        have h6 := hd ⟨6, .data⟩ (by simp) (by rfl)
        have HH6 := hide h6
        have HJ := hide J
        clear J hd h6
        refine ite_wpIn ?_
        go_simp
        exact hK.out _ _ ⟨_, _, _, _, _, _, _, _, A', c', t', by simp only [Act.put, List.setIfInBounds_toArray, List.set_cons_zero, List.set_cons_succ] <;> rfl, ⟨fun h => by have h' : (6 == 7 || f 6) = false := h; rw [HH6.out] at h'; simp at h', fun _ => ⟨fun i hi => by simp only [upd, Bool.or_eq_true]; exact .inr ((HJ.out.post HH6.out).1 i hi), (HJ.out.post HH6.out).2⟩, fun _ => ⟨by simp [upd, HH6.out], rfl⟩⟩⟩
  case en =>
      rintro f a w' hall ⟨x5, x6, x7, x8, x9, x10, x11, x12, A', c', t', rfl, J⟩
      have h6 : f 6 = true := hall 6 (by simp)
      have h7 : f 7 = true := hall 7 (by simp)
      obtain ⟨-, hDn⟩ := J.post h6
      obtain ⟨-, rfl⟩ := J.fin h7
      have hb : ∃ b : Bool, x5 = .bool b := by
        obtain ⟨M', -, -, ⟨rfl, -⟩ | ⟨rfl, -⟩⟩ := hDn
        · exact ⟨true, rfl⟩
        · exact ⟨false, rfl⟩
      obtain ⟨b, rfl⟩ := hb
      have HD := hide hDn
      clear J hDn h6 h7 hall
      simp only [Act.put, List.setIfInBounds_toArray, List.set_cons_zero, List.set_cons_succ]
      go_wp2_with fail
      go_ret
      exact ⟨b, rfl, HD.out⟩

end Go.Proofs.Ytihjmipmjogpoaa

/- Chapter 2: Each's functions, as iterators. -/
namespace Go.Proofs.Ytihjmipmjogpoaa
open Go.RowKit

theorem y107 {XS : List (List Int × V)} {l gb s0 : Nat} {J Jx : List (List Int × V) → (Nat → Prop) → World → Prop} (hno : ∀ pre M W W', J pre M W → Fr No W W' → J pre M W') (hlt : ∀ pre M W, J pre M W → ∀ i, M i → i < W.heap.size)
    (hround : ∀ pre M W1 x args B, J pre M W1 → pre ++ [x] <+: XS → OkP x args B W1 → (∀ i, B i → s0 ≤ i ∧ i < W1.heap.size ∧ ¬ M i) → YieldAt Fence.wide 2 Try.prog l args W1 fun e W' =>
      ∃ M' : Nat → Prop, Fr (fun i => M i ∨ B i) W1 W' ∧ (∀ i, M' i → i < W1.heap.size → M i) ∧ ((e = .returned (.bool true) ∧ J (pre ++ [x]) M' W') ∨ (e = .returned (.bool false) ∧ Jx (pre ++ [x]) M' W'))) :
    YieldsN XS 107 #[.pointer (some ⟨gb, 0, none⟩)] (J7 J l gb s0) Jx where
  enters := enters_fn2 Try.func107 (by kernel_rfl) rfl
  call := fun pre M W x lo hi A cap p lo' hi' hl hJ hx hh _ hp hh' _ => (f107_any hno hlt hround pre M W x lo hi A cap p lo' hi' hl hJ hx hh hp hh').mono fun e W' ⟨b, he, M', h1, h2, h3⟩ => by
    refine ⟨M', h1, h2, ?_⟩
    rcases h3 with ⟨hb, h3⟩ | ⟨hb, h3⟩
    · exact .inl ⟨by rw [he, hb], h3⟩
    · exact .inr ⟨by rw [he, hb], h3⟩
  no := fun h f => ⟨hno _ _ _ _ h.j f, h.b.fr f fun h => h, h.n, Nat.le_trans h.s f.size⟩
  lt := fun pre M W h => hlt _ _ _ h.j

set_option maxRecDepth 100000 in
set_option maxHeartbeats 4000000 in
theorem iter105 (t : T) (gv lo hi : Nat) (w : World) (hB : Blk w gv 27 t.cells.toArray) (hin : t.In w lo hi) (hh : hi ≤ w.heap.size) (hht : t.v.ht ≤ 1000) : Iter Try.prog 105 #[.pointer (some ⟨gv, 0, none⟩)] OkP (t.v.walk []) (fun i => lo ≤ i ∧ i < hi) w := by
  intro l J Jx W M hf hno hlt hround hAv hJ
  have hMlt := hlt _ _ _ hJ
  have f1 : Fr No W (W.alloc (.cells #[.func (.yield l) #[] #[]] 144)) := (Fr.refl No W).alloc _
  have hbW := hB.fr hf fun h => h
  have hb1 := Blk.new W 144 #[.func (.yield l) #[] #[]]
  have hJ7 : J7 J l W.heap.size W.heap.size [] M (W.alloc (.cells #[.func (.yield l) #[] #[]] 144)) := ⟨hno _ _ _ _ hJ f1, hb1, fun h => by have := hMlt _ h; omega, f1.size⟩
  have hsw := hf.size
  have hw := walkN_any (y107 (XS := t.v.walk []) (l := l) (gb := W.heap.size) (s0 := W.heap.size) (J := J) (Jx := Jx) hno hlt hround) t [] M (W.alloc (.cells #[.func (.yield l) #[] #[]] 144)) lo hi none 0 [] 0 0 hJ7 (hin.no (hf.trans f1) hh) (Nat.le_trans (by omega : hi ≤ W.heap.size) f1.size) (fun i h0 h1 h2 => hAv i h2 (by omega) ⟨h0, h1⟩) (ints_nil _) (Nat.zero_le _) (fun i h0 h1 => by omega) (by simp; omega) (by simp)
  obtain ⟨XV, hXV⟩ : ∃ XV, t.v.walk [] = XV := ⟨_, rfl⟩
  rw [hXV] at hw ⊢
  obtain ⟨k, n, s, A, cap, la, r⟩ := t
  rw [T.val_mk] at hw
  have hcx : (T.mk k n s A cap la r).cells.toArray = #[.int .u8 k, .int .i64 n, .string s, .slice A la.length cap, .int .i64 r] := rfl
  rw [hcx] at hbW
  have hbW1 := hbW.alloc (.cells #[.func (.yield l) #[] #[]] 144)
  obtain ⟨c0, c1, c2, c3, c4, -⟩ := hbW1.cells5
  have q0 := hbW1.lt
  have HW := hide hw
  have HF1 := hide f1
  clear hw hJ7 hJ hbW hbW1 hb1 hXV hB hin hround hno hlt hAv f1 hcx
  go_enter Try.func105, Try.ntmps105
  go_wp2_with fail
  refine HW.out.mono ?_
  rintro e w2 ⟨M', f2, hsub, hres⟩
  have hpost : (∃ v, e = .returned v) ∧ Fr M W w2 ∧ (∀ i, M' i → i < W.heap.size → M i) ∧ (J XV M' w2 ∨ ∃ q, q <+: XV ∧ Jx q M' w2) := by
    have hs1 := HF1.out.size
    refine ⟨?_, (HF1.out.no (S := M)).trans f2, fun i h1 h2 => hsub i h1 (by omega), ?_⟩
    · rcases hres with ⟨h, -⟩ | ⟨h, -⟩ <;> exact ⟨_, h⟩
    · rcases hres with ⟨-, h⟩ | ⟨-, q, hq, h⟩
      · exact .inl (by simpa using h.j)
      · exact .inr ⟨q, hq, by simpa using h⟩
  obtain ⟨⟨v, rfl⟩, h1, h2, h3⟩ := hpost
  have H1 := hide h1
  have H2 := hide h2
  have H3 := hide h3
  clear hres f2 hsub h1 h2 h3
  go_wp2
  go_end0
  exact ⟨⟨_, rfl⟩, M', H1.out, H2.out, H3.out⟩

theorem iter103 {α : Type} (Ok : α → Array Value → (Nat → Prop) → World → Prop) (Av : Nat → Prop) (w : World) : Iter Try.prog 103 #[] Ok [] Av w := by
  intro l J Jx W M hf hno hlt hround hAv hJ
  have HJ := hide hJ
  clear hJ hround hno hlt
  go_enter Try.func103, Try.ntmps103
  go_wp2
  go_end0
  exact ⟨⟨_, rfl⟩, M, Fr.refl _ _, fun _ h _ => h, .inl HJ.out⟩

end Go.Proofs.Ytihjmipmjogpoaa

/- Chapter 2: a part put in the place of another one: in memory of one's own, and as plain data. -/
namespace Go.Proofs.Ytihjmipmjogpoaa
open Go.RowKit

/-- The parts of a tree. -/
def T.kids : T → List T
  | .mk _ _ _ _ _ l _ => l
def T.base : T → Option Addr
  | .mk _ _ _ A _ _ _ => A

/-- One step down: the spot and the part that stands there. -/
def stp (q : (Nat × Nat) × T) (i : Nat) : (Nat × Nat) × T :=
  match q.2.base, q.2.kids[i]? with
  | some a, some x => ((a.block, i * 5), x)
  | _, _ => q

/-- Where a place leads, from a spot. -/
def loc (p : List Nat) (bo : Nat × Nat) (t : T) : (Nat × Nat) × T := p.foldl stp (bo, t)

theorem loc_nil (bo : Nat × Nat) (t : T) : loc [] bo t = (bo, t) := rfl
theorem loc_cons (i : Nat) (p : List Nat) (bo : Nat × Nat) (k n : Int) (s : ByteArray) (a : Addr) (cap : Nat) (l : List T) (r : Int) (y : T) (h : l[i]? = some y) :
    loc (i :: p) bo (.mk k n s (some a) cap l r) = loc p (a.block, i * 5) y := by
  simp only [loc, List.foldl_cons, stp, T.base, T.kids, h]
theorem loc_snoc (i : Nat) (p : List Nat) (bo : Nat × Nat) (t : T) : loc (p ++ [i]) bo t = stp (loc p bo t) i := by
  simp only [loc, List.foldl_append, List.foldl_cons, List.foldl_nil]

/-- A tree with another part at a place. -/
def T.put : List Nat → T → T → T
  | [], x, _ => x
  | i :: p, x, .mk k n s A cap l r => .mk k n s A cap (match l[i]? with | some y => l.set i (T.put p x y) | none => l) r

theorem T.put_cons {i : Nat} {p : List Nat} {x : T} {k n : Int} {s : ByteArray} {A : Option Addr} {cap : Nat} {l : List T} {r : Int} {y : T} (h : l[i]? = some y) :
    T.put (i :: p) x (.mk k n s A cap l r) = .mk k n s A cap (l.set i (T.put p x y)) r := by
  simp only [T.put, h]

/-- A value with another part at a place. -/
def V.put : List Int → V → V → V
  | [], x, _ => x
  | i :: p, x, .mk k n s l r => .mk k n s (match l[i.toNat]? with | some y => l.set i.toNat (V.put p x y) | none => l) r

theorem V.put_cons {i : Int} {p : List Int} {x : V} {k n : Int} {s : ByteArray} {l : List V} {r : Int} {y : V} (h : l[i.toNat]? = some y) :
    V.put (i :: p) x (.mk k n s l r) = .mk k n s (l.set i.toNat (V.put p x y)) r := by
  simp only [V.put, h]

theorem T.put_v (p : List Nat) (x : T) : ∀ t : T, (T.put p x t).v = V.put (p.map fun i : Nat => (i : Int)) x.v t.v := by
  induction p with
  | nil => intro t; rfl
  | cons i p ih =>
    intro t
    cases t with
    | mk k n s A cap l r =>
      rw [T.v_mk, List.map_cons]
      cases h : l[i]? with
      | none => simp only [T.put, V.put, h, T.v_mk, Int.toNat_natCast, List.getElem?_map, Option.map_none]
      | some y =>
        rw [T.put_cons h, V.put_cons (y := y.v) (by rw [Int.toNat_natCast, List.getElem?_map, h]; rfl), T.v_mk, List.map_set, ih, Int.toNat_natCast]

/-- A row in which one part has turned. -/
theorem perm_set {l : List T} {i : Nat} {y x : T} (h : l[i]? = some y) : ∀ b, b ∈ ((l.set i x).map T.blocks).flatten → b ∈ x.blocks ∨ ∃ j z, j ≠ i ∧ l[j]? = some z ∧ b ∈ z.blocks := by
  intro b hb
  obtain ⟨L, hL, hb⟩ := List.mem_flatten.1 hb
  obtain ⟨z, hz, rfl⟩ := List.mem_map.1 hL
  obtain ⟨j, hj, rfl⟩ := List.mem_iff_getElem.1 hz
  rw [List.getElem_set] at hb
  split at hb
  · exact .inl hb
  · rename_i hne
    rw [List.length_set] at hj
    exact .inr ⟨j, l[j], fun h => hne h.symm, List.getElem?_eq_getElem hj, hb⟩

theorem nodup_set {l : List T} {i : Nat} {y x : T} (h : l[i]? = some y) (hn : (l.map T.blocks).flatten.Nodup) (hx : x.blocks.Nodup) (hd : ∀ b ∈ x.blocks, ∀ j z, j ≠ i → l[j]? = some z → b ∉ z.blocks) : ((l.set i x).map T.blocks).flatten.Nodup := by
  induction l generalizing i with
  | nil => simp at h
  | cons a l ih =>
    rw [List.map_cons, List.flatten_cons, List.nodup_append] at hn
    obtain ⟨n1, n2, n3⟩ := hn
    cases i with
    | zero =>
      rw [List.set_cons_zero, List.map_cons, List.flatten_cons, List.nodup_append]
      refine ⟨hx, n2, fun b hb c hc e => ?_⟩
      subst e
      obtain ⟨L, hL, hc⟩ := List.mem_flatten.1 hc
      obtain ⟨z, hz, rfl⟩ := List.mem_map.1 hL
      obtain ⟨j, hj, rfl⟩ := List.mem_iff_getElem.1 hz
      exact hd b hb (j + 1) l[j] (by omega) (by simp [hj]) hc
    | succ i =>
      simp only [List.getElem?_cons_succ] at h
      rw [List.set_cons_succ, List.map_cons, List.flatten_cons, List.nodup_append]
      refine ⟨n1, ih h n2 (fun b hb j z hj hz => hd b hb (j + 1) z (by omega) (by simpa using hz)), fun b hb c hc e => ?_⟩
      subst e
      rcases perm_set h b hc with h1 | ⟨j, z, hj, hz, h1⟩
      · exact hd b h1 0 a (by omega) rfl hb
      · exact n3 b hb b (List.mem_flatten.2 ⟨_, List.mem_map_of_mem (List.mem_of_getElem? hz), h1⟩) rfl

/-- Five cells written over. -/
def five (w : World) (g o : Nat) (k n : Int) (s : ByteArray) (A : Option Addr) (len cap : Nat) (r : Int) : World :=
  ((((w.setCell ⟨g, o, none⟩ (.int .u8 k)).setCell ⟨g, o + 1, none⟩ (.int .i64 n)).setCell ⟨g, o + 2, none⟩ (.string s)).setCell ⟨g, o + 3, none⟩ (.slice A len cap)).setCell ⟨g, o + 4, none⟩ (.int .i64 r)

theorem five_fr (w : World) (g o : Nat) (k n : Int) (s : ByteArray) (A : Option Addr) (len cap : Nat) (r : Int) : Fr (fun i => i = g) w (five w g o k n s A len cap r) :=
  (Fr.refl (fun i => i = g) w).five (g := g) (fun _ => rfl) o _ _ _ _ _

/-- A part of one's own, stored where a place leads: the tree that is then there. -/
theorem put_store {w : World} {lo hi lo2 hi2 : Nat} {kx nx : Int} {sx : ByteArray} {Ax : Option Addr} {cx : Nat} {lx : List T} {rx : Int} (p : List Nat) :
    ∀ (t : T) (b o : Nat), t.Sp w lo hi → t.blocks.Nodup → b ∉ t.blocks → (∃ y, vAt (p.map fun i : Nat => (i : Int)) t.v = some y) →
      (T.mk kx nx sx Ax cx lx rx).Sp (five w (loc p (b, o) t).1.1 (loc p (b, o) t).1.2 kx nx sx Ax lx.length cx rx) lo2 hi2 → (T.mk kx nx sx Ax cx lx rx).blocks.Nodup → (∀ i ∈ (T.mk kx nx sx Ax cx lx rx).blocks, i ∉ t.blocks) → lo ≤ lo2 → hi ≤ hi2 →
      (T.put p (T.mk kx nx sx Ax cx lx rx) t).Sp (five w (loc p (b, o) t).1.1 (loc p (b, o) t).1.2 kx nx sx Ax lx.length cx rx) lo hi2 ∧ (T.put p (T.mk kx nx sx Ax cx lx rx) t).blocks.Nodup ∧
        (∀ i ∈ (T.put p (T.mk kx nx sx Ax cx lx rx) t).blocks, i ∈ t.blocks ∨ i ∈ (T.mk kx nx sx Ax cx lx rx).blocks) ∧ (p = [] → (loc p (b, o) t).1 = (b, o)) ∧
        (p ≠ [] → (loc p (b, o) t).1.1 ∈ t.blocks ∧ (T.put p (T.mk kx nx sx Ax cx lx rx) t).cells = t.cells) := by
  induction p with
  | nil =>
    intro t b o hsp hnd hb _ hx hxn hxd h0 h1
    exact ⟨T.Sp.more h0 (Nat.le_refl _) _ hx, hxn, fun i hi => .inr hi, fun _ => rfl, fun h => absurd rfl h⟩
  | cons i p ih =>
    intro t b o hsp hnd hb hat hx hxn hxd h0 h1
    cases t with
    | mk k n s A cap l r =>
      rw [T.v_mk, List.map_cons, vAt_cons, if_neg (by omega), Int.toNat_natCast] at hat
      simp only [V.list, List.getElem?_map] at hat
      obtain ⟨fit, h2, h3, h4⟩ := T.sp_mk.1 hsp
      cases hy : l[i]? with
      | none => rw [hy] at hat; obtain ⟨y, hat⟩ := hat; cases hat
      | some y =>
        rw [hy] at hat
        simp only [Option.map_some, Option.bind_some] at hat
        have hmem := List.mem_of_getElem? hy
        have hne : l ≠ [] := by rintro rfl; cases hmem
        obtain ⟨hown, g, rfl, hg⟩ := h3 hne
        have hgl := owns_lt hown g rfl
        rw [loc_cons i p (b, o) k n s ⟨g, 0, none⟩ cap l r y hy] at hx ⊢
        have hgy := sp_child_ne hnd hmem
        have hgb : g ∈ (T.mk k n s (some ⟨g, 0, none⟩) cap l r).blocks := T.mem_blocks hne
        have hyd : ∀ q ∈ (T.mk kx nx sx Ax cx lx rx).blocks, q ∉ y.blocks := fun q hq h => hxd q hq (T.sub_blocks hmem h)
        obtain ⟨e1, e2, e3, e4, e5⟩ := ih y g (i * 5) (h4 y hmem) (sp_child_nodup hnd hmem) hgy hat hx hxn hyd h0 h1
        have hi := (List.getElem?_eq_some_iff.1 hy).1
        have hyi : l[i] = y := (List.getElem?_eq_some_iff.1 hy).2
        rw [T.put_cons hy]
        generalize hL : loc p (g, i * 5) y = L at *
        have F := five_fr w L.1.1 L.1.2 kx nx sx Ax lx.length cx rx
        have hLb : L.1.1 = g ∨ L.1.1 ∈ y.blocks := by
          by_cases hp : p = []
          · rw [e4 hp]; exact .inl rfl
          · exact .inr (e5 hp).1
        have hrow : (five w L.1.1 L.1.2 kx nx sx Ax lx.length cx rx).ownsRow lo 27 5 (.slice (some ⟨g, 0, none⟩) l.length cap) l.length (rowCells (l.set i (T.put p (T.mk kx nx sx Ax cx lx rx) y))) := by
          by_cases hp : p = []
          · subst hp
            rw [e4 rfl]
            exact owns_set5 hown rfl hi kx nx sx Ax cx lx rx
          · rw [row_set_same hy (e5 hp).2]
            refine owns_fr hown F fun g' hg' h => ?_
            simp [Value.ownBlock] at hg'
            subst hg'
            have h' : g = L.1.1 := h
            exact hgy (h' ▸ (e5 hp).1)
        have hsib : ∀ j (hj : j < l.length), j ≠ i → l[j].Sp (five w L.1.1 L.1.2 kx nx sx Ax lx.length cx rx) lo hi2 := fun j hj hji => by
          refine T.Sp.more (Nat.le_refl _) h1 _ (T.Sp.fr F _ (fun q hq h => ?_) (h4 _ (List.getElem_mem hj)))
          have h' : q = L.1.1 := h
          rcases hLb with hb' | hb'
          · rw [h', hb'] at hq
            exact sp_child_ne hnd (List.getElem_mem hj) hq
          · rw [← h', ← hyi] at hb'
            rcases Nat.lt_or_gt_of_ne hji with hlt | hgt
            · exact sp_child_far hnd hj hi hlt hb' hq
            · exact sp_child_far hnd hi hj hgt hq hb'
        have hfl : (l.map T.blocks).flatten.Nodup := by
          rw [T.blocks_mk, List.nodup_append] at hnd
          exact hnd.2.1
        have hpd : ∀ q ∈ (T.put p (T.mk kx nx sx Ax cx lx rx) y).blocks, ∀ j z, j ≠ i → l[j]? = some z → q ∉ z.blocks := fun q hq j z hji hz hqz => by
          obtain ⟨hj, rfl⟩ := List.getElem?_eq_some_iff.1 hz
          rcases e3 q hq with h | h
          · rw [← hyi] at h
            rcases Nat.lt_or_gt_of_ne hji with hlt | hgt
            · exact sp_child_far hnd hj hi hlt h hqz
            · exact sp_child_far hnd hi hj hgt hqz h
          · exact hxd q h (T.sub_blocks (List.getElem_mem hj) hqz)
        have hne2 : l.set i (T.put p (T.mk kx nx sx Ax cx lx rx) y) ≠ [] := by simpa using hne
        have hblk : (T.mk k n s (some ⟨g, 0, none⟩) cap (l.set i (T.put p (T.mk kx nx sx Ax cx lx rx) y)) r).blocks = g :: ((l.set i (T.put p (T.mk kx nx sx Ax cx lx rx) y)).map T.blocks).flatten := by
          rw [T.blocks_mk]
          cases hq : l.set i (T.put p (T.mk kx nx sx Ax cx lx rx) y) with
          | nil => exact absurd hq hne2
          | cons => rfl
        have hin : ∀ q ∈ (T.mk k n s (some ⟨g, 0, none⟩) cap (l.set i (T.put p (T.mk kx nx sx Ax cx lx rx) y)) r).blocks, q ∈ (T.mk k n s (some ⟨g, 0, none⟩) cap l r).blocks ∨ q ∈ (T.mk kx nx sx Ax cx lx rx).blocks := fun q hq => by
          rw [hblk] at hq
          rcases List.mem_cons.1 hq with rfl | hq
          · exact .inl hgb
          · rcases perm_set hy q hq with h | ⟨j, z, _, hz, h⟩
            · rcases e3 q h with h | h
              · exact .inl (T.sub_blocks hmem h)
              · exact .inr h
            · exact .inl (T.sub_blocks (List.mem_of_getElem? hz) h)
        refine ⟨?_, ?_, hin, fun h => (by cases h), fun _ => ⟨?_, ?_⟩⟩
        · refine T.sp_mk.2 ⟨by simpa using fit, fun h => absurd h hne2, fun _ => ⟨by simpa using hrow, g, rfl, by omega⟩, fun z hz => ?_⟩
          obtain ⟨j, hj, rfl⟩ := List.mem_iff_getElem.1 hz
          rw [List.getElem_set]
          split
          · exact e1
          · rename_i hne3
            exact hsib j (by simpa using hj) (fun h => hne3 h.symm)
        · rw [hblk, List.nodup_cons]
          refine ⟨fun h => ?_, nodup_set hy hfl e2 hpd⟩
          rcases perm_set hy g h with h | ⟨j, z, _, hz, h⟩
          · rcases e3 g h with h | h
            · exact hgy h
            · exact hxd g h hgb
          · exact sp_child_ne hnd (List.mem_of_getElem? hz) h
        · rcases hLb with h | h
          · rw [h]; exact hgb
          · exact T.sub_blocks hmem h
        · simp [T.cells]

end Go.Proofs.Ytihjmipmjogpoaa

/- Chapter 2: where a place leads: what lies there. -/
namespace Go.Proofs.Ytihjmipmjogpoaa
open Go.RowKit

theorem vAt_append (p q : List Int) : ∀ v : V, vAt (p ++ q) v = (vAt p v).bind (vAt q) := by
  induction p with
  | nil => intro v; rfl
  | cons i p ih =>
    intro v
    rw [List.cons_append, vAt_cons, vAt_cons]
    split
    · rfl
    · rw [Option.bind_assoc]
      exact congrArg _ (funext fun x => ih x)

/-- A place that leads somewhere is of natural numbers. -/
theorem vAt_nat (p : List Int) : ∀ v y, vAt p v = some y → ∃ pn : List Nat, p = pn.map fun i : Nat => (i : Int) := by
  induction p with
  | nil => intro v y _; exact ⟨[], rfl⟩
  | cons i p ih =>
    intro v y h
    rw [vAt_cons] at h
    split at h
    · cases h
    · rename_i hi
      obtain ⟨x, _, h2⟩ := Option.bind_eq_some_iff.1 h
      obtain ⟨pn, rfl⟩ := ih x y h2
      exact ⟨i.toNat :: pn, by rw [List.map_cons, Int.toNat_of_nonneg (by omega)]⟩

/-- What lies where a place leads, in memory of one's own. -/
theorem loc_five {w : World} {lo hi : Nat} (p : List Nat) : ∀ (t : T) (b o : Nat) (y : V), t.Sp w lo hi → Five w b o t → (∀ i, w.frozen? ⟨b, i, none⟩ = false) → vAt (p.map fun i : Nat => (i : Int)) t.v = some y →
    (loc p (b, o) t).2.Sp w lo hi ∧ Five w (loc p (b, o) t).1.1 (loc p (b, o) t).1.2 (loc p (b, o) t).2 ∧ (loc p (b, o) t).2.v = y ∧ (∀ i, w.frozen? ⟨(loc p (b, o) t).1.1, i, none⟩ = false) ∧ ((loc p (b, o) t).1.1 = b ∨ (loc p (b, o) t).1.1 < w.heap.size) := by
  induction p with
  | nil =>
    intro t b o y hsp h5 hf hat
    exact ⟨hsp, h5, (Option.some.inj hat), hf, .inl rfl⟩
  | cons i p ih =>
    intro t b o y hsp h5 hf hat
    cases t with
    | mk k n s A cap l r =>
      rw [T.v_mk, List.map_cons, vAt_cons, if_neg (by omega), Int.toNat_natCast] at hat
      simp only [V.list, List.getElem?_map] at hat
      obtain ⟨fit, h2, h3, h4⟩ := T.sp_mk.1 hsp
      cases hy : l[i]? with
      | none => rw [hy] at hat; cases hat
      | some z =>
        rw [hy] at hat
        simp only [Option.map_some, Option.bind_some] at hat
        have hmem := List.mem_of_getElem? hy
        have hne : l ≠ [] := by rintro rfl; cases hmem
        obtain ⟨hown, g, rfl, hg⟩ := h3 hne
        rw [loc_cons i p (b, o) k n s ⟨g, 0, none⟩ cap l r z hy]
        have hgl := (owns_lt hown g rfl).2
        have h := ih z g (i * 5) y (h4 z hmem) (fun c u hu => by
          have := World.ownsRow.cells hown (g := g) rfl _ _ (rowCells_get l i c z u hy hu)
          rwa [add_at, Nat.zero_add] at this) (fun q => hown.frozenAt q) hat
        refine ⟨h.1, h.2.1, h.2.2.1, h.2.2.2.1, .inr ?_⟩
        rcases h.2.2.2.2 with h | h
        · show (loc p (g, i * 5) z).1.1 < w.heap.size
          rw [h]; exact hgl
        · exact h

/-- One step further. -/
theorem loc_step {w : World} {lo hi : Nat} {p : List Nat} {t : T} {b o : Nat} {y : V} (hsp : t.Sp w lo hi) (h5 : Five w b o t) (hf : ∀ i, w.frozen? ⟨b, i, none⟩ = false) (hb : b < w.heap.size) (hat : vAt (p.map fun i : Nat => (i : Int)) t.v = some y) {j : Nat} (hj : j < p.length) :
    ∃ b1 o1 k n s g cap l r, loc (p.take j) (b, o) t = ((b1, o1), T.mk k n s (some ⟨g, 0, none⟩) cap l r) ∧ p[j] < l.length ∧ l.length * 64 ≤ 140737488351232 ∧ w.cell? ⟨b1, o1 + 3, none⟩ = some (.slice (some ⟨g, 0, none⟩) l.length cap) ∧ b1 < w.heap.size ∧
      (loc (p.take (j + 1)) (b, o) t).1 = (g, p[j] * 5) := by
  have hp : p = p.take j ++ (p[j] :: p.drop (j + 1)) := by rw [← List.drop_eq_getElem_cons hj, List.take_append_drop]
  rw [hp, List.map_append, vAt_append] at hat
  obtain ⟨u, hu, hat⟩ := Option.bind_eq_some_iff.1 hat
  obtain ⟨h1, h2, h3, -, h4⟩ := loc_five (p.take j) t b o u hsp h5 hf hu
  rw [List.map_cons, vAt_cons, if_neg (by omega), Int.toNat_natCast] at hat
  obtain ⟨z, hz, -⟩ := Option.bind_eq_some_iff.1 hat
  rw [← h3] at hz
  have hsn : loc (p.take (j + 1)) (b, o) t = stp (loc (p.take j) (b, o) t) p[j] := by rw [List.take_succ_eq_append_getElem hj, loc_snoc]
  generalize loc (p.take j) (b, o) t = L at *
  obtain ⟨⟨b1, o1⟩, k, n, s, A, cap, l, r⟩ := L
  rw [T.v_mk] at hz
  simp only [V.list, List.getElem?_map, Option.map_eq_some_iff] at hz
  obtain ⟨q, hq, -⟩ := hz
  have hlt := (List.getElem?_eq_some_iff.1 hq).1
  have hne : l ≠ [] := by rintro rfl; simp at hlt
  obtain ⟨fit, -, h6, -⟩ := T.sp_mk.1 h1
  obtain ⟨-, g, rfl, -⟩ := h6 hne
  refine ⟨b1, o1, k, n, s, g, cap, l, r, rfl, hlt, fit.len1, h2 3 _ rfl, ?_, ?_⟩
  · rcases h4 with h | h
    · have h' : b1 = b := h
      rw [h']; exact hb
    · exact h
  · rw [hsn]
    simp only [stp, T.base, T.kids, hq]

/-- The box behind a store. -/
theorem put_box {w : World} {g : Nat} {t : T} (hB : Blk w g 27 t.cells.toArray) (p : List Nat) {kx nx : Int} {sx : ByteArray} {Ax : Option Addr} {cx : Nat} {lx : List T} {rx : Int} (h0 : p = [] → (loc p (g, 0) t).1 = (g, 0))
    (h1 : p ≠ [] → (loc p (g, 0) t).1.1 ∈ t.blocks ∧ (T.put p (T.mk kx nx sx Ax cx lx rx) t).cells = t.cells) (hg : g ∉ t.blocks) :
    Blk (five w (loc p (g, 0) t).1.1 (loc p (g, 0) t).1.2 kx nx sx Ax lx.length cx rx) g 27 (T.put p (T.mk kx nx sx Ax cx lx rx) t).cells.toArray := by
  by_cases hp : p = []
  · rw [h0 hp]
    subst hp
    obtain ⟨k, n, s, A, cap, l, r⟩ := t
    exact (sets5v w g 27 _ _ _ _ _ (.int .u8 kx) (.int .i64 nx) (.string sx) (.slice Ax lx.length cx) (.int .i64 rx) hB).1
  · obtain ⟨h2, h3⟩ := h1 hp
    rw [h3]
    exact hB.fr (five_fr w _ _ kx nx sx Ax lx.length cx rx) (fun h => hg (by have h' : g = _ := h; rw [h']; exact h2))

end Go.Proofs.Ytihjmipmjogpoaa

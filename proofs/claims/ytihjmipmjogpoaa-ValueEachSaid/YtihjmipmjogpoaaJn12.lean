/- Texts joined: H1, H2, H5, D3, D4, H6, H7. -/
import Derived.Test.YtihjmipmjogpoaaJn11
import Derived.RangeFuncNested
import Derived.OrdersIn
import Derived.RangeFuncLeaves
import Derived.CallsIn
import Derived.Deep.CutRange
/- A region that draws its order inside the wide fence, by what holds whichever operations have come up; a round among its operations. -/
namespace Go.Proofs.Ytihjmipmjogpoaa
open Go.RowKit

section
variable {P : Program} {ops : Array Oper} {Q : Exit → Act → World → Prop} {n : Nat}

theorem upon_wide {o : Oper} {a : Act} {K : Act → World → Prop} {r : Result Next} (h : o.upon P a K Q r) : o.uponIn Fence.wide n P a K Q r := by
  have hd : ∀ p : Prop, (Fence.wide.depth.isSome = true → p) := fun p h => by simp [Fence.wide] at h
  cases r with
  | ok x w' =>
    cases x with
    | value v => exact h
    | skip => exact h
    | defer d => exact h
    | enter f args => exact ⟨hd _, callsIn_wide.2 h⟩
    | row row args => exact ⟨hd _, fun c cs _ => let ⟨v, w', r, s⟩ := h c cs; ⟨v, w', r, stepsIn_wide.2 s⟩⟩
    | _ => exact h.elim
  | halt x w' =>
    cases x with
    | panic v => exact h
    | _ => exact h.elim

theorem wpIn_of_wp {o : Oper} {a : Act} {w : World} {K : Act → World → Prop} (h : o.wp P a w K Q) : o.wpIn Fence.wide n P a w K Q :=
  ⟨fun _ _ => trivial, upon_wide h⟩

theorem wpAnyIn_inv (I : (Nat → Bool) → Act → World → Prop) (hfw : (List.range ops.size).all (fun i => ((ops[i]?).map fun o => o.after.all fun e => decide (e.on < i)).getD true) = true)
    (hstep : ∀ (i : Nat) (o : Oper) (f : Nat → Bool) (a : Act) (w : World), ops[i]? = some o → f i = false → (∀ e ∈ o.after, Region.binds .any e = true → f e.on = true) → I f a w →
      ∀ K' : Act → World → Prop, Shut (∀ a w, I (upd f i) a w → K' a w) → if Region.wanted o (yielded ops a.tmps) = true then Oper.wpIn Fence.wide n P o a w K' Q else K' (a.put o.dst undef) w)
    (hend : ∀ (f : Nat → Bool) (a : Act) (w : World), (∀ i, i < ops.size → f i = true) → I f a w → Q .normal a w) :
    ∀ (fuel : Nat) (listed : Array Bool) (a : Act) (w : World), listed.size = ops.size → unl listed.toList ≤ fuel → I (fun j => listed.getD j false) a w → wpAnyIn Fence.wide n P .any ops Q fuel listed a w := by
  have hfin : ∀ (listed : Array Bool) (a : Act) (w : World), listed.size = ops.size → I (fun j => listed.getD j false) a w → Region.ready .any ops listed = [] → Q .normal a w := fun listed a w hs hI hr =>
    hend _ a w (ready_all hfw hr hs) hI
  intro fuel
  induction fuel with
  | zero =>
    intro listed a w hs hu hI
    have hr : Region.ready .any ops listed = [] := by
      refine List.eq_nil_iff_forall_not_mem.2 fun j hj => ?_
      obtain ⟨h1, o, ho, -⟩ := mem_ready.1 hj
      have hj2 := (Array.getElem?_eq_some_iff.1 ho).1
      refine unl_zero listed.toList j (by omega) ?_
      have hj3 : j < listed.size := by omega
      simp only [Array.getD, hj3, dif_pos] at h1
      rw [Array.getElem?_toList, Array.getElem?_eq_getElem hj3]
      exact congrArg some h1
    exact ⟨hr, hfin listed a w hs hI hr⟩
  | succ fuel ih =>
    intro listed a w hs hu hI
    refine ⟨hfin listed a w hs hI, fun i hi => ?_⟩
    obtain ⟨h1, o, ho, hd⟩ := mem_ready.1 hi
    have hi2 := (Array.getElem?_eq_some_iff.1 ho).1
    have hi3 : i < listed.size := by omega
    have hfalse : listed[i]? = some false := by
      simp only [Array.getD, hi3, dif_pos] at h1
      rw [Array.getElem?_eq_getElem hi3]
      exact congrArg some h1
    have hf : listed.getD i false = false := by
      simp only [Array.getD, hi3, dif_pos] at h1 ⊢
      exact h1
    have hnext : ∀ a' w', I (upd (fun j => listed.getD j false) i) a' w' → wpAnyIn Fence.wide n P .any ops Q fuel (listed.setIfInBounds i true) a' w' := fun a' w' hI' => by
      refine ih (listed.setIfInBounds i true) a' w' (by simpa using hs) ?_ ?_
      · have := unl_set listed.toList i (by rw [Array.getElem?_toList]; exact hfalse)
        rw [Array.toList_setIfInBounds]
        omega
      · have he : (fun j => (listed.setIfInBounds i true).getD j false) = upd (fun j => listed.getD j false) i := by
          funext j
          simp only [upd, Array.getD_eq_getD_getElem?, Array.getElem?_setIfInBounds]
          by_cases hij : i = j
          · subst hij; simp [hi3]
          · have : ¬ j = i := fun h => hij h.symm
            simp [hij, this]
        rw [he]
        exact hI'
    have hs' := hstep i o _ a w ho hf (fun e he hb => hd e he hb) hI (wpAnyIn Fence.wide n P .any ops Q fuel (listed.setIfInBounds i true)) hnext
    unfold wpOpIn
    rw [ho]
    show if Region.wanted o (yielded ops a.tmps) = true then _ else _
    split
    · rename_i hw; rw [if_pos hw] at hs'; exact hs'
    · rename_i hw; rw [if_neg hw] at hs'; exact ⟨fun _ _ => trivial, hs'⟩

/-- The region. -/
theorem wpIn_region_inv {id : Nat} {a0 : Act} {w0 : World} (I : Act → (Nat → Bool) → Act → World → Prop) (hm : P.follows .mixedOrders = true) (hfw : (List.range ops.size).all (fun i => ((ops[i]?).map fun o => o.after.all fun e => decide (e.on < i)).getD true) = true)
    (hst : I a0 (fun _ => false) a0 w0.drew)
    (hstep : ∀ (i : Nat) (o : Oper) (f : Nat → Bool) (a : Act) (w : World), ops[i]? = some o → f i = false → (∀ e ∈ o.after, Region.binds .any e = true → f e.on = true) → I a0 f a w →
      ∀ K' : Act → World → Prop, Shut (∀ a w, I a0 (upd f i) a w → K' a w) → if Region.wanted o (yielded ops a.tmps) = true then Oper.wpIn Fence.wide n P o a w K' Q else K' (a.put o.dst undef) w)
    (hend : ∀ (f : Nat → Bool) (a : Act) (w : World), (∀ i, i < ops.size → f i = true) → I a0 f a w → Q .normal a w) : (Code.region id ops true).wpIn Fence.wide n P Q a0 w0 := by
  refine wpIn_region_any hm (wpAnyIn_inv (I a0) hfw hstep hend _ _ _ _ (by simp) ?_ ?_)
  · have : ∀ n, unl (List.replicate n false) = n := fun n => by
      induction n with
      | zero => rfl
      | succ n ih => simp only [unl, List.replicate_succ] at ih ⊢; simp
    rw [Array.toList_replicate, this]
    exact Nat.le_refl _
  · have he : (fun j => (Array.replicate ops.size false).getD j false) = fun _ => false := by
      funext j
      simp only [Array.getD_eq_getD_getElem?, Array.getElem?_replicate]
      split <;> rfl
    rw [he]
    exact hst
end

end Go.Proofs.Ytihjmipmjogpoaa

/- A range over a function whose rounds are handed what lies in memory: the caller's law. -/
namespace Go.Proofs.Ytihjmipmjogpoaa
open Go.RowKit

theorem fr_putObj (W : World) (l : Nat) (o : Obj) : Fr (fun i => i = l) W (W.putObj l o) :=
  (Fr.refl _ W).grown (grownBy_putObj' W l o) (fun k hk _ => by cases hk; rfl)

/-- What a round leaves of the book-keeping: the loop's own record as it was, and of what there was M and B alone may have turned. -/
structure RK (l : Nat) (M B : Nat → Prop) (W1 W2 W' : World) : Prop where
  rec_ : W'.heap[l]? = W2.heap[l]?
  fr : Fr (fun i => M i ∨ B i ∨ i = l) W1 W'

/-- How the body of a round may be left. -/
def rpost {α : Type} (l : Nat) (I : List α → (Nat → Prop) → World → Prop) (Ix : Code → List α → (Nat → Prop) → World → Prop) (xs : List α) (M B : Nat → Prop) (W1 W2 : World) : Exit → Act → World → Prop
  | .normal, _, W' => RK l M B W1 W2 W' ∧ ∃ M', (∀ i, M' i → i < W1.heap.size → M i) ∧ I xs M' W'
  | .ret, _, W' => RK l M B W1 W2 W' ∧ ∃ M', (∀ i, M' i → i < W1.heap.size → M i) ∧ Ix .ret xs M' W'
  | .exit id, _, W' => RK l M B W1 W2 W' ∧ ∃ M', (∀ i, M' i → i < W1.heap.size → M i) ∧ Ix (.exit id) xs M' W'
  | .goto t, _, W' => RK l M B W1 W2 W' ∧ ∃ M', (∀ i, M' i → i < W1.heap.size → M i) ∧ Ix (.goto t) xs M' W'
  | .panic _, _, _ => False
  | .outgrown, _, _ => False

/-- What an iterator does: over whatever holds between two rounds. -/
def Iter {α : Type} (P : Program) (gf : Nat) (lb : Array Value) (Ok : α → Array Value → (Nat → Prop) → World → Prop) (xs : List α) (Av : Nat → Prop) (w : World) : Prop :=
  ∀ (l : Nat) (J Jx : List α → (Nat → Prop) → World → Prop) (W : World) (M : Nat → Prop), Fr No w W → (∀ pre M W W', J pre M W → Fr No W W' → J pre M W') → (∀ pre M W, J pre M W → ∀ i, M i → i < W.heap.size) →
    (∀ pre M W1 x args B, J pre M W1 → pre ++ [x] <+: xs → Ok x args B W1 → (∀ i, B i → W.heap.size ≤ i ∧ i < W1.heap.size ∧ ¬ M i) → YieldAt Fence.wide 2 P l args W1 fun e W' =>
      ∃ M' : Nat → Prop, Fr (fun i => M i ∨ B i) W1 W' ∧ (∀ i, M' i → i < W1.heap.size → M i) ∧ ((e = .returned (.bool true) ∧ J (pre ++ [x]) M' W') ∨ (e = .returned (.bool false) ∧ Jx (pre ++ [x]) M' W'))) →
    (∀ i, M i → i < w.heap.size → ¬ Av i) → J [] M W →
    Calls P gf (#[.func (.yield l) #[] #[]] ++ lb) W fun e W' => (∃ v, e = .returned v) ∧ ∃ M' : Nat → Prop, Fr M W W' ∧ (∀ i, M' i → i < W.heap.size → M i) ∧ (J xs M' W' ∨ ∃ q, q <+: xs ∧ Jx q M' W')

theorem wp_rangeFunc_seq {α : Type} {P : Program} {g : Operand} {ps : Array Tmp} {assign body : Code} {Q : Exit → Act → World → Prop} {a : Act} {w : World} {gf : Nat} {lb : Array Value} (hg : a.eval g = .func (.func gf) #[] lb)
    (eg : ∀ args w, (callFunc gf args).run P w = .ok (.enter gf args) w) {xs : List α} {Ok : α → Array Value → (Nat → Prop) → World → Prop} (hps : ∀ x args B W, Ok x args B W → args.size = ps.size) {Av : Nat → Prop} (hiter : Iter P gf lb Ok xs Av w)
    (I : List α → (Nat → Prop) → World → Prop) (Ix : Code → List α → (Nat → Prop) → World → Prop)
    (hI : ∀ pre M W W' S, I pre M W → Fr S W W' → (∀ i, i < W.heap.size → S i → w.heap.size ≤ i ∧ ¬ M i) → I pre M W')
    (hIx : ∀ c pre M W W' S, Ix c pre M W → Fr S W W' → (∀ i, i < W.heap.size → S i → w.heap.size ≤ i ∧ ¬ M i) → Ix c pre M W')
    (hIlt : ∀ pre M W, I pre M W → ∀ i, M i → i < W.heap.size) (M0 : Nat → Prop) (h0 : I [] M0 w) (hM0 : ∀ i, M0 i → i < w.heap.size ∧ ¬ Av i)
    (Ax : α → Array Value → World → Act → World → Prop)
    (hassign : ∀ l x args B W1, Ok x args B W1 → ∀ K : Act → World → Prop, (∀ a' Wa, Fr No W1 Wa → Ax x args W1 a' Wa → K a' Wa) →
      assign.wpIn (Fence.wide.inRound l) 2 P (Exit.then K (fun _ _ _ => False)) { tmps := (ps.zip args).foldl (fun t (p, v) => t.setIfInBounds p v) a.tmps, defers := [] } W1)
    (hbody : ∀ l pre x args B M W1 a' Wa W2, I pre M W1 → pre ++ [x] <+: xs → Ok x args B W1 → (∀ i, B i → w.heap.size ≤ i ∧ i < W1.heap.size ∧ ¬ M i) → Fr No W1 Wa → Ax x args W1 a' Wa → l < W1.heap.size → ¬ M l → ¬ B l → w.heap.size ≤ l →
      Fr (fun i => i = l) Wa W2 → body.wpIn (Fence.wide.inRound l) 2 P (rpost l I Ix (pre ++ [x]) M B W1 W2) a' W2)
    (hdone : ∀ D W M', I xs M' W → Fr M0 w W → (∀ i, M' i → i < w.heap.size → M0 i) → w.heap.size ≤ D → W.heap[D]? = some (.deferred (some [])) → Q .normal { a with defers := { target := .collected D, args := #[] } :: a.defers } W)
    (hstop : ∀ D c q W M', q <+: xs → Ix c q M' W → Fr M0 w W → (∀ i, M' i → i < w.heap.size → M0 i) → w.heap.size ≤ D → W.heap[D]? = some (.deferred (some [])) → c.wp P Q { a with defers := { target := .collected D, args := #[] } :: a.defers } W) :
    (Code.rangeFunc g ps assign body).wp P Q a w := by
  refine (wpIn_wide (n := 3)).1 ?_
  refine wpIn_rangeFunc ?_
  intro fn hfn
  obtain ⟨rec, hrec⟩ : ∃ rec : LoopState → Option Code → Loop, rec = fun st pe => { state := st, pending := pe, fn, tmps := a.tmps, params := ps, assign, body, defers := w.heap.size } := ⟨_, rfl⟩
  obtain ⟨W1, hW1⟩ : ∃ W1, (w.alloc (.deferred (some []))).alloc (.loop (rec .ready none)) = W1 := ⟨_, rfl⟩
  have hL1 : W1.heap[w.heap.size + 1]? = some (.loop (rec .ready none)) := by
    rw [← hW1]; have := World.alloc_heap_new (w.alloc (.deferred (some []))) (.loop (rec .ready none)); rwa [World.size_alloc] at this
  have hK1 : W1.heap[w.heap.size]? = some (.deferred (some [])) := by
    rw [← hW1]; exact (Below.heap_alloc _ _ _ (by simp)).trans (World.alloc_heap_new w _)
  have hb1 : Fr No w W1 := by rw [← hW1]; exact ((Fr.refl No w).alloc _).alloc _
  have hz1 : W1.heap.size = w.heap.size + 1 + 1 := by rw [← hW1]; simp
  refine ⟨w.heap.size + 1, [{ target := .collected w.heap.size, args := #[] }], W1, { target := .fn (.func gf) lb, args := #[.func (.yield (w.heap.size + 1)) #[] #[]] }, W1, gf,
    #[.func (.yield (w.heap.size + 1)) #[] #[]] ++ lb, W1, ?_, ?_, ?_, ?_, (fun h => by cases h), ?_⟩
  · rw [← hW1, hrec]; exact run_enterLoop_outer _ _ _ _ _
  · simp only [resolve, hg]
    simp [go_sem]
  · intro f' _; trivial
  · simp [invoke, go_sem, eg]
  · obtain ⟨l, hl⟩ : ∃ l, w.heap.size + 1 = l := ⟨_, rfl⟩
    rw [hl] at hL1 ⊢
    have hJ0 : ∀ i, (M0 i ∨ i = l) → i < w.heap.size → ¬ Av i := fun i h hlt => by
      rcases h with h | h
      · exact (hM0 i h).2
      · omega
    have hcall := hiter l
      (fun pre Mj W => ∃ M : Nat → Prop, I pre M W ∧ (∀ i, Mj i ↔ (M i ∨ i = l)) ∧ ¬ M l ∧ ¬ M w.heap.size ∧ W.heap[l]? = some (.loop (rec .ready none)) ∧ W.heap[w.heap.size]? = some (.deferred (some [])))
      (fun pre Mj W => ∃ (M : Nat → Prop) (c : Code), Ix c pre M W ∧ (∀ i, Mj i ↔ (M i ∨ i = l)) ∧ ¬ M l ∧ ¬ M w.heap.size ∧ W.heap[l]? = some (.loop (rec .done (some c))) ∧ W.heap[w.heap.size]? = some (.deferred (some [])))
      W1 (fun i => M0 i ∨ i = l) hb1 ?hno ?hlt ?hround hJ0 ?h0
    case hno =>
      rintro pre Mj W W' ⟨M, hi, hm, hn1, hn2, hl1, hk1⟩ f
      exact ⟨M, hI _ _ _ _ No hi f (fun _ _ h => h.elim), hm, hn1, hn2, (f.block l (Array.getElem?_eq_some_iff.1 hl1).1 (fun h => h)).trans hl1, (f.block _ (Array.getElem?_eq_some_iff.1 hk1).1 (fun h => h)).trans hk1⟩
    case hlt =>
      rintro pre Mj W ⟨M, hi, hm, hn1, hn2, hl1, hk1⟩ i hji
      rcases (hm i).1 hji with h | rfl
      · exact hIlt _ _ _ hi i h
      · exact (Array.getElem?_eq_some_iff.1 hl1).1
    case h0 => exact ⟨M0, hI _ _ _ _ No h0 hb1 (fun _ _ h => h.elim), fun i => Iff.rfl, fun h => by have := (hM0 _ h).1; omega, fun h => by have := (hM0 _ h).1; omega, hL1, hK1⟩
    case hround =>
      rintro pre Mj W x args B ⟨M, hi, hm, hn1, hn2, hl1, hk1⟩ hlen hok hB
      have hll : l < W.heap.size := (Array.getElem?_eq_some_iff.1 hl1).1
      have hkl : w.heap.size < W.heap.size := (Array.getElem?_eq_some_iff.1 hk1).1
      have hBl : ¬ B l := fun h => (hB l h).2.2 ((hm l).2 (.inr rfl))
      have hBk : ¬ B w.heap.size := fun h => by have := (hB _ h).1; omega
      have hy := run_yield (P := P) (args := args) hl1 (by rw [hrec]; exact hps x args B W hok)
      rw [hrec] at hy
      refine ⟨fn, _, assign, body, hy, roundIn_of_wpIn hfn (hassign l x args B W hok _ ?_)⟩
      clear hy
      intro a' Wa fa hax
      have hla : Wa.heap[l]? = some (.loop (rec .ready none)) := (fa.block l hll (fun h => h)).trans hl1
      have hka : Wa.heap[w.heap.size]? = some (.deferred (some [])) := (fa.block _ hkl (fun h => h)).trans hk1
      have hlta : l < Wa.heap.size := (Array.getElem?_eq_some_iff.1 hla).1
      refine ⟨_, run_beginRound hla (by rw [hrec]), ?_⟩
      have hl2 : (Wa.putObj l (.loop { rec .ready none with state := .busy })).heap[l]? = some (.loop { rec .ready none with state := .busy }) := World.putObj_heap_same hlta
      refine wpIn_mono (hbody l pre x args B M W a' Wa _ hi hlen hok (fun i h => ⟨by have := (hB i h).1; omega, (hB i h).2.1, fun h' => (hB i h).2.2 ((hm i).2 (.inl h'))⟩) fa hax hll hn1 hBl (by omega) (fr_putObj Wa l _)) ?_
      have fin : ∀ (jump : Option Code) (W3 : World), RK l M B W (Wa.putObj l (.loop { rec .ready none with state := .busy })) W3 →
          (Instr.endRound l jump).run P W3 = .ok (.bool jump.isNone) (W3.putObj l (.loop (rec (if jump.isNone then .ready else .done) jump))) ∧
          (W3.putObj l (.loop (rec (if jump.isNone then .ready else .done) jump))).heap[l]? = some (.loop (rec (if jump.isNone then .ready else .done) jump)) ∧
          (W3.putObj l (.loop (rec (if jump.isNone then .ready else .done) jump))).heap[w.heap.size]? = some (.deferred (some [])) ∧
          Fr (fun i => Mj i ∨ B i) W (W3.putObj l (.loop (rec (if jump.isNone then .ready else .done) jump))) := fun jump W3 hk3 => by
        have hl3 := hk3.rec_.trans hl2
        have hd3 : W3.heap[w.heap.size]? = some (.deferred (some [])) := (hk3.fr.block _ hkl (fun h => by rcases h with h | h | h; exact hn2 h; exact hBk h; omega)).trans hk1
        have := run_endRound (P := P) jump hl3
        rw [hrec] at this ⊢
        refine ⟨this, World.putObj_heap_same (Array.getElem?_eq_some_iff.1 hl3).1, (World.putObj_heap_other (by omega)).trans hd3, ?_⟩
        refine (hk3.fr.mono (S' := fun i => Mj i ∨ B i) fun i _ h => ?_).trans' (fr_putObj W3 l _) fun i _ h => .inl ((hm i).2 (.inr h))
        rcases h with h | h | h
        · exact .inl ((hm i).2 (.inl h))
        · exact .inr h
        · exact .inl ((hm i).2 (.inr h))
      have hM' : ∀ M' : Nat → Prop, (∀ i, M' i → i < W.heap.size → M i) → ¬ M' l ∧ ¬ M' w.heap.size ∧ (∀ i, (M' i ∨ i = l) → i < W.heap.size → Mj i) := fun M' h =>
        ⟨fun h' => hn1 (h l h' hll), fun h' => hn2 (h _ h' hkl), fun i h' hlt => (hm i).2 (h'.imp (fun q => h i q hlt) id)⟩
      have hst : ∀ (M' : Nat → Prop) (W3 : World) (o : Obj), ¬ M' l → ∀ i, i < W3.heap.size → i = l → w.heap.size ≤ i ∧ ¬ M' i := fun M' W3 o h i _ e => by subst e; exact ⟨by omega, h⟩
      rintro e a3 W3 hp
      cases e with
      | normal =>
        obtain ⟨hk3, M', hsub, hi3⟩ := hp
        obtain ⟨hr, hl4, hk4, f4⟩ := fin none W3 hk3
        obtain ⟨q1, q2, q3⟩ := hM' M' hsub
        exact ⟨_, _, hr, fun i => M' i ∨ i = l, f4, q3, .inl ⟨rfl, M', hI _ _ _ _ _ hi3 (fr_putObj W3 l _) (hst M' W3 (.deferred none) q1), fun i => Iff.rfl, q1, q2, hl4, hk4⟩⟩
      | ret =>
        obtain ⟨hk3, M', hsub, hi3⟩ := hp
        obtain ⟨hr, hl4, hk4, f4⟩ := fin (some .ret) W3 hk3
        obtain ⟨q1, q2, q3⟩ := hM' M' hsub
        exact ⟨_, _, hr, fun i => M' i ∨ i = l, f4, q3, .inr ⟨rfl, M', .ret, hIx _ _ _ _ _ _ hi3 (fr_putObj W3 l _) (hst M' W3 (.deferred none) q1), fun i => Iff.rfl, q1, q2, hl4, hk4⟩⟩
      | exit id =>
        obtain ⟨hk3, M', hsub, hi3⟩ := hp
        obtain ⟨hr, hl4, hk4, f4⟩ := fin (some (.exit id)) W3 hk3
        obtain ⟨q1, q2, q3⟩ := hM' M' hsub
        exact ⟨_, _, hr, fun i => M' i ∨ i = l, f4, q3, .inr ⟨rfl, M', .exit id, hIx _ _ _ _ _ _ hi3 (fr_putObj W3 l _) (hst M' W3 (.deferred none) q1), fun i => Iff.rfl, q1, q2, hl4, hk4⟩⟩
      | goto t =>
        obtain ⟨hk3, M', hsub, hi3⟩ := hp
        obtain ⟨hr, hl4, hk4, f4⟩ := fin (some (.goto t)) W3 hk3
        obtain ⟨q1, q2, q3⟩ := hM' M' hsub
        exact ⟨_, _, hr, fun i => M' i ∨ i = l, f4, q3, .inr ⟨rfl, M', .goto t, hIx _ _ _ _ _ _ hi3 (fr_putObj W3 l _) (hst M' W3 (.deferred none) q1), fun i => Iff.rfl, q1, q2, hl4, hk4⟩⟩
      | panic ch => exact hp.elim
      | outgrown => exact hp.elim
    refine (callsIn_wide.2 hcall).mono ?_
    rintro e W2 ⟨⟨v, rfl⟩, Mj', f2, hsub, hJ⟩
    have hfin : ∀ o : Obj, Fr M0 w (W2.putObj l o) := fun o => by
      refine (hb1.no.trans' f2 fun i hi h => ?_).trans' (fr_putObj W2 l o) fun i hi h => ?_
      · rcases h with h | h
        · exact h
        · omega
      · have h' : i = l := h; omega
    rcases hJ with ⟨M, hi, hm, hn1, hn2, hl2, hk2⟩ | ⟨q, hq, M, c, hi, hm, hn1, hn2, hl2, hk2⟩
    · refine ⟨none, _, by have := run_endLoop (P := P) hl2 (by rw [hrec]; simp); rw [hrec] at this; exact this, ?_⟩
      refine hdone _ _ M (hI _ _ _ _ _ hi (fr_putObj W2 l _) (fun i _ e => by have e' : i = l := e; subst e'; exact ⟨by omega, hn1⟩)) (hfin _) (fun i h hlt => ?_) (Nat.le_refl _) ((World.putObj_heap_other (by omega)).trans hk2)
      rcases hsub i ((hm i).2 (.inl h)) (by omega) with h' | h'
      · exact h'
      · omega
    · refine ⟨some c, _, by have := run_endLoop (P := P) hl2 (by rw [hrec]; simp); rw [hrec] at this; exact this, ?_⟩
      refine wpIn_wide.2 (hstop _ _ q _ M hq (hIx _ _ _ _ _ _ hi (fr_putObj W2 l _) (fun i _ e => by have e' : i = l := e; subst e'; exact ⟨by omega, hn1⟩)) (hfin _) (fun i h hlt => ?_) (Nat.le_refl _) ((World.putObj_heap_other (by omega)).trans hk2))
      rcases hsub i ((hm i).2 (.inl h)) (by omega) with h' | h'
      · exact h'
      · omega

end Go.Proofs.Ytihjmipmjogpoaa

/- Chapter 2: Each's functions: what is told of a value, each part in memory of its own. -/
namespace Go.Proofs.Ytihjmipmjogpoaa
open Go.RowKit

/-- What a round is handed: a place and a value, in memory of their own. -/
structure OkV (x : List Int × V) (W : World) (base : Nat) (A : Option Addr) (c : Nat) (t : T) : Prop where
  place : OwnI W base A c x.1
  sh : t.Sh W base W.heap.size
  v : t.v = x.2
  sep : ∀ b ∈ t.blocks, (Value.slice A x.1.length c).ownBlock ≠ some b
  rng : ∀ y ∈ x.1, -9223372036854775808 ≤ y ∧ y ≤ 9223372036854775807
  len : x.1.length * 8 ≤ 140737488351232

def OkB (x : List Int × V) (A : Option Addr) (c : Nat) (t : T) (i : Nat) : Prop := (Value.slice A x.1.length c).ownBlock = some i ∨ i ∈ t.blocks

/-- .. as arguments. -/
def OkP (x : List Int × V) (args : Array Value) (B : Nat → Prop) (W : World) : Prop :=
  ∃ (A : Option Addr) (c : Nat) (t : T) (base : Nat), args = #[.agg (.slice A x.1.length c :: t.cells).toArray] ∧ B = OkB x A c t ∧ OkV x W base A c t

/-- Where 107 stands ahead of its call of yield. -/
structure C5 (W1 : World) (p : List Int) (x : T) (l gb : Nat) (f : Nat → Bool) (x6 x7 x8 x9 x10 x11 : Value) (A : Option Addr) (cap : Nat) (A' : Option Addr) (c' : Nat) (t' : T) (w : World) : Prop where
  fr : Fr No W1 w
  l6 : f 0 = true → x6 = .func (.yield l) #[] #[]
  m7 : f 1 = true → x7 = .slice A p.length cap
  c8 : f 2 = true → f 1 = true ∧ x8 = .slice A' p.length c' ∧ OwnI w W1.heap.size A' c' p
  l9 : f 3 = true → x9 = x.val
  c10 : f 4 = true → f 3 = true ∧ x10 = t'.val ∧ t'.v = x.v ∧ t'.Sh w W1.heap.size w.heap.size
  sep : f 2 = true → f 4 = true → ∀ b ∈ t'.blocks, (Value.slice A' p.length c').ownBlock ≠ some b
  b11 : f 5 = true → f 2 = true ∧ f 4 = true ∧ x11 = .agg (.slice A' p.length c' :: t'.cells).toArray

section
variable {W1 w w' : World} {p : List Int} {x : T} {l gb : Nat} {f : Nat → Bool} {x6 x7 x8 x9 x10 x11 : Value} {A : Option Addr} {cap : Nat} {A' : Option Addr} {c' : Nat} {t' : T}

theorem C5.begin : C5 W1 p x l gb (fun _ => false) x6 x7 x8 x9 x10 x11 A cap none 0 x W1.drew :=
  ⟨(Fr.refl No W1).drew, nofun, nofun, nofun, nofun, nofun, nofun, nofun⟩

theorem C5.load0 (h : C5 W1 p x l gb f x6 x7 x8 x9 x10 x11 A cap A' c' t' w) : C5 W1 p x l gb (upd f 0) (.func (.yield l) #[] #[]) x7 x8 x9 x10 x11 A cap A' c' t' w :=
  ⟨h.fr, fun _ => rfl, h.m7, h.c8, h.l9, h.c10, h.sep, h.b11⟩
theorem C5.move1 (h : C5 W1 p x l gb f x6 x7 x8 x9 x10 x11 A cap A' c' t' w) : C5 W1 p x l gb (upd f 1) x6 (.slice A p.length cap) x8 x9 x10 x11 A cap A' c' t' w :=
  ⟨h.fr, h.l6, fun _ => rfl, fun h2 => ⟨rfl, (h.c8 h2).2⟩, h.l9, h.c10, h.sep, h.b11⟩
theorem C5.load3 (h : C5 W1 p x l gb f x6 x7 x8 x9 x10 x11 A cap A' c' t' w) : C5 W1 p x l gb (upd f 3) x6 x7 x8 x.val x10 x11 A cap A' c' t' w :=
  ⟨h.fr, h.l6, h.m7, h.c8, fun _ => rfl, fun h4 => ⟨rfl, (h.c10 h4).2⟩, h.sep, h.b11⟩
theorem C5.call2 (h : C5 W1 p x l gb f x6 x7 x8 x9 x10 x11 A cap A' c' t' w) (hf : f 2 = false) (h1 : f 1 = true) {A2 : Option Addr} {c2 : Nat} (ho : OwnI w' w.heap.size A2 c2 p) (fr : Fr No w w') :
    C5 W1 p x l gb (upd f 2) x6 x7 (.slice A2 p.length c2) x9 x10 x11 A cap A2 c2 t' w' := by
  have hs := h.fr.size
  refine ⟨h.fr.trans fr, h.l6, h.m7, fun _ => ⟨h1, rfl, owns_mono ho hs⟩, h.l9, fun h4 => ⟨(h.c10 h4).1, (h.c10 h4).2.1, (h.c10 h4).2.2.1, ((h.c10 h4).2.2.2.no fr).more (Nat.le_refl _) fr.size⟩, fun _ h4 b hb e => ?_, fun h5 => ?_⟩
  · have h6 := (T.In.blocks _ (h.c10 h4).2.2.2.inn b hb).2
    have h7 := (owns_lt ho b e).1
    omega
  · have := (h.b11 h5).1; rw [hf] at this; cases this
theorem C5.call4 (h : C5 W1 p x l gb f x6 x7 x8 x9 x10 x11 A cap A' c' t' w) (hf : f 4 = false) (h3 : f 3 = true) {t2 : T} (hv : t2.v = x.v) (hsh : t2.Sh w' w.heap.size w'.heap.size) (fr : Fr No w w') :
    C5 W1 p x l gb (upd f 4) x6 x7 x8 x9 t2.val x11 A cap A' c' t2 w' := by
  have hs := h.fr.size
  refine ⟨h.fr.trans fr, h.l6, h.m7, fun h2 => ⟨(h.c8 h2).1, (h.c8 h2).2.1, owns_fr (h.c8 h2).2.2 fr (fun _ _ h => h)⟩, h.l9, fun _ => ⟨h3, rfl, hv, hsh.more hs (Nat.le_refl _)⟩, fun h2 _ b hb e => ?_, fun h5 => ?_⟩
  · have h6 := (T.In.blocks _ hsh.inn b hb).1
    have h7 := (owns_lt (h.c8 h2).2.2 b e).2
    omega
  · have := (h.b11 h5).2.1; rw [hf] at this; cases this
theorem C5.build5 (h : C5 W1 p x l gb f x6 x7 x8 x9 x10 x11 A cap A' c' t' w) (h2 : f 2 = true) (h4 : f 4 = true) : C5 W1 p x l gb (upd f 5) x6 x7 x8 x9 x10 (.agg (.slice A' p.length c' :: t'.cells).toArray) A cap A' c' t' w :=
  ⟨h.fr, h.l6, h.m7, h.c8, h.l9, h.c10, h.sep, fun _ => ⟨h2, h4, rfl⟩⟩
end

/-- Where 107 stands. -/
structure CI (W1 : World) (p : List Int) (x : T) (l gb : Nat) (Dn : Value → World → Prop) (f : Nat → Bool) (x5 x6 x7 x8 x9 x10 x11 x12 : Value) (A : Option Addr) (cap : Nat) (A' : Option Addr) (c' : Nat) (t' : T) (w : World) : Prop where
  pre : f 6 = false → C5 W1 p x l gb f x6 x7 x8 x9 x10 x11 A cap A' c' t' w
  post : f 6 = true → (∀ i, i < 6 → f i = true) ∧ Dn x12 w
  fin : f 7 = true → f 6 = true ∧ x5 = x12

theorem CI.not6 {W1 w : World} {p : List Int} {x : T} {l gb : Nat} {Dn : Value → World → Prop} {f : Nat → Bool} {x5 x6 x7 x8 x9 x10 x11 x12 : Value} {A : Option Addr} {cap : Nat} {A' : Option Addr} {c' : Nat} {t' : T} (h : CI W1 p x l gb Dn f x5 x6 x7 x8 x9 x10 x11 x12 A cap A' c' t' w) {i : Nat} (hi : i < 6) (hf : f i = false) :
    f 6 = false ∧ f 7 = false := by
  have h6 : f 6 = false := by
    cases h6 : f 6 with
    | false => rfl
    | true => have := (h.post h6).1 i hi; rw [hf] at this; cases this
  refine ⟨h6, ?_⟩
  cases h7 : f 7 with
  | false => rfl
  | true => have := (h.fin h7).1; rw [h6] at this; cases this

theorem CI.up {W1 w w' : World} {p : List Int} {x : T} {l gb : Nat} {Dn : Value → World → Prop} {f : Nat → Bool} {x5 x6 x7 x8 x9 x10 x11 x12 y6 y7 y8 y9 y10 y11 : Value} {A : Option Addr} {cap : Nat} {A' : Option Addr} {c' : Nat} {t' : T} {B' : Option Addr} {d' : Nat} {s' : T} (h : CI W1 p x l gb Dn f x5 x6 x7 x8 x9 x10 x11 x12 A cap A' c' t' w) {i : Nat} (hi : i < 6) (hf : f i = false)
    (hc : C5 W1 p x l gb (upd f i) y6 y7 y8 y9 y10 y11 A cap B' d' s' w') : CI W1 p x l gb Dn (upd f i) x5 y6 y7 y8 y9 y10 y11 x12 A cap B' d' s' w' := by
  obtain ⟨h6, h7⟩ := h.not6 hi hf
  refine ⟨fun _ => hc, fun h' => ?_, fun h' => ?_⟩
  · simp [upd, h6] at h'; omega
  · simp [upd, h7] at h'; omega

end Go.Proofs.Ytihjmipmjogpoaa

/- Chapter 2: rows of told parts ([]Parted): a place and a value each. -/
namespace Go.Proofs.Ytihjmipmjogpoaa
open Go.RowKit

/-- A told part in memory. -/
structure Pt where
  p : List Int
  A : Option Addr
  c : Nat
  t : T

def Pt.cells (x : Pt) : List Value := .slice x.A x.p.length x.c :: x.t.cells
def Pt.pv (x : Pt) : List Int × V := (x.p, x.t.v)
def ptCells (L : List Pt) : List Value := L.flatMap Pt.cells

theorem Pt.cells_length (x : Pt) : x.cells.length = 6 := by simp [Pt.cells, T.cells_length]

theorem ptCells_length (L : List Pt) : (ptCells L).length = L.length * 6 := by
  induction L with
  | nil => rfl
  | cons x l ih => simp only [ptCells, List.flatMap_cons, List.length_append] at ih ⊢; rw [Pt.cells_length, ih]; simp only [List.length_cons]; omega

theorem ptCells_append (K L : List Pt) : ptCells (K ++ L) = ptCells K ++ ptCells L := by simp [ptCells]

theorem ptCells_get : ∀ (l : List Pt) (i c : Nat) (x : Pt) (u : Value), l[i]? = some x → x.cells[c]? = some u → (ptCells l)[i * 6 + c]? = some u
  | [], i, c, x, u, h, _ => by simp at h
  | y :: l, 0, c, x, u, h, hu => by
    simp at h; subst h
    simp only [ptCells, List.flatMap_cons, Nat.zero_mul, Nat.zero_add]
    rw [List.getElem?_append_left]
    · exact hu
    · exact (List.getElem?_eq_some_iff.1 hu).1
  | y :: l, i + 1, c, x, u, h, hu => by
    simp only [List.getElem?_cons_succ] at h
    have := ptCells_get l i c x u h hu
    simp only [ptCells, List.flatMap_cons] at this ⊢
    rw [List.getElem?_append_right (by rw [Pt.cells_length]; omega), Pt.cells_length, show (i + 1) * 6 + c - 6 = i * 6 + c by omega]
    exact this

theorem ptCells_one (L : List Pt) : ∀ u ∈ ptCells L, u.oneCell' = true := by
  intro u hu
  simp only [ptCells, List.mem_flatMap] at hu
  obtain ⟨x, _, hx⟩ := hu
  simp only [Pt.cells, List.mem_cons] at hx
  rcases hx with rfl | hx
  · simp [Value.oneCell']
  · exact cells_one x.t u hx

theorem part_info : (Try.prog.info? 79).map (fun i => (i.zero, i.size, i.bytes)) = some (some (.agg #[.slice none 0 0, .int .u8 0, .int .i64 0, .string ⟨#[]⟩, .slice none 0 0, .int .i64 0]), 6, 88) := by kernel_rfl

/-- A row of told parts of one's own: the values lie from lo on below hi, the places in the blocks from p0 on below p1, or in new ones. -/
structure Pts (w : World) (base lo hi p0 p1 : Nat) (A : Option Addr) (cap : Nat) (L : List Pt) : Prop where
  own : w.ownsRow base 79 6 (.slice A L.length cap) L.length (ptCells L)
  tr : ∀ x ∈ L, x.t.In w lo hi
  pl : ∀ x ∈ L, ∃ a b, Ints w a b x.A x.c x.p ∧ b ≤ w.heap.size ∧ ((a = p0 ∧ b = p1) ∨ base ≤ a) ∧ ∀ g, (Value.slice A L.length cap).ownBlock = some g → ¬ (a ≤ g ∧ g < b)

section
variable {w w1 w2 w' : World} {base base' lo hi p0 p1 q0 q1 : Nat} {A A1 : Option Addr} {cap cap1 : Nat} {K L : List Pt}

theorem Pts.no (h : Pts w base lo hi p0 p1 A cap L) (hf : Fr No w w') (hh : hi ≤ w.heap.size) : Pts w' base lo hi p0 p1 A cap L where
  own := owns_fr h.own hf (fun _ _ h => h)
  tr := fun x hx => (h.tr x hx).no hf hh
  pl := fun x hx => by
    obtain ⟨a, b, h1, h2, h3, h4⟩ := h.pl x hx
    exact ⟨a, b, h1.no hf h2, by have := hf.size; omega, h3, h4⟩

theorem Pts.less (h : Pts w base lo hi p0 p1 A cap L) (hb : base' ≤ base) : Pts w base' lo hi p0 p1 A cap L where
  own := owns_mono h.own hb
  tr := h.tr
  pl := fun x hx => by
    obtain ⟨a, b, h1, h2, h3, h4⟩ := h.pl x hx
    exact ⟨a, b, h1, h2, h3.imp id (fun h => by omega), h4⟩

/-- One told part. -/
theorem Pts.one (x : Pt) (ht : x.t.In w lo hi) (hi1 : hi ≤ w.heap.size) (hp : Ints w p0 p1 x.A x.c x.p) (hp1 : p1 ≤ w.heap.size) (hb : base ≤ w.heap.size) :
    Pts (w.alloc (.cells x.cells.toArray 79)) base lo hi p0 p1 (some ⟨w.heap.size, 0, none⟩) 1 [x] where
  own := ⟨by simp [ptCells, Pt.cells_length], .inr ⟨w.heap.size, 1, x.cells.toArray, by simp, hb, heap_alloc_new w _, by simp, by unfold maxLen; omega, by simp [Pt.cells_length], by simp [ptCells, List.take_of_length_le (Nat.le_of_eq (Pt.cells_length x))]⟩⟩
  tr := fun y hy => by
    simp at hy; subst hy
    exact ht.no ((Fr.refl No w).alloc _) hi1
  pl := fun y hy => by
    simp at hy; subst hy
    refine ⟨p0, p1, hp.no ((Fr.refl No w).alloc _) hp1, by simp; omega, .inl ⟨rfl, rfl⟩, fun g hg => ?_⟩
    simp [Value.ownBlock] at hg
    omega

/-- A part's parts are laid behind. -/
theorem Pts.push {n : Nat} (h : Pts w base lo hi p0 p1 A cap K) (h1 : Pts w1 w.heap.size lo hi q0 q1 A1 cap1 L) (hq : w.heap.size ≤ q0) (hf : Fr No w w1) (hh : hi ≤ base) (hp : p1 ≤ base) (hbase : base ≤ w.heap.size) {g cp : Nat}
    (hown : w2.ownsRow base 79 6 (.slice (some ⟨g, 0, none⟩) n cp) n (ptCells K ++ ptCells L)) (hn : n = (K ++ L).length) (hgrow : w1.grownBy w2 (Value.slice A K.length cap).ownBlock) (hat : (Value.slice A K.length cap).ownBlock = some g ∨ g = w1.heap.size) :
    Pts w2 base lo hi p0 p1 (some ⟨g, 0, none⟩) cp (K ++ L) ∧ Fr (fun i => some i = (Value.slice A K.length cap).ownBlock) w w2 := by
  subst hn
  have F := fr_grown hgrow
  have hs := hf.size
  have hs2 := F.size
  have hol := owns_lt h.own
  refine ⟨⟨by rw [ptCells_append]; exact hown, fun x hx => ?_, fun x hx => ?_⟩, (hf.no).trans' F (fun i _ h => h)⟩
  · rcases List.mem_append.1 hx with hx | hx
    · exact ((h.tr x hx).no hf (by omega)).fr F (by omega) (fun i h0 h1 hS => by have := hol i hS.symm; omega)
    · exact (h1.tr x hx).fr F (by omega) (fun i h0 h1 hS => by have := hol i hS.symm; omega)
  · rcases List.mem_append.1 hx with hx | hx
    · obtain ⟨a, b, e1, e2, e3, e4⟩ := h.pl x hx
      refine ⟨a, b, (e1.no hf e2).fr F (by omega) (fun i h0 h1 hS => e4 i hS.symm ⟨h0, h1⟩), by omega, e3, fun g' hg' => ?_⟩
      simp [Value.ownBlock] at hg'
      subst hg'
      rcases hat with h | h
      · exact e4 _ h
      · omega
    · obtain ⟨a, b, e1, e2, e3, e4⟩ := h1.pl x hx
      have ha : w.heap.size ≤ a := by rcases e3 with ⟨rfl, -⟩ | h <;> omega
      refine ⟨a, b, e1.fr F e2 (fun i h0 h1 hS => by have := hol i hS.symm; omega), by omega, .inr (by omega), fun g' hg' => ?_⟩
      simp [Value.ownBlock] at hg'
      subst hg'
      rcases hat with h | h
      · have := hol _ h; omega
      · omega

/-- A row's cells, to be laid elsewhere. -/
theorem Pts.news (h : Pts w base lo hi p0 p1 A cap L) (hne : L ≠ []) : ∃ g, A = some ⟨g, 0, none⟩ ∧ ∀ j u, (ptCells L)[j]? = some u → w.cell? ((⟨g, 0, none⟩ : Addr).add j) = some u := by
  have hl : 0 < L.length := List.length_pos_iff.2 hne
  obtain ⟨g, c, hv, -⟩ := h.own.form hl
  simp only [Value.slice.injEq, true_and] at hv
  obtain ⟨rfl, rfl⟩ := hv
  exact ⟨g, rfl, fun j u hu => World.ownsRow.cells h.own (g := g) rfl j u hu⟩

end

end Go.Proofs.Ytihjmipmjogpoaa

/- Chapter 2: the document's walk: a list of told parts. -/
namespace Go.Proofs.Ytihjmipmjogpoaa
open Go.RowKit

/-- What the document's walk gives. -/
def Walk2P (lo hi p0 p1 : Nat) (XS : List (List Int × V)) (w : World) (e : Ending) (w' : World) : Prop :=
  ∃ A cap L, e = .returned (.slice A L.length cap) ∧ L.map Pt.pv = XS ∧ Pts w' w.heap.size lo hi p0 p1 A cap L ∧ Fr No w w'

/-- Where its loop stands. -/
structure W2I (w1 : World) (base lo hi p0 p1 : Nat) (XS : List (List Int × V)) (A : Option Addr) (cap : Nat) (L : List Pt) (wr : World) : Prop where
  pts : Pts wr base lo hi p0 p1 A cap L
  map : L.map Pt.pv = XS
  fr : Fr No w1 wr

set_option maxRecDepth 100000 in
set_option maxHeartbeats 8000000 in
theorem walk2_any (t : T) : ∀ (w : World) (lo hi : Nat) (A : Option Addr) (cap : Nat) (p : List Int) (p0 p1 : Nat), t.In w lo hi → hi ≤ w.heap.size → Ints w p0 p1 A cap p → p1 ≤ w.heap.size → p.length + t.v.ht ≤ 1000 → t.v.size ≤ 100000 →
    Calls Try.prog 110 #[t.val, .slice A p.length cap] w (Walk2P lo hi p0 p1 (t.v.walk p) w) := by
  induction t using T.ind with
  | h k n s A1 cap1 l r ih =>
    intro w lo hi A cap p p0 p1 ht hh hp hp1 hpl hsz
    rw [T.val_mk]
    have fr1 := (Fr.refl No w).alloc (.cells #[.int .u8 k, .int .i64 n, .string s, .slice A1 l.length cap1, .int .i64 r] 27)
    have hK := Blk.new w 27 #[.int .u8 k, .int .i64 n, .string s, .slice A1 l.length cap1, .int .i64 r]
    have ht1 := ht.no fr1 hh
    have hone := Pts.one (w := w.alloc (.cells #[.int .u8 k, .int .i64 n, .string s, .slice A1 l.length cap1, .int .i64 r] 27)) (base := w.heap.size + 1) ⟨p, A, cap, .mk k n s A1 cap1 l r⟩ ht1 (by simp; omega) (hp.no fr1 hp1) (by simp; omega) (by simp)
    have hwk : (T.mk k n s A1 cap1 l r).v.walk p = (p, (T.mk k n s A1 cap1 l r).v) :: walkL ((l.map T.v).map V.walk) 0 p := by
      rw [T.v_mk, V.walk_mk]
    have HWK := hide hwk
    have HONE := hide hone
    have HK := hide hK
    have HT := hide ht
    have HP := hide hp
    have HF1 := hide fr1
    have hlen := (T.in_mk.1 ht).1.len1
    obtain ⟨c0, c1, c2, c3, c4, cf⟩ := hK.cells5
    have q0 := hK.lt
    clear hwk hone hK ht hp fr1 ht1
    go_enter Try.func110, Try.ntmps110
    go_wp2_with fail
    obtain ⟨w1, hw1⟩ : ∃ w1, w.alloc (.cells #[.int .u8 k, .int .i64 n, .string s, .slice A1 l.length cap1, .int .i64 r] 27) = w1 := ⟨_, rfl⟩
    have hs1 : w1.heap.size = w.heap.size + 1 := by rw [← hw1]; simp
    go_loopw [5, 6] (fun out i wr => ∃ (j : Nat) (A5 : Option Addr) (c5 : Nat) (L5 : List Pt), j ≤ l.length ∧ i = .int .i64 j ∧ out = .slice A5 L5.length c5 ∧ W2I w1 (w.heap.size + 1) lo hi p0 p1 ((p, (T.mk k n s A1 cap1 l r).v) :: walkL (((l.map T.v).map V.walk).take j) 0 p) A5 c5 L5 wr) (fun _ i _ => l.length - (intOf i).toNat)
    case atStart =>
      rw [hw1] at HONE ⊢
      have h := HONE.out
      simp only [hs1] at h
      exact ⟨0, _, _, _, Nat.zero_le _, rfl, rfl, h, by simp [Pt.pv, walkL], (Fr.refl No w1).alloc _⟩
    case round =>
      obtain ⟨j, A5, c5, L5, hj, rfl, rfl, inv⟩ := hrel
      rw [hw1] at HF1 HK
      have fr := inv.fr
      have hsz := fr.size
      have hF := HF1.out.trans fr
      have hB := HK.out.fr fr (fun h => h)
      by_cases hlt : j < l.length
      · obtain ⟨b, o, k1, n1, s1, A2, cap2, l1, r1, rfl, hb0, hb1, hx, hin, e0, e1, e2, e3, e4⟩ := T.elem (HT.out.no hF hh) hlt
        have g0 : b < wr.heap.size := by omega
        have hv : l[j].v = (T.mk k1 n1 s1 A2 cap2 l1 r1).v := by rw [hx]
        have hht : (T.mk k1 n1 s1 A2 cap2 l1 r1).v.ht + 1 ≤ (T.mk k n s (some ⟨b, o, none⟩) cap1 l r).v.ht := by
          rw [← hx, T.v_mk k n s]; exact ht_child (List.mem_map_of_mem (List.getElem_mem hlt))
        have htake := walkL_take ((l.map T.v).map V.walk) p (j := j) (by simpa using hlt)
        rw [List.getElem_map, List.getElem_map, hx] at htake
        have hcount : L5.length + (T.mk k1 n1 s1 A2 cap2 l1 r1).v.size ≤ (T.mk k n s (some ⟨b, o, none⟩) cap1 l r).v.size := by
          have h1 := (walkL_prefix ((l.map T.v).map V.walk) p (j + 1)).length_le
          have h2 := congrArg List.length htake
          have h3 := congrArg List.length HWK.out
          have h4 := congrArg List.length inv.map
          simp only [List.length_append, List.length_cons, List.length_map, walk_length] at h1 h2 h3 h4
          omega
        have hrec : ∀ (w7 : World) (g7 c7 : Nat), Fr No wr w7 → Ints w7 g7 (g7 + 1) (some ⟨g7, 0, none⟩) c7 (p ++ [(j : Int)]) → g7 < w7.heap.size →
            Calls Try.prog 110 #[.agg #[.int .u8 k1, .int .i64 n1, .string s1, .slice A2 l1.length cap2, .int .i64 r1], .slice (some ⟨g7, 0, none⟩) (p.length + 1) c7] w7 (Walk2P lo hi g7 (g7 + 1) ((T.mk k1 n1 s1 A2 cap2 l1 r1).v.walk (p ++ [(j : Int)])) w7) := by
          intro w7 g7 c7 f7 i7 h7
          have h := ih l[j] (List.getElem_mem hlt) w7 lo hi (some ⟨g7, 0, none⟩) c7 (p ++ [(j : Int)]) g7 (g7 + 1) (by rw [hx]; exact hin.no f7 (by omega)) (by have := f7.size; omega) i7 h7 (by rw [hx, List.length_append]; simp; omega) (by rw [hx]; omega)
          rw [hx, T.val_mk, List.length_append] at h
          exact h
        have hPI := (HP.out.no hF hp1)
        obtain ⟨i0, hi0, hz0, hz1, hz2⟩ := info_parts int_info
        obtain ⟨i9, hi9, hz90, hz91, hz92⟩ := info_parts part_info
        have hrng : ∀ x ∈ p ++ [(j : Int)], -9223372036854775808 ≤ x ∧ x ≤ 9223372036854775807 := fun x hx => by
          rcases List.mem_append.1 hx with hx | hx
          · exact HP.out.rng x hx
          · simp at hx; omega
        have hpl1 : p.length ≤ 1000000 := by omega
        have HREC := hide hrec
        have HPI := hide hPI
        have HRNG := hide hrng
        have HINV := hide inv
        have HB := hide hB
        have HTK := hide htake
        have HCNT := hide hcount
        have HE := hide (And.intro e0 (And.intro e1 (And.intro e2 (And.intro e3 e4))))
        obtain ⟨d0, d1, d2, d3, d4, df⟩ := hB.cells5
        have dq := hB.lt
        clear hrec hPI hrng inv fr hF hB hv hx hht htake hcount hin ih hpl c0 c1 c2 c3 c4 cf q0 HF1 HT HK HONE e0 e1 e2 e3 e4
        go_wp2_with (first
          | (at_builtin; refine wpList_copy_ints wr (by rfl) _ _ (by rfl) (by rfl) A cap p (by rfl) p0 p1 HPI.out hpl1 ?_; intro vf w5 of5 f5; have of5' := of5.alloc (.cells #[.int .i64 (j : Int)] 3); have HOF5 := hide of5; have HF5 := hide f5; have hs5 := f5.size; clear of5 f5)
          | (at_builtin; refine wpList_append_lies _ (by rfl) _ _ 77 (by rfl) wr.heap.size 3 i0 _ 1 8 Try.underlying77 hi0 hz0 hz1 hz2 (by rfl) (by omega) vf p.length (refCells p) (by rfl) of5' ⟨w5.heap.size, 0, none⟩ 1 1 [.int .i64 (j : Int)] (by rfl) (by rfl) (World.news_of_block (heap_alloc_new w5 _)) (by simp [Value.oneCell']) (by omega) (by unfold maxLen; omega) (by omega) (by simp; omega) (w5.heap.size + 1) (by simp) ?_; intro g7 c7 w7 hown7 hgrow7 hat7 hlt7; have f7 : Fr No wr w7 := (HF5.out.alloc (.cells #[.int .i64 (j : Int)] 3)).trans' (fr_grown hgrow7) (fun i hi h => by have := (owns_lt HOF5.out i h.symm).1; omega); have hg7 := (owns_lt hown7 g7 rfl).1; have HG7 := hide hg7; have HI7 := hide (ints_of_owns (p := p ++ [(j : Int)]) (by simpa [refCells] using hown7) (by simp; omega) HRNG.out); obtain ⟨d0, d1, d2, d3, d4, df⟩ := (HB.out.fr f7 (fun h => h)).cells5; have dq := (HB.out.fr f7 (fun h => h)).lt; have e0 := (f7.cell (b := b) g0 (fun h => h)).trans HE.out.1; have e1 := (f7.cell (b := b) g0 (fun h => h)).trans HE.out.2.1; have e2 := (f7.cell (b := b) g0 (fun h => h)).trans HE.out.2.2.1; have e3 := (f7.cell (b := b) g0 (fun h => h)).trans HE.out.2.2.2.1; have e4 := (f7.cell (b := b) g0 (fun h => h)).trans HE.out.2.2.2.2; have hs7 := f7.size; have HF7 := hide f7; clear f7 hown7 hgrow7 hat7 hg7 of5'))
        refine (HREC.out w7 g7 c7 HF7.out HI7.out (by assumption)).mono ?_
        rintro e w8 ⟨A8, c8, L8, rfl, hm8, pts8, f8⟩
        have hne : L8 ≠ [] := fun h => by
          obtain ⟨r, hr⟩ := walk_hd (T.mk k1 n1 s1 A2 cap2 l1 r1).v (p ++ [(j : Int)])
          rw [hr, h] at hm8
          cases hm8
        obtain ⟨g8, rfl, hnews⟩ := pts8.news hne
        have hlen8 : L8.length = (T.mk k1 n1 s1 A2 cap2 l1 r1).v.size := by
          have h := congrArg List.length hm8
          simpa [walk_length] using h
        have hc8 : L5.length + L8.length ≤ 100000 := by have := HCNT.out; omega
        have hp8 : 0 < L8.length := List.length_pos_iff.2 hne
        have hown8 := owns_fr HINV.out.pts.own (HF7.out.trans f8) (fun _ _ h => h)
        have hs8 := f8.size
        have hln8 := ptCells_length L8
        have hon8 := ptCells_one L8
        have HPT8 := hide pts8
        have HM8 := hide hm8
        have HF8 := hide (HF7.out.trans f8)
        have HLO := hide hnews
        clear pts8 hm8 f8 hlen8 hne hnews
        go_wp2_with (at_builtin; refine wpList_append_lies _ (by rfl) _ _ 75 (by rfl) (w.heap.size + 1) 79 i9 _ 6 88 Try.underlying75 hi9 hz90 hz91 hz92 (by rfl) (by omega) (.slice A5 L5.length c5) L5.length (ptCells L5) (by rfl) hown8 ⟨g8, 0, none⟩ L8.length c8 (ptCells L8) (by rfl) hln8 HLO.out hon8 hp8 (by unfold maxLen; omega) (by omega) (by omega) w8.heap.size rfl ?_; intro g9 c9 w9 hown9 hgrow9 hat9 hlt9; have HP9 := hide (HINV.out.pts.push (HPT8.out.less HF7.out.size) HG7.out HF8.out (by omega) (by omega) (by omega) hown9 (by simp) hgrow9 hat9); clear hown9 hgrow9 hat9 hlt9)
        go_roundw
        case rel =>
          obtain ⟨h1, h2⟩ := HP9.out
          have hol := owns_lt HINV.out.pts.own
          refine ⟨j + 1, some ⟨g9, 0, none⟩, c9, L5 ++ L8, hlt, by go_num, by rw [List.length_append], h1, ?_, HINV.out.fr.trans' h2 (fun i hi h => by have := (hol i h.symm).1; omega)⟩
          rw [List.map_append, HINV.out.map, HM8.out, HTK.out]
          rfl
        case measure => simp [intOf]; omega
      · obtain rfl : j = l.length := by omega
        have hpost : Walk2P lo hi p0 p1 ((T.mk k n s A1 cap1 l r).v.walk p) w (.returned (.slice A5 L5.length c5)) wr := by
          refine ⟨A5, c5, L5, rfl, ?_, inv.pts.less (by omega), hF⟩
          rw [inv.map, HWK.out, List.take_of_length_le (by simp)]
        have HP := hide hpost
        obtain ⟨d0, d1, d2, d3, d4, df⟩ := hB.cells5
        have dq := hB.lt
        clear hpost inv ih fr hF hB c0 c1 c2 c3 c4 cf q0
        go_wp2
        go_ret
        exact HP.out

end Go.Proofs.Ytihjmipmjogpoaa

/- Chapter 2: Each's functions, as iterators. -/
namespace Go.Proofs.Ytihjmipmjogpoaa
open Go.RowKit

theorem ite_wpIn {P : Program} {n : Nat} {o : Oper} {a : Act} {w : World} {K : Act → World → Prop} {Q : Exit → Act → World → Prop} {c : Prop} [Decidable c] {R : Prop} (h : if c then o.wp P a w K Q else R) : if c then o.wpIn Fence.wide n P a w K Q else R := by
  split
  · rename_i hc; rw [if_pos hc] at h; exact wpIn_of_wp h
  · rename_i hc; rw [if_neg hc] at h; exact h

/-- Between two parts: besides, the box that holds yield. -/
structure J7 (J : List (List Int × V) → (Nat → Prop) → World → Prop) (l gb s0 : Nat) (pre : List (List Int × V)) (M : Nat → Prop) (W : World) : Prop where
  j : J pre M W
  b : Blk W gb 144 #[.func (.yield l) #[] #[]]
  n : ¬ M gb
  s : s0 ≤ W.heap.size

/-- What 107 leaves. -/
def Dn107 (J Jx : List (List Int × V) → (Nat → Prop) → World → Prop) (l gb s0 : Nat) (pre : List (List Int × V)) (M : Nat → Prop) (W : World) (x : List Int × V) (r : Value) (w : World) : Prop :=
  ∃ M' : Nat → Prop, Fr M W w ∧ (∀ i, M' i → i < W.heap.size → M i) ∧ ((r = .bool true ∧ J7 J l gb s0 (pre ++ [x]) M' w) ∨ (r = .bool false ∧ Jx (pre ++ [x]) M' w))

set_option maxRecDepth 100000 in
set_option maxHeartbeats 8000000 in
theorem f107_any {XS : List (List Int × V)} {l gb s0 : Nat} {J Jx : List (List Int × V) → (Nat → Prop) → World → Prop} (hno : ∀ pre M W W', J pre M W → Fr No W W' → J pre M W') (hlt : ∀ pre M W, J pre M W → ∀ i, M i → i < W.heap.size)
    (hround : ∀ pre M W1 x args B, J pre M W1 → pre ++ [x] <+: XS → OkP x args B W1 → (∀ i, B i → s0 ≤ i ∧ i < W1.heap.size ∧ ¬ M i) → YieldAt Fence.wide 2 Try.prog l args W1 fun e W' =>
      ∃ M' : Nat → Prop, Fr (fun i => M i ∨ B i) W1 W' ∧ (∀ i, M' i → i < W1.heap.size → M i) ∧ ((e = .returned (.bool true) ∧ J (pre ++ [x]) M' W') ∨ (e = .returned (.bool false) ∧ Jx (pre ++ [x]) M' W')))
    (pre : List (List Int × V)) (M : Nat → Prop) (W : World) (x : T) (lo hi : Nat) (A : Option Addr) (cap : Nat) (p : List Int) (lo' hi' : Nat) (hlen : pre ++ [(p, x.v)] <+: XS) (hJ : J7 J l gb s0 pre M W) (hx : x.In W lo hi) (hh : hi ≤ W.heap.size)
    (hp : Ints W lo' hi' A cap p) (hh' : hi' ≤ W.heap.size) : Calls Try.prog 107 #[.slice A p.length cap, x.val, .pointer (some ⟨gb, 0, none⟩)] W fun e w' => ∃ b : Bool, e = .returned (.bool b) ∧ Dn107 J Jx l gb s0 pre M W (p, x.v) (.bool b) w' := by
  have hb := hJ.b
  have hcl := fun w' (f : Fr No (W.alloc (.cells x.cells.toArray 27)) w') => cloneI_any A cap p w' lo' hi' (hp.no (((Fr.refl No W).alloc _).trans f) hh') (Nat.le_trans hh' (((Fr.refl No W).alloc _).trans f).size)
  have how := fun w' (f : Fr No (W.alloc (.cells x.cells.toArray 27)) w') => own2_any x w' lo hi (hx.no (((Fr.refl No W).alloc _).trans f) hh) (Nat.le_trans hh (((Fr.refl No W).alloc _).trans f).size)
  have hW1 : Fr No W (W.alloc (.cells x.cells.toArray 27)) := (Fr.refl No W).alloc _
  have hbx := Blk.new W 27 x.cells.toArray
  have hgb1 := hb.alloc (.cells x.cells.toArray 27)
  obtain ⟨XV, hXV⟩ : ∃ XV, x.v = XV := ⟨_, rfl⟩
  rw [hXV] at hlen ⊢
  obtain ⟨k, n, s, B0, cb, la, r⟩ := x
  rw [T.val_mk] at *
  have hcx : (T.mk k n s B0 cb la r).cells.toArray = #[.int .u8 k, .int .i64 n, .string s, .slice B0 la.length cb, .int .i64 r] := rfl
  rw [hcx] at hcl how hW1 hbx hgb1
  obtain ⟨c0, c1, c2, c3, c4, -⟩ := hbx.cells5
  have cg := hgb1.cell 0
  simp only [List.getElem?_toArray, List.getElem?_cons_zero] at cg
  have q0 := hbx.lt
  have q1 := hgb1.lt
  have HCL := hide hcl
  have HOW := hide how
  have HW1 := hide hW1
  have HGB := hide hb
  have HNG := hide hJ.n
  have HS0 := hide hJ.s
  have HJ0 := hide hJ.j
  have HLT := hide (hlt _ _ _ hJ.j)
  have HXE := hide hXV
  have HRG := hide hp.rng
  have HLN := hide hp.len
  clear hcl how hW1 hb hJ hx hp hbx hgb1 hXV hcx
  have hs0 := HS0.out
  go_enter Try.func107, Try.ntmps107
  go_wp2_with fail
  go_upto_region 1 with (fail)
  generalize World.alloc W _ = W1 at *
  refine (wpIn_wide (n := 3)).1 ?_
  refine wpIn_region_inv (I := fun a0 f a w' => ∃ x5 x6 x7 x8 x9 x10 x11 x12 A' c' t', a = ((((((((a0.put (some 5) x5).put (some 6) x6).put (some 7) x7).put (some 8) x8).put (some 9) x9).put (some 10) x10).put (some 11) x11).put (some 12) x12) ∧ CI W1 p (T.mk k n s B0 cb la r) l gb (Dn107 J Jx l gb s0 pre M W (p, XV)) f x5 x6 x7 x8 x9 x10 x11 x12 A cap A' c' t' w') (by kernel_rfl) (by kernel_rfl) ?st ?step ?en
  case st => exact ⟨_, _, _, _, _, _, _, _, _, _, _, rfl, fun _ => C5.begin, nofun, nofun⟩
  case step =>
      rintro i o f a w' ho hf hd ⟨x5, x6, x7, x8, x9, x10, x11, x12, A', c', t', rfl, J⟩ K' hK
      have hi := (Array.getElem?_eq_some_iff.1 ho).1
      simp only [List.size_toArray, List.length_cons, List.length_nil] at hi
      have hid : i = 0 ∨ i = 1 ∨ i = 2 ∨ i = 3 ∨ i = 4 ∨ i = 5 ∨ i = 6 ∨ i = 7 := by omega
      simp only [Act.put, List.setIfInBounds_toArray, List.set_cons_zero, List.set_cons_succ]
      rcases hid with rfl | rfl | rfl | rfl | rfl | rfl | rfl | rfl
      · simp only [List.getElem?_toArray, List.getElem?_cons_succ, List.getElem?_cons_zero, Option.some.injEq] at ho; subst ho
        have C := J.pre (J.not6 (by omega) hf).1
        have hcs := C.fr.cells
        have hsz := C.fr.size
        have hg : gb < w'.heap.size := by omega
        have HJ := hide J
        have HC := hide C
        clear J C hd
        refine ite_wpIn ?_
        go_simp
        exact hK.out _ _ ⟨_, _, _, _, _, _, _, _, _, _, _, by simp only [Act.put, List.setIfInBounds_toArray, List.set_cons_zero, List.set_cons_succ] <;> rfl, HJ.out.up (by omega) hf (HC.out.load0)⟩
      · simp only [List.getElem?_toArray, List.getElem?_cons_succ, List.getElem?_cons_zero, Option.some.injEq] at ho; subst ho
        have C := J.pre (J.not6 (by omega) hf).1
        have HJ := hide J
        have HC := hide C
        clear J C hd
        refine ite_wpIn ?_
        go_simp
        exact hK.out _ _ ⟨_, _, _, _, _, _, _, _, _, _, _, by simp only [Act.put, List.setIfInBounds_toArray, List.set_cons_zero, List.set_cons_succ] <;> rfl, HJ.out.up (by omega) hf (HC.out.move1)⟩
      · simp only [List.getElem?_toArray, List.getElem?_cons_succ, List.getElem?_cons_zero, Option.some.injEq] at ho; subst ho
        have C := J.pre (J.not6 (by omega) hf).1
        have h1 := hd ⟨1, .data⟩ (by simp) (by rfl)
        have h0 := C.m7 h1
        subst h0
        have HH1 := hide h1
        clear h1
        have HJ := hide J
        have HC := hide C
        clear J C hd
        refine ite_wpIn ?_
        go_simp
        go_at_call 108
        refine (HCL.out _ HC.out.fr).mono ?_
        rintro e w4 ⟨A2, c2, rfl, ho2, f4⟩
        exact hK.out _ _ ⟨_, _, _, _, _, _, _, _, _, _, _, by simp only [Act.put, List.setIfInBounds_toArray, List.set_cons_zero, List.set_cons_succ] <;> rfl, HJ.out.up (by omega) hf (HC.out.call2 hf HH1.out ho2 f4)⟩
      · simp only [List.getElem?_toArray, List.getElem?_cons_succ, List.getElem?_cons_zero, Option.some.injEq] at ho; subst ho
        have C := J.pre (J.not6 (by omega) hf).1
        have hcs := C.fr.cells
        have hsz := C.fr.size
        have hg : W.heap.size < w'.heap.size := by omega
        have HJ := hide J
        have HC := hide C
        clear J C hd
        refine ite_wpIn ?_
        go_simp
        exact hK.out _ _ ⟨_, _, _, _, _, _, _, _, _, _, _, by simp only [Act.put, List.setIfInBounds_toArray, List.set_cons_zero, List.set_cons_succ] <;> rfl, HJ.out.up (by omega) hf (HC.out.load3)⟩
      · simp only [List.getElem?_toArray, List.getElem?_cons_succ, List.getElem?_cons_zero, Option.some.injEq] at ho; subst ho
        have C := J.pre (J.not6 (by omega) hf).1
        have h1 := hd ⟨3, .data⟩ (by simp) (by rfl)
        have h0 := C.l9 h1
        rw [T.val_mk] at h0
        subst h0
        have HH1 := hide h1
        clear h1
        have HJ := hide J
        have HC := hide C
        clear J C hd
        refine ite_wpIn ?_
        go_simp
        go_at_call 104
        refine (HOW.out _ HC.out.fr).mono ?_
        rintro e w4 ⟨t2, rfl, hv2, hsh2, f4⟩
        exact hK.out _ _ ⟨_, _, _, _, _, _, _, _, _, _, _, by simp only [Act.put, List.setIfInBounds_toArray, List.set_cons_zero, List.set_cons_succ] <;> rfl, HJ.out.up (by omega) hf (HC.out.call4 hf HH1.out hv2 hsh2 f4)⟩
      · simp only [List.getElem?_toArray, List.getElem?_cons_succ, List.getElem?_cons_zero, Option.some.injEq] at ho; subst ho
        have C := J.pre (J.not6 (by omega) hf).1
        have h2 := hd ⟨2, .data⟩ (by simp) (by rfl)
        have h4 := hd ⟨4, .data⟩ (by simp) (by rfl)
        obtain ⟨-, rfl, -⟩ := C.c8 h2
        obtain ⟨-, e10, -, -⟩ := C.c10 h4
        obtain ⟨k5, n5, s5, A5, cap5, l5, r5⟩ := t'
        rw [T.val_mk] at e10
        subst e10
        have HH2 := hide h2
        have HH4 := hide h4
        clear h2 h4
        have HJ := hide J
        have HC := hide C
        clear J C hd
        refine ite_wpIn ?_
        go_simp
        exact hK.out _ _ ⟨_, _, _, _, _, _, _, _, _, _, _, by simp only [Act.put, List.setIfInBounds_toArray, List.set_cons_zero, List.set_cons_succ] <;> rfl, HJ.out.up (by omega) hf (HC.out.build5 HH2.out HH4.out)⟩
      · simp only [List.getElem?_toArray, List.getElem?_cons_succ, List.getElem?_cons_zero, Option.some.injEq] at ho; subst ho
        have h0 := hd ⟨0, .data⟩ (by simp) (by rfl)
        have h5 := hd ⟨5, .data⟩ (by simp) (by rfl)
        have C := J.pre hf
        obtain ⟨k5, n5, s5, A5, cap5, l5, r5⟩ := t'
        obtain ⟨h2, h4, e11⟩ := C.b11 h5
        have e11' : x11 = .agg #[.slice A' p.length c', .int .u8 k5, .int .i64 n5, .string s5, .slice A5 l5.length cap5, .int .i64 r5] := e11
        clear e11
        subst e11'
        obtain ⟨h1, rfl, hown⟩ := C.c8 h2
        obtain ⟨h3, rfl, hv, hsh⟩ := C.c10 h4
        have e6 := C.l6 h0
        subst e6
        have hsep := C.sep h2 h4
        have hfr : Fr No W w' := HW1.out.trans C.fr
        have hlow := HW1.out.size
        have hsz := C.fr.size
        have hB : ∀ i, OkB (p, XV) A' c' (T.mk k5 n5 s5 A5 cap5 l5 r5) i → W1.heap.size ≤ i ∧ i < w'.heap.size := fun i hi => by
          rcases hi with hi | hi
          · exact owns_lt hown i hi
          · exact T.In.blocks _ hsh.inn i hi
        obtain ⟨fn, tmps, assign, body, hy, hR⟩ := hround pre M w' (p, XV) #[.agg #[.slice A' p.length c', .int .u8 k5, .int .i64 n5, .string s5, .slice A5 l5.length cap5, .int .i64 r5]] _ (hno _ _ _ _ HJ0.out hfr) hlen ⟨A', c', T.mk k5 n5 s5 A5 cap5 l5 r5, W1.heap.size, rfl, rfl, hown, hsh, hv.trans HXE.out, hsep, HRG.out, HLN.out⟩ (fun i hi => ⟨by have := hB i hi; omega, (hB i hi).2, fun h => by have := hB i hi; have := HLT.out i h; omega⟩)
        have hall : ∀ i, i < 6 → f i = true := fun i hi => by
          have : i = 0 ∨ i = 1 ∨ i = 2 ∨ i = 3 ∨ i = 4 ∨ i = 5 := by omega
          rcases this with rfl | rfl | rfl | rfl | rfl | rfl <;> assumption
        have h7 : f 7 = false := by
          cases h7 : f 7 with
          | false => rfl
          | true => have := (J.fin h7).1; rw [hf] at this; cases this
        have HALL := hide hall
        have H7 := hide h7
        have HBB := hide hB
        have HFR := hide hfr
        clear J C hd h0 h1 h2 h3 h4 h5 hown hv hsh hsep hall h7 hB hfr
        go_simp
        refine hR.mono ?_
        rintro e w4 ⟨M', f4, hsub, hres⟩
        have hDn : ∃ b : Bool, e = .returned (.bool b) ∧ Dn107 J Jx l gb s0 pre M W (p, XV) (.bool b) w4 := by
          have hF : Fr M W w4 := (HFR.out.no (S := M)).trans' f4 fun i hi h => by
            rcases h with h | h
            · exact h
            · have := (HBB.out i h).1; omega
          have hgbW := HGB.out.lt
          have hb4 : Blk w4 gb 144 #[.func (.yield l) #[] #[]] := (HGB.out.fr HFR.out fun h => h).fr f4 (fun h => by
            rcases h with h | h
            · exact HNG.out h
            · have := (HBB.out _ h).1; omega)
          rcases hres with ⟨rfl, hj⟩ | ⟨rfl, hj⟩
          · exact ⟨true, rfl, M', hF, fun i h1 h2 => hsub i h1 (by have := HFR.out.size; omega), .inl ⟨rfl, hj, hb4, fun h => HNG.out (hsub gb h (by have := HFR.out.size; omega)), by have := f4.size; omega⟩⟩
          · exact ⟨false, rfl, M', hF, fun i h1 h2 => hsub i h1 (by have := HFR.out.size; omega), .inr ⟨rfl, hj⟩⟩
        obtain ⟨b, rfl, hDn⟩ := hDn
        exact hK.out _ _ ⟨_, _, _, _, _, _, _, _, A', c', T.mk k5 n5 s5 A5 cap5 l5 r5, by simp only [Act.put, List.setIfInBounds_toArray, List.set_cons_zero, List.set_cons_succ] <;> rfl, ⟨fun h => by simp [upd] at h, fun _ => ⟨fun i hi => by simp only [upd, Bool.or_eq_true]; exact .inr (HALL.out i hi), hDn⟩, fun h => by simp [upd, H7.out] at h⟩⟩
      · simp only [List.getElem?_toArray, List.getElem?_cons_succ, List.getElem?_cons_zero, Option.some.injEq] at ho; subst ho
        have h6 := hd ⟨6, .data⟩ (by simp) (by rfl)
        have HH6 := hide h6
        have HJ := hide J
        clear J hd h6
        refine ite_wpIn ?_
        go_simp
        exact hK.out _ _ ⟨_, _, _, _, _, _, _, _, A', c', t', by simp only [Act.put, List.setIfInBounds_toArray, List.set_cons_zero, List.set_cons_succ] <;> rfl, ⟨fun h => by have h' : (6 == 7 || f 6) = false := h; rw [HH6.out] at h'; simp at h', fun _ => ⟨fun i hi => by simp only [upd, Bool.or_eq_true]; exact .inr ((HJ.out.post HH6.out).1 i hi), (HJ.out.post HH6.out).2⟩, fun _ => ⟨by simp [upd, HH6.out], rfl⟩⟩⟩
  case en =>
      rintro f a w' hall ⟨x5, x6, x7, x8, x9, x10, x11, x12, A', c', t', rfl, J⟩
      have h6 : f 6 = true := hall 6 (by simp)
      have h7 : f 7 = true := hall 7 (by simp)
      obtain ⟨-, hDn⟩ := J.post h6
      obtain ⟨-, rfl⟩ := J.fin h7
      have hb : ∃ b : Bool, x5 = .bool b := by
        obtain ⟨M', -, -, ⟨rfl, -⟩ | ⟨rfl, -⟩⟩ := hDn
        · exact ⟨true, rfl⟩
        · exact ⟨false, rfl⟩
      obtain ⟨b, rfl⟩ := hb
      have HD := hide hDn
      clear J hDn h6 h7 hall
      simp only [Act.put, List.setIfInBounds_toArray, List.set_cons_zero, List.set_cons_succ]
      go_wp2_with fail
      go_ret
      exact ⟨b, rfl, HD.out⟩

end Go.Proofs.Ytihjmipmjogpoaa

/- Chapter 2: Each's functions, as iterators. -/
namespace Go.Proofs.Ytihjmipmjogpoaa
open Go.RowKit

theorem y107 {XS : List (List Int × V)} {l gb s0 : Nat} {J Jx : List (List Int × V) → (Nat → Prop) → World → Prop} (hno : ∀ pre M W W', J pre M W → Fr No W W' → J pre M W') (hlt : ∀ pre M W, J pre M W → ∀ i, M i → i < W.heap.size)
    (hround : ∀ pre M W1 x args B, J pre M W1 → pre ++ [x] <+: XS → OkP x args B W1 → (∀ i, B i → s0 ≤ i ∧ i < W1.heap.size ∧ ¬ M i) → YieldAt Fence.wide 2 Try.prog l args W1 fun e W' =>
      ∃ M' : Nat → Prop, Fr (fun i => M i ∨ B i) W1 W' ∧ (∀ i, M' i → i < W1.heap.size → M i) ∧ ((e = .returned (.bool true) ∧ J (pre ++ [x]) M' W') ∨ (e = .returned (.bool false) ∧ Jx (pre ++ [x]) M' W'))) :
    YieldsN XS 107 #[.pointer (some ⟨gb, 0, none⟩)] (J7 J l gb s0) Jx where
  enters := enters_fn2 Try.func107 (by kernel_rfl) rfl
  call := fun pre M W x lo hi A cap p lo' hi' hl hJ hx hh _ hp hh' _ => (f107_any hno hlt hround pre M W x lo hi A cap p lo' hi' hl hJ hx hh hp hh').mono fun e W' ⟨b, he, M', h1, h2, h3⟩ => by
    refine ⟨M', h1, h2, ?_⟩
    rcases h3 with ⟨hb, h3⟩ | ⟨hb, h3⟩
    · exact .inl ⟨by rw [he, hb], h3⟩
    · exact .inr ⟨by rw [he, hb], h3⟩
  no := fun h f => ⟨hno _ _ _ _ h.j f, h.b.fr f fun h => h, h.n, Nat.le_trans h.s f.size⟩
  lt := fun pre M W h => hlt _ _ _ h.j

set_option maxRecDepth 100000 in
set_option maxHeartbeats 4000000 in
theorem iter105 (t : T) (gv lo hi : Nat) (w : World) (hB : Blk w gv 27 t.cells.toArray) (hin : t.In w lo hi) (hh : hi ≤ w.heap.size) (hht : t.v.ht ≤ 1000) : Iter Try.prog 105 #[.pointer (some ⟨gv, 0, none⟩)] OkP (t.v.walk []) (fun i => lo ≤ i ∧ i < hi) w := by
  intro l J Jx W M hf hno hlt hround hAv hJ
  have hMlt := hlt _ _ _ hJ
  have f1 : Fr No W (W.alloc (.cells #[.func (.yield l) #[] #[]] 144)) := (Fr.refl No W).alloc _
  have hbW := hB.fr hf fun h => h
  have hb1 := Blk.new W 144 #[.func (.yield l) #[] #[]]
  have hJ7 : J7 J l W.heap.size W.heap.size [] M (W.alloc (.cells #[.func (.yield l) #[] #[]] 144)) := ⟨hno _ _ _ _ hJ f1, hb1, fun h => by have := hMlt _ h; omega, f1.size⟩
  have hsw := hf.size
  have hw := walkN_any (y107 (XS := t.v.walk []) (l := l) (gb := W.heap.size) (s0 := W.heap.size) (J := J) (Jx := Jx) hno hlt hround) t [] M (W.alloc (.cells #[.func (.yield l) #[] #[]] 144)) lo hi none 0 [] 0 0 hJ7 (hin.no (hf.trans f1) hh) (Nat.le_trans (by omega : hi ≤ W.heap.size) f1.size) (fun i h0 h1 h2 => hAv i h2 (by omega) ⟨h0, h1⟩) (ints_nil _) (Nat.zero_le _) (fun i h0 h1 => by omega) (by simp; omega) (by simp)
  obtain ⟨XV, hXV⟩ : ∃ XV, t.v.walk [] = XV := ⟨_, rfl⟩
  rw [hXV] at hw ⊢
  obtain ⟨k, n, s, A, cap, la, r⟩ := t
  rw [T.val_mk] at hw
  have hcx : (T.mk k n s A cap la r).cells.toArray = #[.int .u8 k, .int .i64 n, .string s, .slice A la.length cap, .int .i64 r] := rfl
  rw [hcx] at hbW
  have hbW1 := hbW.alloc (.cells #[.func (.yield l) #[] #[]] 144)
  obtain ⟨c0, c1, c2, c3, c4, -⟩ := hbW1.cells5
  have q0 := hbW1.lt
  have HW := hide hw
  have HF1 := hide f1
  clear hw hJ7 hJ hbW hbW1 hb1 hXV hB hin hround hno hlt hAv f1 hcx
  go_enter Try.func105, Try.ntmps105
  go_wp2_with fail
  refine HW.out.mono ?_
  rintro e w2 ⟨M', f2, hsub, hres⟩
  have hpost : (∃ v, e = .returned v) ∧ Fr M W w2 ∧ (∀ i, M' i → i < W.heap.size → M i) ∧ (J XV M' w2 ∨ ∃ q, q <+: XV ∧ Jx q M' w2) := by
    have hs1 := HF1.out.size
    refine ⟨?_, (HF1.out.no (S := M)).trans f2, fun i h1 h2 => hsub i h1 (by omega), ?_⟩
    · rcases hres with ⟨h, -⟩ | ⟨h, -⟩ <;> exact ⟨_, h⟩
    · rcases hres with ⟨-, h⟩ | ⟨-, q, hq, h⟩
      · exact .inl (by simpa using h.j)
      · exact .inr ⟨q, hq, by simpa using h⟩
  obtain ⟨⟨v, rfl⟩, h1, h2, h3⟩ := hpost
  have H1 := hide h1
  have H2 := hide h2
  have H3 := hide h3
  clear hres f2 hsub h1 h2 h3
  go_wp2
  go_end0
  exact ⟨⟨_, rfl⟩, M', H1.out, H2.out, H3.out⟩

theorem iter103 {α : Type} (Ok : α → Array Value → (Nat → Prop) → World → Prop) (Av : Nat → Prop) (w : World) : Iter Try.prog 103 #[] Ok [] Av w := by
  intro l J Jx W M hf hno hlt hround hAv hJ
  have HJ := hide hJ
  clear hJ hround hno hlt
  go_enter Try.func103, Try.ntmps103
  go_wp2
  go_end0
  exact ⟨⟨_, rfl⟩, M, Fr.refl _ _, fun _ h _ => h, .inl HJ.out⟩

end Go.Proofs.Ytihjmipmjogpoaa

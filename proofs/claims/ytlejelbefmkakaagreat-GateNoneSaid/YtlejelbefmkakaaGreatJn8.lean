/- Texts joined: Wg15, Wg16, Wg11, Wg13, Wg17, Wg1, Wg2, Wg6. -/
import Derived.Test.YtlejelbefmkakaaGreatJn7
import Derived.RangeFuncOwn
import Derived.LoopN
import Derived.RangeFuncBound
import Derived.RangeFuncCalls
import Derived.OwnWalkIn
import Derived.TacticsInMore
import Derived.LoopNIn
import Derived.LoopIn
/- slices.AppendSeq, Collect, of numbers gone over; layer 12: Gates. -/
namespace Go.Proofs.YtlejelbefmkakaaGreat
open Go.RowKit
attribute [local go_sem] Oper.semAt_some

theorem wpListIn_append_lies {F : Fence} {n : Nat} {P : Program} (w : World) {ops : Array Oper} {rest : List Oper} {o : Oper} {a : Act} {Q : Exit → Act → World → Prop}
    (hg : o.guard = none) (s x : Operand) (t : TypeId) (hop : o.op = Op.call { callee := Callee.builtin Builtin.append, args := #[s, x], argTypes := #[t, t] })
    (base : Nat) (e : TypeId) (i : TypeInfo) (z : Value) (size bytes : Nat) (h1 : P.underlying t = some (.slice e)) (h2 : P.info? e = some i) (h3 : i.zero = some z) (h4 : i.size = size) (h5 : i.bytes = bytes) (h6 : z.cells.size = size) (h7 : 0 < size)
    (v : Value) (k : Nat) (xs : List Value) (hs : a.eval s = v) (hown : w.ownsRow base e size v k xs) (ad : Addr) (m c : Nat) (news : List Value) (hx : a.eval x = .slice (some ad) m c) (hn : news.length = m * size)
    (hc : ∀ j u, news[j]? = some u → w.cell? (ad.add j) = some u) (h1c : ∀ u ∈ news, u.oneCell' = true) (hm : 0 < m) (b1 : k + m ≤ maxLen) (b2 : (k + m) * bytes ≤ 140737488355328) (b3 : base ≤ w.heap.size) (H : Nat) (hH : w.heap.size = H)
    (hK : ∀ g cap w', w'.ownsRow base e size (.slice (some ⟨g, 0, none⟩) (k + m) cap) (k + m) (xs ++ news) → w.grownBy w' v.ownBlock → (v.ownBlock = some g ∨ g = H) → g < w'.heap.size → wpListIn F n P ops Q rest (a.put o.dst (.slice (some ⟨g, 0, none⟩) (k + m) cap)) w') :
    wpListIn F n P ops Q (o :: rest) a w := by
  refine wpListIn_plain hg fun K hK' => ?_
  obtain ⟨g, cap, w', hrun, r1, r2, r3, r4⟩ := run_append_lies (P := P) w t o.type base e i z size bytes h1 h2 h3 h4 h5 h6 h7 v k xs hown ad m c news hn hc h1c hm b1 b2 b3 H hH
  unfold Oper.wpIn
  refine ⟨?_, ?_⟩
  · simp [Oper.about, hop, resolve, Target.leads, Sem.run_pure]
  · rw [Oper.semAt_plain F _ _ (by rw [hop]; intro c hc'; cases hc')]
    simp [execOp, hop, resolve, invoke, builtin, hs, hx, hrun, Result.andThen]
    exact hK' _ _ (hK g cap w' r1 r2 r3 r4)

/-- A function that goes over some numbers. -/
structure Goes (gf : Nat) (lb : Array Value) (xs : List Int) (Av : Nat → Prop) (w : World) : Prop where
  enters : ∀ args w, (callFunc gf args).run Tryz.prog w = .ok (.enter gf args) w
  iter : ∀ w', Fr No w w' → Iter Tryz.prog gf lb OkR xs Av w'
  av : ∀ i, Av i → i < w.heap.size

/-- What has been collected. -/
def CJ (g base : Nat) (pre : List Int) (M : Nat → Prop) (W : World) : Prop :=
  g < base ∧ base ≤ W.heap.size ∧ ∃ v, Blk W g 54 #[v] ∧ W.ownsRow base 22 1 v pre.length (pre.map fun r => Value.int .i64 r) ∧ ∀ i, M i ↔ (i = g ∨ v.ownBlock = some i)

theorem CJ.stay {g base : Nat} {pre : List Int} {M : Nat → Prop} {W W' : World} {S : Nat → Prop} (h : CJ g base pre M W) (hf : Fr S W W') (hs : ∀ i, i < W.heap.size → S i → ¬ M i) : CJ g base pre M W' := by
  obtain ⟨h0, h1, v, hb, ho, hM⟩ := h
  exact ⟨h0, Nat.le_trans h1 hf.size, v, hb.fr hf (fun h => hs g hb.lt h ((hM g).2 (.inl rfl))), owns_fr ho hf (fun i hi h => hs i (owns_lt ho i hi).2 h ((hM i).2 (.inr hi))), hM⟩

theorem CJ.lt {g base : Nat} {pre : List Int} {M : Nat → Prop} {W : World} (h : CJ g base pre M W) : ∀ i, M i → i < W.heap.size := by
  obtain ⟨h0, h1, v, hb, ho, hM⟩ := h
  intro i hi
  rcases (hM i).1 hi with rfl | h
  · exact hb.lt
  · exact (owns_lt ho i h).2

theorem CJ.push {g base : Nat} {pre : List Int} {M : Nat → Prop} {W w1 : World} {v : Value} {x : Int} {g2 cap2 : Nat} (h0 : g < base) (h1 : base ≤ W.heap.size) (hb : Blk W g 54 #[v]) (ho : W.ownsRow base 22 1 v pre.length (pre.map fun r => Value.int .i64 r)) (hM : ∀ i, M i ↔ (i = g ∨ v.ownBlock = some i))
    (hown : w1.ownsRow base 22 1 (.slice (some ⟨g2, 0, none⟩) (pre.length + 1) cap2) (pre.length + 1) ((pre.map fun r => Value.int .i64 r) ++ [.int .i64 x])) (hgrow : (W.alloc (.cells #[.int .i64 x] 22)).grownBy w1 v.ownBlock) (hat : v.ownBlock = some g2 ∨ g2 = W.heap.size + 1) :
    Fr M W (w1.setCell ⟨g, 0, none⟩ (.slice (some ⟨g2, 0, none⟩) (pre.length + 1) cap2)) ∧ ∃ M' : Nat → Prop, (∀ i, M' i → i < W.heap.size → M i) ∧ CJ g base (pre ++ [x]) M' (w1.setCell ⟨g, 0, none⟩ (.slice (some ⟨g2, 0, none⟩) (pre.length + 1) cap2)) := by
  have fA : Fr M W (W.alloc (.cells #[.int .i64 x] 22)) := ((Fr.refl No W).alloc _).no
  have fB : Fr M W w1 := fA.grown hgrow fun i hi hlt => (hM i).2 (.inr hi)
  have fC : Fr M W (w1.setCell ⟨g, 0, none⟩ (.slice (some ⟨g2, 0, none⟩) (pre.length + 1) cap2)) := fB.set (fun _ => (hM g).2 (.inl rfl)) _
  have hg2 : base ≤ g2 := (owns_lt hown g2 rfl).1
  have hb1 := hb.alloc (.cells #[.int .i64 x] 22)
  have hbw : Blk w1 g 54 #[v] := (hgrow.block g (by have := hb.lt; simp; omega) (fun h => by have := owns_lt ho g h.symm; omega)).trans hb1
  refine ⟨fC, fun i => i = g ∨ i = g2, fun i hi hlt => ?_, h0, Nat.le_trans h1 fC.size, .slice (some ⟨g2, 0, none⟩) (pre.length + 1) cap2, hbw.set_ 0 _, ?_, fun i => ?_⟩
  · rcases hi with rfl | rfl
    · exact (hM _).2 (.inl rfl)
    · rcases hat with h | h
      · exact (hM _).2 (.inr h)
      · omega
  · rw [List.length_append, List.map_append]
    exact owns_fr hown ((Fr.refl (fun i => i = g) w1).set (fun _ => rfl) _) (fun i hi h => by simp [Value.ownBlock] at hi; have h' : i = g := h; omega)
  · simp [Value.ownBlock, eq_comm]

set_option maxRecDepth 100000 in
set_option maxHeartbeats 8000000 in
theorem AppendSeq_w {gf : Nat} {lb : Array Value} {xs : List Int} {Av : Nat → Prop} {w : World} (gx : Goes gf lb xs Av w) (hx : xs.length ≤ 100000) :
    Calls Tryz.prog 169 #[.slice none 0 0, .func (.func gf) #[] lb] w (RefsP xs w) := by
  obtain ⟨i0, hi0, hz0, hz1, hz2⟩ := info_parts ref_info
  have HG := hide gx
  have hb0 := Blk.new w 54 #[.slice none 0 0]
  have hf0 := (Fr.refl No w).alloc (.cells #[.slice none 0 0] 54)
  have hit := gx.iter _ hf0
  have hsz : (w.alloc (.cells #[.slice none 0 0] 54)).heap.size = w.heap.size + 1 := by simp
  have HIT := hide hit
  have HB0 := hide hb0
  have HF0 := hide hf0
  clear gx hit hb0 hf0
  refine (callsIn_wide (n := 5)).1 ?_
  refine callsIn_of_wp_marks Tryz.func169 rfl trivial ?_
  simp only [Tryz.ntmps169, List.size_toArray, List.length_cons, List.length_nil, Nat.reduceAdd, Nat.reduceSub, Array.replicate_succ, Array.replicate_zero, List.push_toArray, List.append_toArray, List.nil_append, List.cons_append]
  refine wpIn_wide.2 ?_
  go_wp2_with fail
  generalize World.alloc w _ = W0 at *
  generalize ha0 : ({ tmps := _, defers := _ } : Act) = a0
  refine wp_rangeFunc_seq (gf := gf) (lb := lb) (by rw [← ha0]; rfl) HG.out.enters (fun x args B W h => by cases h; rfl) HIT.out (CJ w.heap.size (w.heap.size + 1)) (fun _ _ _ _ => False)
    (fun pre M W W' S h f hs => h.stay f fun i hi hS => (hs i hi hS).2) (fun _ _ _ _ _ _ h _ _ => h) (fun pre M W h => h.lt) (fun i => i = w.heap.size) ?h0 ?hM0
    (fun x args W1 a' Wa => Wa = W1 ∧ a' = ({ a0 with defers := [] }.put (some 7) (.int .i64 x)).put (some 5) (.int .i64 x)) ?assign ?body ?done (fun _ _ _ _ _ _ h _ _ _ _ => h.elim)
  case h0 => exact ⟨by omega, by omega, .slice none 0 0, HB0.out, World.ownsRow_nil _ _ _ _, fun i => by simp [Value.ownBlock]⟩
  case hM0 =>
    rintro i rfl
    exact ⟨by omega, fun h => by have := HG.out.av _ h; omega⟩
  case assign =>
    rintro lp x args B W1 rfl K hK
    subst ha0
    have HK := hide hK
    clear hK
    gi_wp2
    exact HK.out _ _ (Fr.refl No W1) ⟨rfl, rfl⟩
  case body =>
    rintro lp pre x args B M W1 a' Wa W2 I hpre rfl hB fa ⟨rfl, rfl⟩ hl hMl hBl hwl f2
    subst ha0
    have hlen : pre.length + 1 ≤ 100000 := by have := hpre.length_le; simp at this; omega
    have I2 := I.stay f2 fun i hi h => by have h' : i = lp := h; subst h'; exact hMl
    obtain ⟨h0, h1, v, hb, ho, hM⟩ := I2
    have c0 := hb.cell 0
    have z0 := hb.frozen 0
    simp only [List.getElem?_toArray, List.getElem?_cons_zero] at c0
    have q0 := hb.lt
    have hownA := ho.alloc (.cells #[.int .i64 x] 22)
    have HBW := hide fun w1 (hgrow : (W2.alloc (.cells #[.int .i64 x] 22)).grownBy w1 v.ownBlock) => ((hgrow.block w.heap.size (by simp; omega) (fun h => by have := owns_lt ho w.heap.size h.symm; omega)).trans (hb.alloc (.cells #[.int .i64 x] 22)) : Blk w1 w.heap.size 54 #[v])
    have HB := hide hb
    have HO := hide ho
    have HM := hide hM
    have HF2 := hide f2
    have HML := hide hMl
    clear hb ho hM I hpre f2 hB hBl hMl
    simp only [Act.put, List.setIfInBounds_toArray, List.set_cons_zero, List.set_cons_succ]
    gi_wp2_with (gi_at_builtin; refine wpListIn_append_lies _ (by rfl) _ _ 54 (by rfl) (w.heap.size + 1) 22 i0 _ 1 8 Tryz.underlying54 hi0 hz0 hz1 hz2 (by rfl) (by omega) v pre.length (pre.map fun r => Value.int .i64 r) (by rfl) hownA ⟨W2.heap.size, 0, none⟩ 1 1 [.int .i64 x] (by rfl) (by rfl) (World.news_of_block (heap_alloc_new W2 _)) (by simp [Value.oneCell']) (by omega) (by unfold maxLen; omega) (by omega) (by simp; omega) (W2.heap.size + 1) (by simp) ?_; intro g2 cap2 w7 hown1 hgrow hat hlt1; have hbw : Blk w7 w.heap.size 54 #[v] := HBW.out w7 hgrow; have c1 := hbw.cell 0; have f1 := hbw.frozen 0; have q5 := hbw.lt; simp only [List.getElem?_toArray, List.getElem?_cons_zero] at c1; have HP := hide (CJ.push h0 h1 HB.out HO.out HM.out hown1 hgrow hat); clear hbw hown1 hgrow hat)
    obtain ⟨fM, M', hsub, hcj⟩ := HP.out
    have hsz2 := HF2.out.size
    refine ⟨⟨fM.block lp (by omega) HML.out, ?_⟩, M', fun i h1 h2 => hsub i h1 (by omega), hcj⟩
    refine (HF2.out.mono fun i _ h => .inr (.inr h)).trans' fM fun i _ h => .inl h
  case done =>
    rintro D W M' I FM hsub hDge hDK
    subst ha0
    obtain ⟨h0, h1, v, hb, ho, hM⟩ := I
    have c0 := hb.cell 0
    simp only [List.getElem?_toArray, List.getElem?_cons_zero] at c0
    have q0 := hb.lt
    have HO := hide ho
    have HFW := hide (HF0.out.trans' FM fun i hi h => by have h' : i = w.heap.size := h; omega)
    have hDW : D < W.heap.size := (Array.getElem?_eq_some_iff.1 hDK).1
    have hvD : v.ownBlock ≠ some D := fun h => by
      obtain ⟨cs, hb'⟩ := owns_typed ho h
      unfold Blk at hb'
      rw [hb'] at hDK
      cases hDK
    clear hb hM FM ho
    go_wp2_with fail
    refine ⟨by simp, .inl ⟨_, _, rfl, run_takeDeferred hDK, ?_⟩⟩
    refine ⟨v, by simp [results, Tryz.results169, go_sem], v, rfl, ?_, ?_⟩
    · have := owns_fr HO.out (fr_putObj W D (.deferred none)) fun i hi h => by have h' : i = D := h; subst h'; exact hvD hi
      exact ⟨this.1, this.2.imp id fun ⟨g, cp, cur, a, b, c⟩ => ⟨g, cp, cur, a, by omega, c⟩⟩
    · exact HFW.out.trans' (fr_putObj W D _) (fun i hi h => by have h' : i = D := h; omega)

theorem Collect_w {gf : Nat} {lb : Array Value} {xs : List Int} {Av : Nat → Prop} {w : World} (gx : Goes gf lb xs Av w) (hx : xs.length ≤ 100000) :
    Calls Tryz.prog 101 #[.func (.func gf) #[] lb] w (RefsP xs w) := by
  have HA := hide (AppendSeq_w gx hx)
  clear gx
  go_enter Tryz.func101, Tryz.ntmps101
  go_wp2_with fail
  refine HA.out.mono ?_
  rintro e w' ⟨v, rfl, ho, f⟩
  have HO := hide ho
  have HF := hide f
  clear ho f
  go_wp2
  go_ret
  exact ⟨v, rfl, HO.out, HF.out⟩

theorem goes_each {m : Wm} {lo : Nat} {w : World} (h : m.Ok lo w) {b1 b2 : Nat} (hb1 : Blk w b1 31 #[.pointer (some ⟨m.wb, 0, none⟩)]) {r : Int} (hb2 : Blk w b2 22 #[.int .i64 r]) {L : List Int} (hw : Way m r L) (hL : L.length ≤ 100000) :
    Goes 170 #[.pointer (some ⟨b1, 0, none⟩), .pointer (some ⟨b2, 0, none⟩)] (m.gatesOf L) (fun i => m.B i ∨ i = b1 ∨ i = b2) w where
  enters := enters_fn2 Tryz.func170 (by kernel_rfl) rfl
  iter := fun w' f => iter_each (h.no f) (hb1.fr f fun h => h) (hb2.fr f fun h => h) hw hL
  av := fun i hi => by
    rcases hi with hi | rfl | rfl
    · exact (h.lt i hi).2
    · exact hb1.lt
    · exact hb2.lt

/-- What Gates tells. -/
def GatesP (L : List Int) (w : World) (e : Ending) (w' : World) : Prop := ∃ v, e = .returned (.tuple #[v, .int .i64 0]) ∧ w'.ownsRow w.heap.size 22 1 v L.length (L.map fun r => Value.int .i64 r) ∧ Fr No w w'

set_option maxRecDepth 100000 in
theorem Gates_w {m : Wm} {lo : Nat} {w : World} (h : m.Ok lo w) {r : Int} {L : List Int} (hw : Way m r L) (hL : L.length ≤ 100000) (hr : (m.get r).isSome = true) :
    Calls Tryz.prog 33 #[.pointer (some ⟨m.wb, 0, none⟩), .int .i64 r] w (GatesP (m.gatesOf L) w) := by
  have HTh := hide (gath_w h)
  have hI := Is_w h r
  rw [hr] at hI
  have HI := hide hI
  have HE := hide (each_fn (some ⟨m.wb, 0, none⟩) r w)
  have hgl : (m.gatesOf L).length ≤ 100000 := Nat.le_trans (List.length_filter_le _ _) hL
  have HC := hide fun (w' : World) (f : Fr No w w') (hb1 : Blk w' w.heap.size 31 #[.pointer (some ⟨m.wb, 0, none⟩)]) (hb2 : Blk w' (w.heap.size + 1) 22 #[.int .i64 r]) => Collect_w (goes_each (h.no f) hb1 hb2 hw hL) hgl
  clear h hw hI
  go_enter Tryz.func33, Tryz.ntmps33
  go_wp2_with fail
  refine HTh.out.mono ?_
  rintro e w' ⟨rfl, rfl⟩
  go_wp2_with fail
  refine HI.out.mono ?_
  rintro e w' ⟨rfl, rfl⟩
  go_wp2_with fail
  refine HE.out.mono ?_
  rintro e w1 ⟨rfl, hb1, hb2, f1⟩
  have HC2 := hide (HC.out w1 f1 hb1 hb2)
  have HF1 := hide f1
  clear hb1 hb2 f1 HC
  go_wp2_with fail
  refine HC2.out.mono ?_
  rintro e w2 ⟨v, rfl, ho, f2⟩
  have HO := hide ho
  have HF2 := hide f2
  clear ho f2
  go_wp2
  go_ret2
  have hs := HF1.out.size
  have := HO.out
  exact ⟨v, rfl, ⟨this.1, this.2.imp id fun ⟨g, cp, cur, a, b, c⟩ => ⟨g, cp, cur, a, by omega, c⟩⟩, HF1.out.trans HF2.out⟩

end Go.Proofs.YtlejelbefmkakaaGreat

/- Layer 12: First. -/
namespace Go.Proofs.YtlejelbefmkakaaGreat
open Go.RowKit
attribute [local go_sem] Oper.semAt_some

/-- The first of some numbers that a test takes. -/
def firstOf (c : Int → Bool) (L : List Int) : Value := match L.find? c with
  | some x => .tuple #[.int .i64 x, .bool true]
  | none => .tuple #[.int .i64 0, .bool false]

/-- Before a cut gate is met. -/
structure FJ (w0 : World) (wb g2 g4 g5 : Nat) (c : Int → Bool) (pre : List Int) (M : Nat → Prop) (W : World) : Prop where
  no : ∀ x ∈ pre, c x = false
  m : ∀ i, M i ↔ (i = g4 ∨ i = g5)
  fr : Fr No w0 W
  b2 : Blk W g2 31 #[.pointer (some ⟨wb, 0, none⟩)]
  b4 : Blk W g4 22 #[.int .i64 0]
  b5 : Blk W g5 4 #[.bool false]

theorem FJ.stay {w0 : World} {wb g2 g4 g5 : Nat} {c : Int → Bool} {pre : List Int} {M : Nat → Prop} {W W' : World} {S : Nat → Prop} (l2 : g2 < w0.heap.size) (l4 : g4 < w0.heap.size) (l5 : g5 < w0.heap.size) (h : FJ w0 wb g2 g4 g5 c pre M W) (f : Fr S W W') (hs : ∀ i, i < W.heap.size → S i → w0.heap.size ≤ i) : FJ w0 wb g2 g4 g5 c pre M W' := by
  have hz := h.fr.size
  exact ⟨h.no, h.m, h.fr.trans' f fun i hi hS => by have := hs i (by omega) hS; omega, h.b2.fr f fun hS => by have := hs g2 (by omega) hS; omega, h.b4.fr f fun hS => by have := hs g4 (by omega) hS; omega, h.b5.fr f fun hS => by have := hs g5 (by omega) hS; omega⟩

/-- Behind one. -/
structure FX (w0 : World) (g4 g5 : Nat) (c : Int → Bool) (ex : Code) (q : List Int) (W : World) : Prop where
  ex : ex = .ret
  at_ : ∃ (pre : List Int) (x : Int), q = pre ++ [x] ∧ (∀ y ∈ pre, c y = false) ∧ c x = true ∧ Blk W g4 22 #[.int .i64 x] ∧ Blk W g5 4 #[.bool true]
  fr : Fr (fun i => i = g4 ∨ i = g5) w0 W

theorem find_stop {c : Int → Bool} {pre L : List Int} {x : Int} (h : pre ++ [x] <+: L) (hn : ∀ y ∈ pre, c y = false) (hx : c x = true) : L.find? c = some x := by
  obtain ⟨z, rfl⟩ := h
  rw [List.append_assoc, List.find?_append]
  have : pre.find? c = none := List.find?_eq_none.2 fun y hy => by simp [hn y hy]
  simp [this, hx]

set_option maxRecDepth 100000 in
set_option maxHeartbeats 8000000 in
theorem First_w {m : Wm} {lo : Nat} {w : World} (h : m.Ok lo w) {r : Int} {L : List Int} (hw : Way m r L) (hL : L.length ≤ 100000) (c : Int → Bool)
    (hc : ∀ x ∈ m.gatesOf L, ∀ W, m.Ok lo W → Calls Tryz.prog 100 #[.pointer (some ⟨m.wb, 0, none⟩), .int .i64 x] W fun e w' => e = .returned (.bool (c x)) ∧ Fr No W w') :
    Calls Tryz.prog 34 #[.pointer (some ⟨m.wb, 0, none⟩), .int .i64 r] w fun e w' => e = .returned (firstOf c (m.gatesOf L)) ∧ Fr No w w' := by
  have hf0 := (((Fr.refl No w).alloc (.cells #[.pointer (some ⟨m.wb, 0, none⟩)] 31)).alloc (.cells #[.int .i64 0] 22)).alloc (.cells #[.bool false] 4)
  have h2 := ((Blk.new w 31 #[.pointer (some ⟨m.wb, 0, none⟩)]).alloc (.cells #[.int .i64 0] 22)).alloc (.cells #[.bool false] 4)
  have h4 := (Blk.new' (w.alloc (.cells #[.pointer (some ⟨m.wb, 0, none⟩)] 31)) 22 #[.int .i64 0] (g := w.heap.size + 1) (by simp)).alloc (.cells #[.bool false] 4)
  have h5 := Blk.new' ((w.alloc (.cells #[.pointer (some ⟨m.wb, 0, none⟩)] 31)).alloc (.cells #[.int .i64 0] 22)) 4 #[.bool false] (g := w.heap.size + 1 + 1) (by simp)
  have HTh := hide (gath_w (h.no hf0))
  have HE := hide fun W => each_fn (some ⟨m.wb, 0, none⟩) r W
  have HGO := hide fun (w' : World) (f : Fr No w w') (b1 b2 : Nat) (hb1 : Blk w' b1 31 #[.pointer (some ⟨m.wb, 0, none⟩)]) (hb2 : Blk w' b2 22 #[.int .i64 r]) => goes_each (h.no f) hb1 hb2 hw hL
  have H0 := hide (And.intro hf0 (And.intro h2 (And.intro h4 h5)))
  have HOK := hide h
  have HC := hide hc
  have hBlt : ∀ i, m.B i → i < w.heap.size := fun i hi => (h.lt i hi).2
  have HBL := hide hBlt
  clear h hw hf0 h2 h4 h5 hc hBlt
  refine (callsIn_wide (n := 5)).1 ?_
  refine callsIn_of_wp_marks Tryz.func34 rfl trivial ?_
  simp only [Tryz.ntmps34, List.size_toArray, List.length_cons, List.length_nil, Nat.reduceAdd, Nat.reduceSub, Array.replicate_succ, Array.replicate_zero, List.push_toArray, List.append_toArray, List.nil_append, List.cons_append]
  refine wpIn_wide.2 ?_
  go_wp2_with fail
  obtain ⟨hf0, h2, h4, h5⟩ := H0.out
  generalize World.alloc (World.alloc (World.alloc w _) _) _ = W0 at *
  refine HTh.out.mono ?_
  rintro e w' ⟨rfl, rfl⟩
  have c2 : w'.cell? ⟨w.heap.size, 0, none⟩ = some (.pointer (some ⟨m.wb, 0, none⟩)) := h2.cell 0
  have q2 := h2.lt
  go_wp2_with fail
  refine (HE.out w').mono ?_
  rintro e W1 ⟨rfl, hb1, hb2, f1⟩
  have hF := hf0.trans f1
  have HF := hide hF
  have hgo := HGO.out W1 hF _ _ hb1 hb2
  have HG := hide hgo
  have HI := hide (hgo.iter W1 (Fr.refl _ _))
  have h2' := h2.fr f1 fun h => h
  have h4' := h4.fr f1 fun h => h
  have h5' := h5.fr f1 fun h => h
  have l2 := h2'.lt
  have l4 := h4'.lt
  have l5 := h5'.lt
  have hAv : ∀ i, (m.B i ∨ i = w'.heap.size ∨ i = w'.heap.size + 1) → i ≠ w.heap.size + 1 ∧ i ≠ w.heap.size + 1 + 1 := fun i hi => by
    have := h5.lt
    rcases hi with hi | hi | hi
    · have := HBL.out i hi; omega
    · omega
    · omega
  have HAV := hide hAv
  have H2 := hide h2'
  have H4 := hide h4'
  have H5 := hide h5'
  have HSZ := hide hF.size
  clear hf0 h2 h4 h5 hb1 hb2 f1 hF hgo h2' h4' h5' hAv c2 q2 HTh HE HGO H0
  go_wp2_with fail
  generalize ha0 : ({ tmps := _, defers := _ } : Act) = a0
  refine wp_rangeFunc_seq (gf := 170) (lb := #[.pointer (some ⟨w'.heap.size, 0, none⟩), .pointer (some ⟨w'.heap.size + 1, 0, none⟩)]) (by rw [← ha0]; rfl) HG.out.enters (fun x args B W h => by cases h; rfl) HI.out (FJ W1 m.wb w.heap.size (w.heap.size + 1) (w.heap.size + 1 + 1) c) (fun ex q _ W => FX W1 (w.heap.size + 1) (w.heap.size + 1 + 1) c ex q W)
    (fun pre M W W' S h f hs => h.stay l2 l4 l5 f fun i hi hS => (hs i hi hS).1) ?hIx (fun pre M W h i hi => by have := h.fr.size; rcases (h.m i).1 hi with rfl | rfl <;> omega) (fun i => i = w.heap.size + 1 ∨ i = w.heap.size + 1 + 1) ?h0 ?hM0
    (fun x args W1 a' Wa => Wa = W1 ∧ a' = ({ a0 with defers := [] }.put (some 13) (.int .i64 x)).put (some 6) (.int .i64 x)) ?assign ?body ?done ?stop
  case hIx =>
    intro ex pre M W W' S h f hs
    have hz := h.fr.size
    obtain ⟨p, x, h1, h2, h3, h4, h5⟩ := h.at_
    exact ⟨h.ex, ⟨p, x, h1, h2, h3, h4.fr f fun hS => by have := (hs _ h4.lt hS).1; omega, h5.fr f fun hS => by have := (hs _ h5.lt hS).1; omega⟩, h.fr.trans' f fun i hi hS => by have := (hs i (by omega) hS).1; omega⟩
  case h0 => exact ⟨nofun, fun i => Iff.rfl, Fr.refl _ _, H2.out, H4.out, H5.out⟩
  case hM0 =>
    intro i hi
    refine ⟨by rcases hi with rfl | rfl <;> omega, fun h => ?_⟩
    have := HAV.out i h
    rcases hi with rfl | rfl
    · exact this.1 rfl
    · exact this.2 rfl
  case assign =>
    rintro lp x args B Wr rfl K hK
    subst ha0
    have HK := hide hK
    clear hK
    gi_wp2
    exact HK.out _ _ (Fr.refl No Wr) ⟨rfl, rfl⟩
  case body =>
    rintro lp pre x args B M Wr a' Wa W2 I hpre rfl hB fa ⟨rfl, rfl⟩ hl hMl hBl hwl f2
    subst ha0
    have hx : x ∈ m.gatesOf L := by
      obtain ⟨z, hz⟩ := hpre
      rw [← hz]
      simp
    have I2 := I.stay l2 l4 l5 f2 fun i hi h => by have h' : i = lp := h; subst h'; exact hwl
    have hok2 := HOK.out.no (HF.out.trans I2.fr)
    have hcut := HC.out x hx W2 hok2
    have c2 : W2.cell? ⟨w.heap.size, 0, none⟩ = some (.pointer (some ⟨m.wb, 0, none⟩)) := I2.b2.cell 0
    have q2 := I2.b2.lt
    have HI2 := hide I2
    have HIm := hide I.m
    have HIf := hide I.fr
    have HF2 := hide f2
    have HCU := hide hcut
    have HNO := hide I.no
    clear I I2 hok2 hcut f2 hx hpre hB hBl fa
    simp only [Act.put, List.setIfInBounds_toArray, List.set_cons_zero, List.set_cons_succ]
    cases hcx : c x with
    | false =>
      rw [hcx] at HCU
      gi_wp2_with fail
      refine ⟨trivial, (CallsIn.inRound lp (callsIn_wide.2 HCU.out)).mono ?_⟩
      rintro e W3 ⟨rfl, f3⟩
      have HF3 := hide f3
      clear f3
      gi_wp2
      have I3 := HI2.out.stay l2 l4 l5 HF3.out fun i _ h => h.elim
      have hs2 := HF2.out.size
      refine ⟨⟨HF3.out.block lp (by omega) fun h => h, (HF2.out.mono fun i _ h => .inr (.inr h)).trans' HF3.out fun i _ h => h.elim⟩, M, fun i h _ => h, ⟨fun y hy => ?_, I3.m, I3.fr, I3.b2, I3.b4, I3.b5⟩⟩
      rcases List.mem_append.1 hy with hy | hy
      · exact HNO.out y hy
      · simp at hy
        rw [hy]
        exact hcx
    | true =>
      rw [hcx] at HCU
      gi_wp2_with fail
      refine ⟨trivial, (CallsIn.inRound lp (callsIn_wide.2 HCU.out)).mono ?_⟩
      rintro e W3 ⟨rfl, f3⟩
      have HF3 := hide f3
      have I3 := HI2.out.stay l2 l4 l5 f3 fun i _ h => h.elim
      have c4 : W3.cell? ⟨w.heap.size + 1, 0, none⟩ = some (.int .i64 0) := I3.b4.cell 0
      have z4 := I3.b4.frozen 0
      have q4 := I3.b4.lt
      have c5 : W3.cell? ⟨w.heap.size + 1 + 1, 0, none⟩ = some (.bool false) := I3.b5.cell 0
      have z5 := I3.b5.frozen 0
      have q5 := I3.b5.lt
      have HI3 := hide I3
      clear f3 I3
      gi_wp2
      have hs2 := HF2.out.size
      have hs1 := HIf.out.size
      have fS : Fr (fun i => i = w.heap.size + 1 ∨ i = w.heap.size + 1 + 1) W3 ((W3.setCell ⟨w.heap.size + 1, 0, none⟩ (.int .i64 x)).setCell ⟨w.heap.size + 1 + 1, 0, none⟩ (.bool true)) := ((Fr.refl _ W3).set (fun _ => .inl rfl) _).set (fun _ => .inr rfl) _
      have f23 : Fr (fun i => M i ∨ i = lp) Wa ((W3.setCell ⟨w.heap.size + 1, 0, none⟩ (.int .i64 x)).setCell ⟨w.heap.size + 1 + 1, 0, none⟩ (.bool true)) := (((HF2.out.mono fun i _ h => .inr h).trans' HF3.out fun i _ h => h.elim)).trans' fS fun i _ h => .inl ((HIm.out i).2 h)
      have hlp4 : lp ≠ w.heap.size + 1 := by omega
      have hlp5 : lp ≠ w.heap.size + 1 + 1 := by omega
      refine ⟨⟨(fS.block lp (by have := HF3.out.size; omega) fun h => by rcases h with h | h <;> omega).trans (HF3.out.block lp (by omega) fun h => h), f23.mono fun i _ h => ?_⟩, M, fun i h _ => h, ⟨rfl, ⟨pre, x, rfl, HNO.out, hcx, ?_, ?_⟩, ?_⟩⟩
      · rcases h with h | h
        · exact .inl h
        · exact .inr (.inr h)
      · exact (HI3.out.b4.set_ 0 (.int .i64 x)).far (p := ⟨w.heap.size + 1 + 1, 0, none⟩) (by simp) _
      · exact (HI3.out.b5.far (p := ⟨w.heap.size + 1, 0, none⟩) (by simp) _).set_ 0 (.bool true)
      · exact HI3.out.fr.no.trans' fS fun i _ h => h
  case done =>
    rintro D W M' I FM hsub hDge hDK
    subst ha0
    have c4 : W.cell? ⟨w.heap.size + 1, 0, none⟩ = some (.int .i64 0) := I.b4.cell 0
    have z4 := I.b4.frozen 0
    have q4 := I.b4.lt
    have c5 : W.cell? ⟨w.heap.size + 1 + 1, 0, none⟩ = some (.bool false) := I.b5.cell 0
    have z5 := I.b5.frozen 0
    have q5 := I.b5.lt
    have HII := hide I
    have HDK := hide hDK
    clear I hDK FM hsub
    go_wp2_with fail
    have hne4 : D ≠ w.heap.size + 1 := by omega
    have hne5 : D ≠ w.heap.size + 1 + 1 := by omega
    have e1 : ((W.setCell ⟨w.heap.size + 1, 0, none⟩ (.int .i64 0)).setCell ⟨w.heap.size + 1 + 1, 0, none⟩ (.bool false)).heap[D]? = some (.deferred (some [])) := (Below.heap_setCell _ _ _ _ hne5).trans ((Below.heap_setCell _ _ _ _ hne4).trans HDK.out)
    have hb4 := ((HII.out.b4.set_ 0 (.int .i64 0)).far (p := ⟨w.heap.size + 1 + 1, 0, none⟩) (by simp) (.bool false)).fr (fr_putObj _ D (.deferred none)) (fun h => by have h' : w.heap.size + 1 = D := h; omega)
    have hb5 := ((HII.out.b5.far (p := ⟨w.heap.size + 1, 0, none⟩) (by simp) (.int .i64 0)).set_ 0 (.bool false)).fr (fr_putObj _ D (.deferred none)) (fun h => by have h' : w.heap.size + 1 + 1 = D := h; omega)
    have fW : Fr No w ((W.setCell ⟨w.heap.size + 1, 0, none⟩ (.int .i64 0)).setCell ⟨w.heap.size + 1 + 1, 0, none⟩ (.bool false)) := ((HF.out.trans HII.out.fr).setNew (by simp) _).setNew (by simp; omega) _
    have r4 := hb4.cell 0
    have r5 := hb5.cell 0
    simp only [List.setIfInBounds_toArray, List.set_cons_zero, List.getElem?_toArray, List.getElem?_cons_zero] at r4 r5
    have hfo : firstOf c (m.gatesOf L) = .tuple #[.int .i64 0, .bool false] := by
      unfold firstOf
      rw [List.find?_eq_none.2 fun y hy => by simp [HII.out.no y hy]]
    have HFW := hide fW
    generalize World.setCell (World.setCell W _ _) _ _ = wY at *
    refine ⟨by simp, .inl ⟨_, _, rfl, run_takeDeferred e1, ?_⟩⟩
    refine ⟨.tuple #[.int .i64 0, .bool false], by simp [results, Tryz.results34, go_sem, r4, r5], by rw [hfo], ?_⟩
    exact HFW.out.trans' (fr_putObj wY D _) (fun i hi h => by have h' : i = D := h; have := HSZ.out; omega)
  case stop =>
    intro D ex q W M' hq hX FM hsub hDge hDK
    obtain rfl := hX.ex
    obtain ⟨p, x, rfl, h1, h2, hb4, hb5⟩ := hX.at_
    subst ha0
    have hfo : firstOf c (m.gatesOf L) = .tuple #[.int .i64 x, .bool true] := by
      unfold firstOf
      rw [find_stop hq h1 h2]
    have HX := hide hX.fr
    have HB4 := hide hb4
    have HB5 := hide hb5
    clear hX hb4 hb5 FM hsub hq
    go_wp2_with fail
    have r4 : (W.putObj D (.deferred none)).cell? ⟨w.heap.size + 1, 0, none⟩ = some (.int .i64 x) := (HB4.out.fr (fr_putObj _ D (.deferred none)) (fun h => by have h' : w.heap.size + 1 = D := h; omega)).cell 0
    have r5 : (W.putObj D (.deferred none)).cell? ⟨w.heap.size + 1 + 1, 0, none⟩ = some (.bool true) := (HB5.out.fr (fr_putObj _ D (.deferred none)) (fun h => by have h' : w.heap.size + 1 + 1 = D := h; omega)).cell 0
    refine ⟨by simp, .inl ⟨_, _, rfl, run_takeDeferred hDK, ?_⟩⟩
    refine ⟨.tuple #[.int .i64 x, .bool true], by simp [results, Tryz.results34, go_sem, r4, r5], by rw [hfo], ?_⟩
    exact ((HF.out.trans' HX.out fun i hi h => by rcases h with h | h <;> omega)).trans' (fr_putObj W D _) (fun i hi h => by have h' : i = D := h; have := HSZ.out; omega)

end Go.Proofs.YtlejelbefmkakaaGreat

/- Worlds: Lay, of a switch that is cut. -/
namespace Go.Proofs.YtlejelbefmkakaaGreat
open Go.RowKit

/-- What Lay leaves of a switch that is cut. -/
def LayRes13 (m : Wm) (r : Int) (home : Nat) (ofr : Int) (lo : Nat) (W : World) (e : Ending) (w' : World) : Prop :=
  e = .returned (.int .i64 0) ∧ (m.put (r - 1).toNat ⟨13, home, T.zero, 0, 0, ofr, 0, 0, true⟩).Ok lo w' ∧ Fr m.B W w'

theorem lay_fin {m : Wm} {lo : Nat} {W w We : World} {r : Int} {x : Nat × Th} {y : Th} {cs : Array Value} (h : m.Ok lo W) (hg : m.get r = some x) (f : Fr No W w) (fe : Fr (fun i => i = x.1) w We) (hb : Blk We x.1 138 cs) (hc : cs = y.cells.toArray) (hv : y.v.Sh We lo We.heap.size) :
    (m.put (r - 1).toNat y).Ok lo We ∧ Fr m.B W We := by
  have hx := Wm.get_mem hg
  subst hc
  refine ⟨ok_put (g := x.1) (x := x.2) (h.no f) (get_at hg).1 fe hb hv, f.no.trans' fe fun i _ hi => ?_⟩
  have hi' : i = x.1 := hi
  exact .inr (.inr (.inr (.inr ⟨x, hx, .inl hi'⟩)))

set_option maxRecDepth 100000 in
set_option maxHeartbeats 8000000 in
theorem Lay13_w {m : Wm} {lo : Nat} {W : World} (h : m.Ok lo W) (hlo : lo ≤ W.heap.size) {r : Int} {gx home : Nat} {tv : T} {ofr : Int} (hg : m.get r = some (gx, ⟨13, home, tv, 0, 0, ofr, 0, 0, false⟩)) (hs : home < m.made.length) :
    Calls Tryz.prog 105 #[.pointer (some ⟨m.wb, 0, none⟩), .int .i64 r, .agg (th16 13 (home : Int) 0 0 ⟨#[]⟩ none 0 0 0 0 0 ofr 0 0 true)] W (LayRes13 m r home ofr lo W) := by
  have ht := fun W' : World => (T.zero_ow W' 0 W'.heap.size).inn
  have hzv : T.zero.v.may = true := by rw [T.zero_v, zero_may]
  have hF := fun W' (f : Fr No W W') => form13 (h.no f) home ofr true hs
  have hN := fun W' (f : Fr No W W') => names_w (h.no f) 13 (home : Int) 0 0 ⟨#[]⟩ none 0 [] 0 0 0 ofr 0 0 true W'.heap.size (ht W') (Nat.le_refl _) (by show T.zero.v.refs.length ≤ _; rw [T.zero_v, zero_refs]; simp)
  have hO := fun W' (f : Fr No W W') => ownWhat_w 13 (home : Int) 0 0 ⟨#[]⟩ none 0 [] 0 0 0 ofr 0 0 true W' W'.heap.size (ht W') (Nat.le_refl _) hzv
  have hz0 : m.are (T.mk 0 0 ⟨#[]⟩ none 0 [] 0).v.refs = true := by show m.are T.zero.v.refs = true; rw [T.zero_v, zero_refs]; rfl
  rw [hz0] at hN
  simp only [List.length_nil] at hN hO
  have hI := fun W' (f : Fr No W W') => by
    have := Is_w (h.no f) r
    rw [hg] at this
    exact this
  have hb0 := Blk.new W 138 (th16 13 (home : Int) 0 0 ⟨#[]⟩ none 0 0 0 0 0 ofr 0 0 true)
  have hf0 := (Fr.refl No W).alloc (.cells (th16 13 (home : Int) 0 0 ⟨#[]⟩ none 0 0 0 0 0 ofr 0 0 true) 138)
  have HOK := hide h
  have HF := hide hF
  have HN := hide hN
  have HO := hide hO
  have HI := hide hI
  have HB := hide hb0
  have HF0 := hide hf0
  have HG := hide hg
  unfold th16 at HF HN HO HB HF0 hb0 ⊢
  obtain ⟨d0, d1, d2, d3, d4, d5, d6, d7, d8, d9, d10, d11, d12, d13, d14, d15⟩ := hb0.cells16
  have dq := hb0.lt
  clear hF hN hO hI hb0 hf0 h ht hzv hz0 hg
  go_enter Tryz.func105, Tryz.ntmps105
  go_wp2_with fail
  generalize World.alloc W _ = W0 at *
  have hok0 := HOK.out.no HF0.out
  refine (none_w hok0).mono ?_
  rintro e w' ⟨rfl, rfl⟩
  go_wp2_with fail
  refine (HI.out w' HF0.out).mono ?_
  rintro e w' ⟨rfl, rfl⟩
  have hl := look_thing hok0 r
  rw [HG.out] at hl
  simp only [Option.map_some] at hl
  have x2 := map_cell hok0
  have xq := hok0.blk.lt
  clear hok0
  go_upto_region 6 with (fail)
  clear hl x2 xq d0 d1 d2 d3 d4 d5 d6 d7 d8 d9 d10 d11 d12 d13 d14 d15 dq
  have d0 : ∀ q : ClN w', q.w.cell? ⟨W.heap.size, 0, none⟩ = some (.int .u8 13) := fun q => (HB.out.fr q.fr fun h => h).cell 0
  have d1 : ∀ q : ClN w', q.w.cell? ⟨W.heap.size, 1, none⟩ = some (.int .i64 (home : Int)) := fun q => (HB.out.fr q.fr fun h => h).cell 1
  have d2 : ∀ q : ClN w', q.w.cell? ⟨W.heap.size, 2, none⟩ = some (.int .u8 0) := fun q => (HB.out.fr q.fr fun h => h).cell 2
  have d3 : ∀ q : ClN w', q.w.cell? ⟨W.heap.size, 3, none⟩ = some (.int .i64 0) := fun q => (HB.out.fr q.fr fun h => h).cell 3
  have d4 : ∀ q : ClN w', q.w.cell? ⟨W.heap.size, 4, none⟩ = some (.string ⟨#[]⟩) := fun q => (HB.out.fr q.fr fun h => h).cell 4
  have d5 : ∀ q : ClN w', q.w.cell? ⟨W.heap.size, 5, none⟩ = some (.slice none 0 0) := fun q => (HB.out.fr q.fr fun h => h).cell 5
  have d6 : ∀ q : ClN w', q.w.cell? ⟨W.heap.size, 6, none⟩ = some (.int .i64 0) := fun q => (HB.out.fr q.fr fun h => h).cell 6
  have d7 : ∀ q : ClN w', q.w.cell? ⟨W.heap.size, 7, none⟩ = some (.slice none 0 0) := fun q => (HB.out.fr q.fr fun h => h).cell 7
  have d8 : ∀ q : ClN w', q.w.cell? ⟨W.heap.size, 8, none⟩ = some (.int .i64 0) := fun q => (HB.out.fr q.fr fun h => h).cell 8
  have d9 : ∀ q : ClN w', q.w.cell? ⟨W.heap.size, 9, none⟩ = some (.int .i64 0) := fun q => (HB.out.fr q.fr fun h => h).cell 9
  have d10 : ∀ q : ClN w', q.w.cell? ⟨W.heap.size, 10, none⟩ = some (.int .i64 ofr) := fun q => (HB.out.fr q.fr fun h => h).cell 10
  have d11 : ∀ q : ClN w', q.w.cell? ⟨W.heap.size, 11, none⟩ = some (.int .i64 0) := fun q => (HB.out.fr q.fr fun h => h).cell 11
  have d12 : ∀ q : ClN w', q.w.cell? ⟨W.heap.size, 12, none⟩ = some (.int .u8 0) := fun q => (HB.out.fr q.fr fun h => h).cell 12
  have d13 : ∀ q : ClN w', q.w.cell? ⟨W.heap.size, 13, none⟩ = some (.bool true) := fun q => (HB.out.fr q.fr fun h => h).cell 13
  have d14 : ∀ q : ClN w', q.w.cell? ⟨W.heap.size, 14, none⟩ = some (.slice none 0 0) := fun q => (HB.out.fr q.fr fun h => h).cell 14
  have d15 : ∀ q : ClN w', q.w.cell? ⟨W.heap.size, 15, none⟩ = some (.slice none 0 0) := fun q => (HB.out.fr q.fr fun h => h).cell 15
  have dq : ∀ q : ClN w', W.heap.size < q.w.heap.size := fun q => (HB.out.fr q.fr fun h => h).lt
  have hbx : ∀ q : ClN w', Blk q.w gx 138 (Th.cells ⟨13, (home : Int), tv, 0, 0, ofr, 0, 0, false⟩).toArray := fun q => ((HOK.out.no HF0.out).no q.fr).box _ (Wm.get_mem HG.out)
  obtain ⟨tk, tn, ts, tA, tcap, tl, tr⟩ := tv
  have e0 : ∀ q : ClN w', q.w.cell? ⟨gx, 0, none⟩ = some (.int .u8 13) := fun q => (hbx q).cell 0
  have e1 : ∀ q : ClN w', q.w.cell? ⟨gx, 1, none⟩ = some (.int .i64 (home : Int)) := fun q => (hbx q).cell 1
  have e10 : ∀ q : ClN w', q.w.cell? ⟨gx, 10, none⟩ = some (.int .i64 ofr) := fun q => (hbx q).cell 10
  have e11 : ∀ q : ClN w', q.w.cell? ⟨gx, 11, none⟩ = some (.int .i64 0) := fun q => (hbx q).cell 11
  have e12 : ∀ q : ClN w', q.w.cell? ⟨gx, 12, none⟩ = some (.int .u8 0) := fun q => (hbx q).cell 12
  have e13 : ∀ q : ClN w', q.w.cell? ⟨gx, 13, none⟩ = some (.bool false) := fun q => (hbx q).cell 13
  have HFq : Hid (∀ q : ClN w', Calls Tryz.prog 154 #[.pointer (some ⟨m.wb, 0, none⟩), .agg #[.int .u8 13, .int .i64 (home : Int), .int .u8 0, .int .i64 0, .string ⟨#[]⟩, .slice none 0 0, .int .i64 0, .slice none 0 0, .int .i64 0, .int .i64 0, .int .i64 ofr, .int .i64 0, .int .u8 0, .bool true, .slice none 0 0, .slice none 0 0]] q.w fun e w'' => e = .returned (.bool true) ∧ ∃ q' : ClN w', w'' = q'.w) := hide fun q => by
    refine (HF.out q.w (HF0.out.trans q.fr)).mono ?_
    rintro e w'' ⟨rfl, f⟩
    exact ⟨rfl, ⟨w'', q.fr.trans f⟩, rfl⟩
  have HBX := hide hbx
  clear hbx HF
  have hinst : Nonempty (ClN w') := ⟨⟨w', Fr.refl No w'⟩⟩
  go_cut [79] from 20 to 78 (fun b wc => b = .bool false ∧ Fr No w' wc)
  case first => as_aux_lemma =>
    refine wp_region_quiet_cl (fun W' => ∃ q : ClN w', W' = q.w) (by kernel_rfl) (by kernel_rfl) ⟨⟨_, (Fr.refl No w').drew⟩, rfl⟩ ?_
    iterate 60 (go_big_quiet_step ((go_at_call 154; exact HFq.out _)))
    refine wpQuiet_nil ?_
    rintro w1 ⟨⟨_, f3⟩, rfl⟩
    go_wp2_with fail
    go_meet
    case rel => exact ⟨rfl, f3⟩
  obtain ⟨rfl, f3⟩ := hcut
  obtain ⟨w1, rfl⟩ : ∃ w1 : World, w1 = wc := ⟨_, rfl⟩
  have hb := HB.out.fr f3 fun h => h
  replace HB := hide hb
  have HF1 := hide (HF0.out.trans f3)
  clear d0 d1 d2 d3 d4 d5 d6 d7 d8 d9 d10 d11 d12 d13 d14 d15 dq e0 e1 e10 e11 e12 e13 HFq hinst f3
  obtain ⟨d0, d1, d2, d3, d4, d5, d6, d7, d8, d9, d10, d11, d12, d13, d14, d15⟩ := hb.cells16
  have dq := hb.lt
  clear hb
  go_wp2_with fail
  refine (HN.out w1 HF1.out).mono ?_
  rintro e w2 ⟨rfl, ff⟩
  have hb := HB.out.fr ff fun h => h
  replace HB := hide hb
  replace HF1 := hide (HF1.out.trans ff)
  clear d0 d1 d2 d3 d4 d5 d6 d7 d8 d9 d10 d11 d12 d13 d14 d15 dq ff
  obtain ⟨d0, d1, d2, d3, d4, d5, d6, d7, d8, d9, d10, d11, d12, d13, d14, d15⟩ := hb.cells16
  have dq := hb.lt
  clear hb
  go_wp2_with fail
  refine (HO.out w2 HF1.out).mono ?_
  rintro e w8 ⟨t9, rfl, hv9, hsh9, f9⟩
  obtain rfl := zero_of hsh9 (hv9.trans T.zero_v)
  have hval : Th.val ⟨13, (home : Int), T.zero, 0, 0, ofr, 0, 0, true⟩ = .agg (th16 13 (home : Int) 0 0 ⟨#[]⟩ none 0 0 0 0 0 ofr 0 0 true) := rfl
  rw [hval]
  have hbx := (((HOK.out.no HF1.out).no f9).box _ (Wm.get_mem HG.out))
  have hbx' : Blk w8 gx 138 (th16 13 (home : Int) tk tn ts tA tl.length tcap tr 0 0 ofr 0 0 false) := hbx
  unfold th16 at hbx' ⊢
  obtain ⟨e0, e1, e2, e3, e4, e5, e6, e7, e8, e9, e10, e11, e12, e13, e14, e15⟩ := hbx'.cells16
  have ez := hbx'.frozen
  have eq_ := hbx'.lt
  have HBX' := hide hbx'
  have HF8 := hide (HF1.out.trans f9)
  have HSH := hide hsh9
  have hz8 := HF1.out.size
  have HZ8 := hide hz8
  clear d0 d1 d2 d3 d4 d5 d6 d7 d8 d9 d10 d11 d12 d13 d14 d15 dq f9 hval hv9 hsh9 hbx hbx' hz8 HBX
  go_wp2_with fail
  refine bodyPost_ret (v := .int .i64 0) (by simp [results, Tryz.results105, go_sem, *]) rfl ?_
  generalize hWe : World.setCell _ _ _ = We
  have fe : Fr (fun i => i = gx) w8 We := by
    rw [← hWe]
    repeat (first | with_reducible exact Fr.refl _ w8 | with_reducible refine Fr.set ?_ (by simp) _)
  have h16 := ((((((((((((((((HBX'.out.set_ 0 (.int .u8 13)).set_ 1 (.int .i64 (home : Int))).set_ 2 (.int .u8 0)).set_ 3 (.int .i64 0)).set_ 4 (.string ⟨#[]⟩)).set_ 5 (.slice none 0 0)).set_ 6 (.int .i64 0)).set_ 7 (.slice none 0 0)).set_ 8 (.int .i64 0)).set_ 9 (.int .i64 0)).set_ 10 (.int .i64 ofr)).set_ 11 (.int .i64 0)).set_ 12 (.int .u8 0)).set_ 13 (.bool true)).set_ 14 (.slice none 0 0)).set_ 15 (.slice none 0 0))
  simp only [List.setIfInBounds_toArray, List.set_cons_zero, List.set_cons_succ] at h16
  rw [hWe] at h16
  have hsh := HSH.out
  have hz8 := HZ8.out
  have hf := lay_fin (y := ⟨13, (home : Int), T.zero, 0, 0, ofr, 0, 0, true⟩) HOK.out HG.out HF8.out fe h16 rfl ((hsh.fr fe fun b hb hh => by
    obtain ⟨cs', hb'⟩ := T.Sp.typed _ hsh.sp b hb
    exact Blk.ne_ hb' HBX'.out (by decide) hh).more (by omega) fe.size)
  exact ⟨rfl, hf.1, hf.2⟩

end Go.Proofs.YtlejelbefmkakaaGreat

/- Layer 12: cut, IsCut, Cut. -/
namespace Go.Proofs.YtlejelbefmkakaaGreat
open Go.RowKit

section
variable {m : Wm} {lo : Nat} {W : World}

theorem WhatZ (h : m.Ok lo W) {r : Int} {g : Nat} {kind home n lost ofr byr set : Int} {full : Bool} (hg : m.get r = some (g, ⟨kind, home, T.zero, n, lost, ofr, byr, set, full⟩)) :
    Calls Tryz.prog 89 #[.pointer (some ⟨m.wb, 0, none⟩), .int .i64 r] W fun e w' => e = .returned (.tuple #[.agg #[.int .u8 kind, .int .i64 home, .int .u8 0, .int .i64 0, .string ⟨#[]⟩, .slice none 0 0, .int .i64 0, .slice none 0 0, .int .i64 n, .int .i64 lost, .int .i64 ofr, .int .i64 byr, .int .u8 set, .bool full, .slice none 0 0, .slice none 0 0], .int .i64 0]) ∧ Fr No W w' := by
  refine (What_ok h hg (by show T.zero.v.may = true; rw [T.zero_v, zero_may])).mono ?_
  rintro e w' ⟨t', rfl, hv, hsh, f⟩
  obtain rfl := zero_of hsh (hv.trans T.zero_v)
  exact ⟨rfl, f⟩

set_option maxRecDepth 100000 in
set_option maxHeartbeats 4000000 in
/-- Whether a gate is cut. -/
theorem cut_w (h : m.Ok lo W) {r : Int} {g gs : Nat} {home ofr byr home2 of2 : Int} {full : Bool} (hg : m.get r = some (g, ⟨15, home, T.zero, 0, 0, ofr, byr, 0, false⟩)) (hs : m.get byr = some (gs, ⟨13, home2, T.zero, 0, 0, of2, 0, 0, full⟩)) :
    Calls Tryz.prog 100 #[.pointer (some ⟨m.wb, 0, none⟩), .int .i64 r] W fun e w' => e = .returned (.bool full) ∧ Fr No W w' := by
  have H1 := hide (WhatZ h hg)
  have H2 := hide fun w' (f : Fr No W w') => WhatZ (h.no f) hs
  clear h hg hs
  go_enter Tryz.func100, Tryz.ntmps100
  go_wp2_with fail
  refine H1.out.mono ?_
  rintro e w1 ⟨rfl, f1⟩
  have HF1 := hide f1
  clear H1 f1
  go_wp2_with fail
  have hb := Blk.new w1 138 #[.int .u8 15, .int .i64 home, .int .u8 0, .int .i64 0, .string ⟨#[]⟩, .slice none 0 0, .int .i64 0, .slice none 0 0, .int .i64 0, .int .i64 0, .int .i64 ofr, .int .i64 byr, .int .u8 0, .bool false, .slice none 0 0, .slice none 0 0]
  have fe := (Fr.refl No w1).alloc (.cells #[.int .u8 15, .int .i64 home, .int .u8 0, .int .i64 0, .string ⟨#[]⟩, .slice none 0 0, .int .i64 0, .slice none 0 0, .int .i64 0, .int .i64 0, .int .i64 ofr, .int .i64 byr, .int .u8 0, .bool false, .slice none 0 0, .slice none 0 0] 138)
  generalize hWe : World.alloc w1 _ = We at *
  have HB := hide hb
  have HFe := hide (HF1.out.trans fe)
  refine (H2.out We HFe.out).mono ?_
  rintro e w2 ⟨rfl, f2⟩
  have hb2 := HB.out.fr f2 fun h => h
  obtain ⟨d0, d1, d2, d3, d4, d5, d6, d7, d8, d9, d10, d11, d12, d13, d14, d15⟩ := hb2.cells16
  have dq := hb2.lt
  have HF2 := hide (HFe.out.trans f2)
  generalize w1.heap.size = ga at *
  clear hb hb2 fe f2 hWe H2 HB
  go_wp2_with fail
  go_ret
  refine ⟨rfl, ?_⟩
  repeat (first | with_reducible exact HF2.out | with_reducible refine Fr.alloc ?_ _ | with_reducible refine Fr.setNew ?_ (by first | (have := HF2.out.size; simp; done) | (have := HF2.out.size; simp; omega)) _)

set_option maxRecDepth 100000 in
set_option maxHeartbeats 4000000 in
/-- Whether a switch is cut. -/
theorem IsCut_w (h : m.Ok lo W) {r : Int} {gs : Nat} {home of2 : Int} {full : Bool} (hs : m.get r = some (gs, ⟨13, home, T.zero, 0, 0, of2, 0, 0, full⟩)) :
    Calls Tryz.prog 30 #[.pointer (some ⟨m.wb, 0, none⟩), .int .i64 r] W fun e w' => e = .returned (.tuple #[.bool full, .int .i64 0]) ∧ Fr No W w' := by
  have H0 := hide (gath_w h)
  have H1 := hide (WhatZ h hs)
  clear h hs
  go_enter Tryz.func30, Tryz.ntmps30
  go_wp2_with fail
  refine H0.out.mono ?_
  rintro e w' ⟨rfl, rfl⟩
  go_wp2_with fail
  refine H1.out.mono ?_
  rintro e w1 ⟨rfl, f1⟩
  have HF1 := hide f1
  clear H1 H0 f1
  go_wp2
  go_ret2
  refine ⟨rfl, ?_⟩
  repeat (first | with_reducible exact HF1.out | with_reducible refine Fr.alloc ?_ _ | with_reducible refine Fr.setNew ?_ (by first | (have := HF1.out.size; simp; done) | (have := HF1.out.size; simp; omega)) _)

/-- What Cut leaves of a switch that wasn't cut. -/
def CutRes (m : Wm) (r : Int) (home : Nat) (ofr : Int) (lo : Nat) (W : World) (e : Ending) (w' : World) : Prop :=
  e = .returned (.int .i64 0) ∧ (m.put (r - 1).toNat ⟨13, home, T.zero, 0, 0, ofr, 0, 0, true⟩).Ok lo w' ∧ Fr m.B W w'

set_option maxRecDepth 100000 in
set_option maxHeartbeats 4000000 in
theorem GCut_w (h : m.Ok lo W) (hlo : lo ≤ W.heap.size) {r : Int} {gs home : Nat} {ofr : Int} (hg : m.get r = some (gs, ⟨13, home, T.zero, 0, 0, ofr, 0, 0, false⟩)) (hs : home < m.made.length) :
    Calls Tryz.prog 37 #[.pointer (some ⟨m.wb, 0, none⟩), .int .i64 r] W (CutRes m r home ofr lo W) := by
  have H0 := hide (gath_w h)
  have H1 := hide (WhatZ h hg)
  have H2 := hide fun w' (f : Fr No W w') => Lay13_w (h.no f) (Nat.le_trans hlo f.size) hg hs
  have HB := hide fun i (hi : m.B i) => (h.lt i hi).2
  clear h hg hs
  go_enter Tryz.func37, Tryz.ntmps37
  go_wp2_with fail
  refine H0.out.mono ?_
  rintro e w' ⟨rfl, rfl⟩
  go_wp2_with fail
  refine H1.out.mono ?_
  rintro e w1 ⟨rfl, f1⟩
  have HF1 := hide f1
  have hz1 := f1.size
  clear H1 H0 f1
  go_upto_region 8 with (fail)
  go_wp2_with fail
  have fe := HF1.out.alloc (.cells #[.int .u8 13, .int .i64 (home : Int), .int .u8 0, .int .i64 0, .string ⟨#[]⟩, .slice none 0 0, .int .i64 0, .slice none 0 0, .int .i64 0, .int .i64 0, .int .i64 ofr, .int .i64 0, .int .u8 0, .bool true, .slice none 0 0, .slice none 0 0] 138)
  generalize hWe : World.alloc w1 _ = We at *
  have hc := H2.out We fe
  unfold th16 at hc
  refine hc.mono ?_
  rintro e w2 ⟨rfl, hok, f2⟩
  have HOK := hide hok
  have HF2 := hide (fe.no.trans f2)
  clear hok f2 fe hc hWe H2
  go_wp2
  go_ret
  exact ⟨rfl, HOK.out, HF2.out⟩
end

end Go.Proofs.YtlejelbefmkakaaGreat

/- Layer 12: Do, of a switch that is asked. -/
namespace Go.Proofs.YtlejelbefmkakaaGreat
open Go.RowKit

set_option maxRecDepth 100000 in
theorem one1 (W : World) : Calls Tryz.prog 90 #[.int .u8 1] W fun e w' => e = .returned (.bool true) ∧ w' = W := by
  have h1 : Calls Tryz.prog 161 #[.int .u8 1] W fun e w' => e = .returned (.bool true) ∧ w' = W := by
    go_enter Tryz.func161, Tryz.ntmps161
    go_wp2
    go_ret
    exact ⟨rfl, rfl⟩
  have h2 : Calls Tryz.prog 162 #[.int .u8 1] W fun e w' => e = .returned (.int .i64 1) ∧ w' = W := by
    go_enter Tryz.func162, Tryz.ntmps162
    go_wp2
    go_ret
    exact ⟨by kernel_rfl, rfl⟩
  go_enter Tryz.func90, Tryz.ntmps90
  go_wp2_with fail
  refine h1.mono ?_
  rintro e w' ⟨rfl, rfl⟩
  go_wp2_with fail
  refine h2.mono ?_
  rintro e w' ⟨rfl, rfl⟩
  go_wp2
  go_ret
  exact ⟨rfl, rfl⟩

set_option maxRecDepth 100000 in
set_option maxHeartbeats 8000000 in
/-- A cut switch that is asked says 1. -/
theorem GDo_w {m : Wm} {lo : Nat} {W : World} (h : m.Ok lo W) {r : Int} {gs : Nat} {home of2 : Int} (hs : m.get r = some (gs, ⟨13, home, T.zero, 0, 0, of2, 0, 0, true⟩)) :
    Calls Tryz.prog 31 #[.pointer (some ⟨m.wb, 0, none⟩), .int .i64 r, .int .u8 1, .agg #[.int .u8 0, .int .i64 0, .string ⟨#[]⟩, .slice none 0 0, .int .i64 0]] W fun e w' =>
      e = .returned (.tuple #[.agg #[.int .u8 1, .int .i64 1, .string ⟨#[]⟩, .slice none 0 0, .int .i64 0], .int .i64 0]) ∧ Fr No W w' := by
  have hR := fun W' => Refs_any T.zero W' 0 W'.heap.size ((T.zero_ow W' 0 W'.heap.size).inn) (Nat.le_refl _)
  rw [T.zero_v, zero_refs, T.zero_val] at hR
  have hM := may_zero
  rw [T.zero_val] at hM
  have hI := fun W' (f : Fr No W W') => Is_w (h.no f) r
  have hK := fun W' (f : Fr No W W') => Kind_w (h.no f) r
  have e2 : m.kind r = 13 := by unfold Wm.kind; rw [hs]; rfl
  rw [e2] at hK
  rw [hs] at hI
  have HOne := hide one1
  have HTh := hide fun W' (f : Fr No W W') => gath_w (h.no f)
  have HC := hide fun W' (f : Fr No W W') => IsCut_w (h.no f) hs
  have HM := hide hM
  have HR := hide hR
  have HI := hide hI
  have HK := hide hK
  have hf0 := (((Fr.refl No W).alloc (.cells #[.int .u8 0, .int .i64 0, .string ⟨#[]⟩, .slice none 0 0, .int .i64 0] 28)).alloc (.cells #[.int .u8 0, .int .i64 0, .string ⟨#[]⟩, .slice none 0 0, .int .i64 0] 28)).alloc (.cells #[.int .u8 0, .int .i64 0, .string ⟨#[]⟩, .slice none 0 0, .int .i64 0] 28)
  have h7 := ((Blk.new W 28 #[.int .u8 0, .int .i64 0, .string ⟨#[]⟩, .slice none 0 0, .int .i64 0]).alloc (.cells #[.int .u8 0, .int .i64 0, .string ⟨#[]⟩, .slice none 0 0, .int .i64 0] 28)).alloc (.cells #[.int .u8 0, .int .i64 0, .string ⟨#[]⟩, .slice none 0 0, .int .i64 0] 28)
  have h8 := (Blk.new' (W.alloc (.cells #[.int .u8 0, .int .i64 0, .string ⟨#[]⟩, .slice none 0 0, .int .i64 0] 28)) 28 #[.int .u8 0, .int .i64 0, .string ⟨#[]⟩, .slice none 0 0, .int .i64 0] (g := W.heap.size + 1) (by simp)).alloc (.cells #[.int .u8 0, .int .i64 0, .string ⟨#[]⟩, .slice none 0 0, .int .i64 0] 28)
  obtain ⟨v0, v1, v2, v3, v4, vf⟩ := h7.cells5
  have vq := h7.lt
  have H7 := hide h7
  have H8 := hide h8
  have HF := hide hf0
  clear hR hM hI hK e2 h7 h8 hf0 h hs
  go_enter Tryz.func31, Tryz.ntmps31
  go_wp2_with fail
  generalize World.alloc (World.alloc (World.alloc W _) _) _ = W0 at *
  refine (HTh.out W0 HF.out).mono ?_
  rintro e w' ⟨rfl, rfl⟩
  go_wp2_with fail
  refine (HOne.out w').mono ?_
  rintro e w' ⟨rfl, rfl⟩
  go_wp2_with fail
  refine (HM.out w').mono ?_
  rintro e w1 ⟨rfl, ff⟩
  replace HF := hide (HF.out.trans ff)
  replace H7 := hide (H7.out.fr ff fun h => h)
  replace H8 := hide (H8.out.fr ff fun h => h)
  clear v0 v1 v2 v3 v4 vf vq ff
  obtain ⟨v0, v1, v2, v3, v4, vf⟩ := H7.out.cells5
  have vq := H7.out.lt
  go_wp2_with fail
  refine (HI.out w1 HF.out).mono ?_
  rintro e w' ⟨rfl, rfl⟩
  go_wp2_with fail
  refine (HR.out w').mono ?_
  rintro e w2 ⟨v, rfl, hrow, ff⟩
  obtain ⟨A1, c1, rfl⟩ := owns_form hrow
  replace HF := hide (HF.out.trans ff)
  replace H7 := hide (H7.out.fr ff fun h => h)
  replace H8 := hide (H8.out.fr ff fun h => h)
  clear v0 v1 v2 v3 v4 vf vq ff hrow
  simp only [List.length_nil]
  go_wp2_with fail
  refine wp_loop_rounds 1 ?_
  rw [rounds_succ]
  go_wp2_with fail
  refine (HK.out w2 HF.out).mono ?_
  rintro e w' ⟨rfl, rfl⟩
  go_upto_region 21 with (fail)
  go_wp2_with fail
  have hbe := Blk.new w' 28 #[.int .u8 1, .int .i64 0, .string ⟨#[]⟩, .slice none 0 0, .int .i64 0]
  have fe := (Fr.refl No w').alloc (.cells #[.int .u8 1, .int .i64 0, .string ⟨#[]⟩, .slice none 0 0, .int .i64 0] 28)
  have hz := HF.out.size
  generalize hWe : World.alloc w' _ = We at *
  refine (HC.out We (HF.out.trans fe)).mono ?_
  rintro e w4 ⟨rfl, f4⟩
  have hb4 := hbe.fr f4 fun h => h
  have h84 := (H8.out.fr fe fun h => h).fr f4 fun h => h
  obtain ⟨v0, v1, v2, v3, v4, vf⟩ := hb4.cells5
  have vq := hb4.lt
  obtain ⟨u0, u1, u2, u3, u4, uf⟩ := h84.cells5
  have uq := h84.lt
  have HF4 := hide ((HF.out.trans fe).trans f4)
  have hlt8 := H8.out.lt
  generalize w'.heap.size = g13 at *
  clear hb4 h84 hbe fe f4 hWe HC
  go_wp2_with fail
  refine bodyPost_ret (v := .tuple #[.agg #[.int .u8 1, .int .i64 1, .string ⟨#[]⟩, .slice none 0 0, .int .i64 0], .int .i64 0]) (by simp [results, Tryz.results31, go_sem, *]) rfl ⟨rfl, ?_⟩
  repeat (first | with_reducible exact HF4.out | with_reducible refine Fr.setNew ?_ (by first | (simp; done) | (simp; omega)) _)

end Go.Proofs.YtlejelbefmkakaaGreat

/- Worlds: bare, of things of the kinds 1, 2. -/
namespace Go.Proofs.YtlejelbefmkakaaGreat
open Go.RowKit

set_option maxRecDepth 100000 in
set_option maxHeartbeats 4000000 in
theorem bare1 (home : Int) (W : World) :
    Calls Tryz.prog 207 #[.agg (th16 1 home 0 0 ⟨#[]⟩ none 0 0 0 0 0 0 0 0 false)] W fun e w' => e = .returned (.agg (th16 1 home 0 0 ⟨#[]⟩ none 0 0 0 0 0 0 0 0 false)) ∧ Fr No W w' := by
  unfold th16
  go_enter Tryz.func207, Tryz.ntmps207
  go_wp2_with fail
  refine bodyPost_ret (v := .agg (th16 1 home 0 0 ⟨#[]⟩ none 0 0 0 0 0 0 0 0 false)) (by simp [results, Tryz.results207, th16, go_sem, *]) rfl ⟨rfl, ?_⟩
  repeat (first | with_reducible exact Fr.refl No W | with_reducible refine Fr.drew ?_ | with_reducible refine Fr.alloc ?_ _ | with_reducible refine Fr.setNew ?_ (by first | (simp; done) | (simp; omega)) _)

set_option maxRecDepth 100000 in
set_option maxHeartbeats 4000000 in
theorem bare2 (home : Int) (W : World) :
    Calls Tryz.prog 207 #[.agg (th16 2 home 0 0 ⟨#[]⟩ none 0 0 0 0 0 0 0 0 false)] W fun e w' => e = .returned (.agg (th16 2 home 0 0 ⟨#[]⟩ none 0 0 0 0 0 0 0 0 false)) ∧ Fr No W w' := by
  unfold th16
  go_enter Tryz.func207, Tryz.ntmps207
  go_wp2_with fail
  refine bodyPost_ret (v := .agg (th16 2 home 0 0 ⟨#[]⟩ none 0 0 0 0 0 0 0 0 false)) (by simp [results, Tryz.results207, th16, go_sem, *]) rfl ⟨rfl, ?_⟩
  repeat (first | with_reducible exact Fr.refl No W | with_reducible refine Fr.drew ?_ | with_reducible refine Fr.alloc ?_ _ | with_reducible refine Fr.setNew ?_ (by first | (simp; done) | (simp; omega)) _)

end Go.Proofs.YtlejelbefmkakaaGreat

/- Worlds: form, of things of the kinds 1, 2. -/
namespace Go.Proofs.YtlejelbefmkakaaGreat
open Go.RowKit

set_option maxRecDepth 100000 in
set_option maxHeartbeats 8000000 in
theorem form1 {m : Wm} {lo : Nat} {W : World} (h : m.Ok lo W) (home : Nat) (hh : home < m.made.length) :
    Calls Tryz.prog 154 #[.pointer (some ⟨m.wb, 0, none⟩), .agg (th16 1 (home : Int) 0 0 ⟨#[]⟩ none 0 0 0 0 0 0 0 0 false)] W fun e w' => e = .returned (.bool true) ∧ Fr No W w' := by
  have HBare := hide (bare1 (home : Int))
  have HOf := hide of_none
  have hd : decide (0 ≤ (home : Int) ∧ (home : Int) < (m.made.length : Int)) = true := by simp; omega
  have hsd := fun W' (f : Fr No W W') => side_w (h.no f) (home : Int)
  rw [hd] at hsd
  have HSide := hide hsd
  have hbl := blank_w T.zero
  have hmy := fun W' (_ : Fr No W W') => may_zero W'
  have hz : blankB T.zero.v = true := by rw [T.zero_v]; simp [V.zero, blankB]
  rw [hz, T.zero_val] at hbl
  rw [T.zero_val] at hmy
  clear hz
  have HBl := hide hbl
  have HMay := hide hmy
  have hb0 := Blk.new W 138 (th16 1 (home : Int) 0 0 ⟨#[]⟩ none 0 0 0 0 0 0 0 0 false)
  have HF0 := hide ((Fr.refl No W).alloc (.cells (th16 1 (home : Int) 0 0 ⟨#[]⟩ none 0 0 0 0 0 0 0 0 false) 138))
  unfold th16 at HBare hb0 HF0 ⊢
  obtain ⟨d0, d1, d2, d3, d4, d5, d6, d7, d8, d9, d10, d11, d12, d13, d14, d15⟩ := hb0.cells16
  have dq := hb0.lt
  have HB0 := hide hb0
  clear hb0 h hh hd hsd hbl hmy
  go_enter Tryz.func154, Tryz.ntmps154
  go_wp2_with fail
  generalize World.alloc W _ = W0 at *
  refine (HBare.out W0).mono ?_
  rintro e w1 ⟨rfl, f1⟩
  have fa := f1.alloc (.cells (th16 1 (home : Int) 0 0 ⟨#[]⟩ none 0 0 0 0 0 0 0 0 false) 138)
  have bb := Blk.new w1 138 (th16 1 (home : Int) 0 0 ⟨#[]⟩ none 0 0 0 0 0 0 0 0 false)
  unfold th16 at fa bb
  have bx := HB0.out.fr fa fun h => h
  have HF1 := hide (HF0.out.trans fa)
  have HBX := hide bx
  have HBB := hide bb
  clear d0 d1 d2 d3 d4 d5 d6 d7 d8 d9 d10 d11 d12 d13 d14 d15 dq
  obtain ⟨d0, d1, d2, d3, d4, d5, d6, d7, d8, d9, d10, d11, d12, d13, d14, d15⟩ := bx.cells16
  obtain ⟨b0, b1, b2, b3, b4, b5, b6, b7, b8, b9, b10, b11, b12, b13, b14, b15⟩ := bb.cells16
  have dq := bx.lt
  have bq := bb.lt
  generalize hgb : w1.heap.size = gb at *
  clear f1 fa bx bb HB0 HF0 hgb
  go_wp2_with fail
  generalize World.alloc w1 _ = w2 at *
  refine (HBl.out w2).mono ?_
  rintro e w3 ⟨rfl, ff⟩
  have bx := HBX.out.fr ff fun h => h
  have bb := HBB.out.fr ff fun h => h
  replace HBX := hide bx
  replace HBB := hide bb
  replace HF1 := hide (HF1.out.trans ff)
  clear d0 d1 d2 d3 d4 d5 d6 d7 d8 d9 d10 d11 d12 d13 d14 d15 dq b0 b1 b2 b3 b4 b5 b6 b7 b8 b9 b10 b11 b12 b13 b14 b15 bq ff
  obtain ⟨d0, d1, d2, d3, d4, d5, d6, d7, d8, d9, d10, d11, d12, d13, d14, d15⟩ := bx.cells16
  obtain ⟨b0, b1, b2, b3, b4, b5, b6, b7, b8, b9, b10, b11, b12, b13, b14, b15⟩ := bb.cells16
  have dq := bx.lt
  have bq := bb.lt
  clear bx bb
  go_wp2_with fail
  refine (HBl.out w3).mono ?_
  rintro e w4 ⟨rfl, ff⟩
  have bx := HBX.out.fr ff fun h => h
  have bb := HBB.out.fr ff fun h => h
  replace HBX := hide bx
  replace HBB := hide bb
  replace HF1 := hide (HF1.out.trans ff)
  clear d0 d1 d2 d3 d4 d5 d6 d7 d8 d9 d10 d11 d12 d13 d14 d15 dq b0 b1 b2 b3 b4 b5 b6 b7 b8 b9 b10 b11 b12 b13 b14 b15 bq ff
  obtain ⟨d0, d1, d2, d3, d4, d5, d6, d7, d8, d9, d10, d11, d12, d13, d14, d15⟩ := bx.cells16
  obtain ⟨b0, b1, b2, b3, b4, b5, b6, b7, b8, b9, b10, b11, b12, b13, b14, b15⟩ := bb.cells16
  have dq := bx.lt
  have bq := bb.lt
  clear bx bb
  go_wp2_with fail
  refine (HSide.out w4 HF1.out).mono ?_
  rintro e w' ⟨rfl, rfl⟩
  go_wp2_with fail
  refine (HMay.out w' HF1.out).mono ?_
  rintro e w5 ⟨rfl, ff⟩
  have bx := HBX.out.fr ff fun h => h
  have bb := HBB.out.fr ff fun h => h
  replace HBX := hide bx
  replace HBB := hide bb
  replace HF1 := hide (HF1.out.trans ff)
  clear d0 d1 d2 d3 d4 d5 d6 d7 d8 d9 d10 d11 d12 d13 d14 d15 dq b0 b1 b2 b3 b4 b5 b6 b7 b8 b9 b10 b11 b12 b13 b14 b15 bq ff
  obtain ⟨d0, d1, d2, d3, d4, d5, d6, d7, d8, d9, d10, d11, d12, d13, d14, d15⟩ := bx.cells16
  obtain ⟨b0, b1, b2, b3, b4, b5, b6, b7, b8, b9, b10, b11, b12, b13, b14, b15⟩ := bb.cells16
  have dq := bx.lt
  have bq := bb.lt
  clear bx bb
  go_wp2_with fail
  refine (HOf.out w5).mono ?_
  rintro e w6 ⟨⟨⟨k9, n9, s9, A9, cap9, l9, r9⟩, rfl⟩, ff⟩
  rw [T.val_mk]
  replace ff := ff.alloc (.cells #[.int .u8 k9, .int .i64 n9, .string s9, .slice A9 l9.length cap9, .int .i64 r9] 28)
  have bx := HBX.out.fr ff fun h => h
  have bb := HBB.out.fr ff fun h => h
  replace HBX := hide bx
  replace HBB := hide bb
  replace HF1 := hide (HF1.out.trans ff)
  clear d0 d1 d2 d3 d4 d5 d6 d7 d8 d9 d10 d11 d12 d13 d14 d15 dq b0 b1 b2 b3 b4 b5 b6 b7 b8 b9 b10 b11 b12 b13 b14 b15 bq ff
  obtain ⟨d0, d1, d2, d3, d4, d5, d6, d7, d8, d9, d10, d11, d12, d13, d14, d15⟩ := bx.cells16
  obtain ⟨b0, b1, b2, b3, b4, b5, b6, b7, b8, b9, b10, b11, b12, b13, b14, b15⟩ := bb.cells16
  have dq := bx.lt
  have bq := bb.lt
  clear bx bb
  go_wp2_with fail
  refine wp_loop_rounds 1 ?_
  rw [rounds_succ]
  go_wp2_with fail
  go_ret
  exact ⟨rfl, HF1.out⟩


set_option maxRecDepth 100000 in
set_option maxHeartbeats 8000000 in
theorem form2 {m : Wm} {lo : Nat} {W : World} (h : m.Ok lo W) (home : Nat) (hh : home < m.made.length) :
    Calls Tryz.prog 154 #[.pointer (some ⟨m.wb, 0, none⟩), .agg (th16 2 (home : Int) 0 0 ⟨#[]⟩ none 0 0 0 0 0 0 0 0 false)] W fun e w' => e = .returned (.bool true) ∧ Fr No W w' := by
  have HBare := hide (bare2 (home : Int))
  have HOf := hide of_none
  have hd : decide (0 ≤ (home : Int) ∧ (home : Int) < (m.made.length : Int)) = true := by simp; omega
  have hsd := fun W' (f : Fr No W W') => side_w (h.no f) (home : Int)
  rw [hd] at hsd
  have HSide := hide hsd
  have hbl := blank_w T.zero
  have hmy := fun W' (_ : Fr No W W') => may_zero W'
  have hz : blankB T.zero.v = true := by rw [T.zero_v]; simp [V.zero, blankB]
  rw [hz, T.zero_val] at hbl
  rw [T.zero_val] at hmy
  clear hz
  have HBl := hide hbl
  have HMay := hide hmy
  have hb0 := Blk.new W 138 (th16 2 (home : Int) 0 0 ⟨#[]⟩ none 0 0 0 0 0 0 0 0 false)
  have HF0 := hide ((Fr.refl No W).alloc (.cells (th16 2 (home : Int) 0 0 ⟨#[]⟩ none 0 0 0 0 0 0 0 0 false) 138))
  unfold th16 at HBare hb0 HF0 ⊢
  obtain ⟨d0, d1, d2, d3, d4, d5, d6, d7, d8, d9, d10, d11, d12, d13, d14, d15⟩ := hb0.cells16
  have dq := hb0.lt
  have HB0 := hide hb0
  clear hb0 h hh hd hsd hbl hmy
  go_enter Tryz.func154, Tryz.ntmps154
  go_wp2_with fail
  generalize World.alloc W _ = W0 at *
  refine (HBare.out W0).mono ?_
  rintro e w1 ⟨rfl, f1⟩
  have fa := f1.alloc (.cells (th16 2 (home : Int) 0 0 ⟨#[]⟩ none 0 0 0 0 0 0 0 0 false) 138)
  have bb := Blk.new w1 138 (th16 2 (home : Int) 0 0 ⟨#[]⟩ none 0 0 0 0 0 0 0 0 false)
  unfold th16 at fa bb
  have bx := HB0.out.fr fa fun h => h
  have HF1 := hide (HF0.out.trans fa)
  have HBX := hide bx
  have HBB := hide bb
  clear d0 d1 d2 d3 d4 d5 d6 d7 d8 d9 d10 d11 d12 d13 d14 d15 dq
  obtain ⟨d0, d1, d2, d3, d4, d5, d6, d7, d8, d9, d10, d11, d12, d13, d14, d15⟩ := bx.cells16
  obtain ⟨b0, b1, b2, b3, b4, b5, b6, b7, b8, b9, b10, b11, b12, b13, b14, b15⟩ := bb.cells16
  have dq := bx.lt
  have bq := bb.lt
  generalize hgb : w1.heap.size = gb at *
  clear f1 fa bx bb HB0 HF0 hgb
  go_wp2_with fail
  generalize World.alloc w1 _ = w2 at *
  refine (HBl.out w2).mono ?_
  rintro e w3 ⟨rfl, ff⟩
  have bx := HBX.out.fr ff fun h => h
  have bb := HBB.out.fr ff fun h => h
  replace HBX := hide bx
  replace HBB := hide bb
  replace HF1 := hide (HF1.out.trans ff)
  clear d0 d1 d2 d3 d4 d5 d6 d7 d8 d9 d10 d11 d12 d13 d14 d15 dq b0 b1 b2 b3 b4 b5 b6 b7 b8 b9 b10 b11 b12 b13 b14 b15 bq ff
  obtain ⟨d0, d1, d2, d3, d4, d5, d6, d7, d8, d9, d10, d11, d12, d13, d14, d15⟩ := bx.cells16
  obtain ⟨b0, b1, b2, b3, b4, b5, b6, b7, b8, b9, b10, b11, b12, b13, b14, b15⟩ := bb.cells16
  have dq := bx.lt
  have bq := bb.lt
  clear bx bb
  go_wp2_with fail
  refine (HBl.out w3).mono ?_
  rintro e w4 ⟨rfl, ff⟩
  have bx := HBX.out.fr ff fun h => h
  have bb := HBB.out.fr ff fun h => h
  replace HBX := hide bx
  replace HBB := hide bb
  replace HF1 := hide (HF1.out.trans ff)
  clear d0 d1 d2 d3 d4 d5 d6 d7 d8 d9 d10 d11 d12 d13 d14 d15 dq b0 b1 b2 b3 b4 b5 b6 b7 b8 b9 b10 b11 b12 b13 b14 b15 bq ff
  obtain ⟨d0, d1, d2, d3, d4, d5, d6, d7, d8, d9, d10, d11, d12, d13, d14, d15⟩ := bx.cells16
  obtain ⟨b0, b1, b2, b3, b4, b5, b6, b7, b8, b9, b10, b11, b12, b13, b14, b15⟩ := bb.cells16
  have dq := bx.lt
  have bq := bb.lt
  clear bx bb
  go_wp2_with fail
  refine (HSide.out w4 HF1.out).mono ?_
  rintro e w' ⟨rfl, rfl⟩
  go_wp2_with fail
  refine (HMay.out w' HF1.out).mono ?_
  rintro e w5 ⟨rfl, ff⟩
  have bx := HBX.out.fr ff fun h => h
  have bb := HBB.out.fr ff fun h => h
  replace HBX := hide bx
  replace HBB := hide bb
  replace HF1 := hide (HF1.out.trans ff)
  clear d0 d1 d2 d3 d4 d5 d6 d7 d8 d9 d10 d11 d12 d13 d14 d15 dq b0 b1 b2 b3 b4 b5 b6 b7 b8 b9 b10 b11 b12 b13 b14 b15 bq ff
  obtain ⟨d0, d1, d2, d3, d4, d5, d6, d7, d8, d9, d10, d11, d12, d13, d14, d15⟩ := bx.cells16
  obtain ⟨b0, b1, b2, b3, b4, b5, b6, b7, b8, b9, b10, b11, b12, b13, b14, b15⟩ := bb.cells16
  have dq := bx.lt
  have bq := bb.lt
  clear bx bb
  go_wp2_with fail
  refine (HOf.out w5).mono ?_
  rintro e w6 ⟨⟨⟨k9, n9, s9, A9, cap9, l9, r9⟩, rfl⟩, ff⟩
  rw [T.val_mk]
  replace ff := ff.alloc (.cells #[.int .u8 k9, .int .i64 n9, .string s9, .slice A9 l9.length cap9, .int .i64 r9] 28)
  have bx := HBX.out.fr ff fun h => h
  have bb := HBB.out.fr ff fun h => h
  replace HBX := hide bx
  replace HBB := hide bb
  replace HF1 := hide (HF1.out.trans ff)
  clear d0 d1 d2 d3 d4 d5 d6 d7 d8 d9 d10 d11 d12 d13 d14 d15 dq b0 b1 b2 b3 b4 b5 b6 b7 b8 b9 b10 b11 b12 b13 b14 b15 bq ff
  obtain ⟨d0, d1, d2, d3, d4, d5, d6, d7, d8, d9, d10, d11, d12, d13, d14, d15⟩ := bx.cells16
  obtain ⟨b0, b1, b2, b3, b4, b5, b6, b7, b8, b9, b10, b11, b12, b13, b14, b15⟩ := bb.cells16
  have dq := bx.lt
  have bq := bb.lt
  clear bx bb
  go_wp2_with fail
  refine wp_loop_rounds 1 ?_
  rw [rounds_succ]
  go_wp2_with fail
  go_ret
  exact ⟨rfl, HF1.out⟩


end Go.Proofs.YtlejelbefmkakaaGreat

/- Worlds: Make, of a thing of kind 1. -/
namespace Go.Proofs.YtlejelbefmkakaaGreat
open Go.RowKit

set_option maxRecDepth 100000 in
set_option maxHeartbeats 8000000 in
theorem make1 {m : Wm} {lo : Nat} {W : World} (h : m.Ok lo W) (hlo : lo ≤ W.heap.size) (home : Nat) (hs : home < m.made.length) (h512 : m.made[home] < 512) (hlen : m.th.length < 100000) :
    Calls Tryz.prog 85 #[.pointer (some ⟨m.wb, 0, none⟩), .agg (th16 1 (home : Int) 0 0 ⟨#[]⟩ none 0 0 0 0 0 0 0 0 false)] W (MakeRes m 1 home T.zero.v 0 0 0 0 0 false home lo W) := by
  have ht := fun W' : World => (T.zero_ow W' 0 W'.heap.size).inn
  have hzv : T.zero.v.may = true := by rw [T.zero_v, zero_may]
  have hF := fun W' (f : Fr No W W') => form1 (h.no f) home hs
  have hN := fun W' (f : Fr No W W') => names_w (h.no f) 1 (home : Int) 0 0 ⟨#[]⟩ none 0 [] 0 0 0 0 0 0 false W'.heap.size (ht W') (Nat.le_refl _) (by show T.zero.v.refs.length ≤ _; rw [T.zero_v, zero_refs]; simp)
  have hO := fun W' (f : Fr No W W') => ownWhat_w 1 (home : Int) 0 0 ⟨#[]⟩ none 0 [] 0 0 0 0 0 0 false W' W'.heap.size (ht W') (Nat.le_refl _) hzv
  have hz0 : m.are (T.mk 0 0 ⟨#[]⟩ none 0 [] 0).v.refs = true := by show m.are T.zero.v.refs = true; rw [T.zero_v, zero_refs]; rfl
  rw [hz0] at hN
  simp only [List.length_nil] at hN hO
  have hT := fun W' (_ : Fr No W W') => fits1 (W := W') (home : Int) 0 0 ⟨#[]⟩ none 0 0 0 0 0 0 0 false m.wb
  have hb0 := Blk.new W 138 (th16 1 (home : Int) 0 0 ⟨#[]⟩ none 0 0 0 0 0 0 0 0 false)
  have hf0 := (Fr.refl No W).alloc (.cells (th16 1 (home : Int) 0 0 ⟨#[]⟩ none 0 0 0 0 0 0 0 0 false) 138)
  have HOK := hide h
  have HF := hide hF
  have HN := hide hN
  have HO := hide hO
  have HT := hide hT
  have HB := hide hb0
  have HF0 := hide hf0
  unfold th16 at HF HN HO HT HB HF0 hb0 ⊢
  obtain ⟨d0, d1, d2, d3, d4, d5, d6, d7, d8, d9, d10, d11, d12, d13, d14, d15⟩ := hb0.cells16
  have dq := hb0.lt
  clear hF hN hO hT hb0 hf0 h ht hzv hz0
  go_enter Tryz.func85, Tryz.ntmps85
  go_wp2_with fail
  generalize World.alloc W _ = W0 at *
  refine (none_w (HOK.out.no HF0.out)).mono ?_
  rintro e w' ⟨rfl, rfl⟩
  go_wp2_with fail
  refine (HF.out w' HF0.out).mono ?_
  rintro e w1 ⟨rfl, ff⟩
  have hb := HB.out.fr ff fun h => h
  replace HB := hide hb
  replace HF0 := hide (HF0.out.trans ff)
  clear d0 d1 d2 d3 d4 d5 d6 d7 d8 d9 d10 d11 d12 d13 d14 d15 dq ff
  obtain ⟨d0, d1, d2, d3, d4, d5, d6, d7, d8, d9, d10, d11, d12, d13, d14, d15⟩ := hb.cells16
  have dq := hb.lt
  clear hb
  go_wp2_with fail
  refine (HN.out w1 HF0.out).mono ?_
  rintro e w2 ⟨rfl, ff⟩
  have hb := HB.out.fr ff fun h => h
  replace HB := hide hb
  replace HF0 := hide (HF0.out.trans ff)
  clear d0 d1 d2 d3 d4 d5 d6 d7 d8 d9 d10 d11 d12 d13 d14 d15 dq ff
  obtain ⟨d0, d1, d2, d3, d4, d5, d6, d7, d8, d9, d10, d11, d12, d13, d14, d15⟩ := hb.cells16
  have dq := hb.lt
  clear hb
  go_wp2_with fail
  refine (asks1 w2).mono ?_
  rintro e w3 ⟨rfl, rfl⟩
  go_wp2_with fail
  refine (by1 w3).mono ?_
  rintro e w5 ⟨rfl, rfl⟩
  go_wp2_with fail
  refine (HT.out w5 HF0.out).mono ?_
  rintro e w6 ⟨rfl, ff⟩
  have hb := HB.out.fr ff fun h => h
  replace HB := hide hb
  replace HF0 := hide (HF0.out.trans ff)
  clear d0 d1 d2 d3 d4 d5 d6 d7 d8 d9 d10 d11 d12 d13 d14 d15 dq ff
  obtain ⟨d0, d1, d2, d3, d4, d5, d6, d7, d8, d9, d10, d11, d12, d13, d14, d15⟩ := hb.cells16
  have dq := hb.lt
  clear hb
  go_wp2_with fail
  have hok6 := HOK.out.no HF0.out
  have hz : 0 < m.made.length := by omega
  obtain ⟨gD, c, hA2, hg0, hg1⟩ := hok6.made.form hz
  simp only [Value.slice.injEq, true_and] at hA2
  have hcell : w6.cell? ⟨gD, home, none⟩ = some (.int .i64 (m.made[home] : Int)) := by
    have := World.ownsRow.cells hok6.made (g := gD) (by rw [hA2.1]; rfl) home (.int .i64 (m.made[home] : Int)) (by simp [hs])
    rwa [add_at, Nat.zero_add] at this
  have x5 : w6.cell? ⟨m.wb, 5, none⟩ = some (.slice m.D m.made.length m.dc) := by
    have := hok6.blk.cell 5
    simpa [Wm.cells] using this
  rw [hA2.1] at x5
  have xq := hok6.blk.lt
  have hlt5 : decide ((m.made[home] : Int) ≥ 512) = false := by simp; omega
  generalize hmd : m.made[home] = mv at *
  clear hok6 hz hA2
  go_region
  all_goals
    go_simp
    go_wp2_with fail
    have HF7 := hide HF0.out.drew
    refine (HO.out w6.drew HF7.out).mono ?_
    rintro e w8 ⟨⟨k9, n9, s9, A9, cap9, l9, r9⟩, rfl, hv9, hsh9, f9⟩
    have hb := HB.out.fr (((Fr.refl No w6).drew).trans f9) fun h => h
    have hz6 := HF0.out.size
    have hly := lay_w ((HOK.out.no HF7.out).no f9) (by have := f9.size; have := HF7.out.size; omega) 1 k9 n9 s9 A9 cap9 l9 r9 0 0 0 0 0 false home hs (by rw [hmd]; exact h512) (by decide) hlen (hsh9.more (by have := HF7.out.size; omega) (Nat.le_refl _))
    have hval : (Th.val ⟨1, (home : Int), T.mk k9 n9 s9 A9 cap9 l9 r9, 0, 0, 0, 0, 0, false⟩) = .agg (th16 1 (home : Int) k9 n9 s9 A9 l9.length cap9 r9 0 0 0 0 0 false) := rfl
    rw [hval]
    have hbl : ∀ b ∈ (T.mk k9 n9 s9 A9 cap9 l9 r9).blocks, W.heap.size ≤ b := fun b hb => by have := (T.In.blocks _ hsh9.inn b hb).1; have := HF7.out.size; omega
    have HLY := hide hly
    have HV9 := hide hv9
    have HBL := hide hbl
    have HF9 := hide (HF7.out.trans f9)
    have hd0 : w8.cell? ⟨W.heap.size, 0, none⟩ = some (.int .u8 1) := hb.cell 0
    have HB8 := hide hb
    unfold th16 at HLY ⊢
    clear d0 d1 d2 d3 d4 d5 d6 d7 d8 d9 d10 d11 d12 d13 d14 d15 dq hcell x5 xq hlt5 hv9 hsh9 f9 hly hval hbl hb hz6 hd0
    go_wp2_with fail
    refine HLY.out.mono ?_
    rintro e w9 ⟨rfl, hok9, f10⟩
    have hnb : ¬ m.B W.heap.size := fun hb => by have := (HOK.out.lt _ hb).2; omega
    have hb9 := HB8.out.fr f10 hnb
    have hd0 : w9.cell? ⟨W.heap.size, 0, none⟩ = some (.int .u8 1) := hb9.cell 0
    have hq0 := hb9.lt
    have HOK9 := hide hok9
    have HF10 := hide (HF9.out.no.trans f10)
    have hg8 := HF9.out.size
    have HG8 := hide hg8
    clear hok9 f10 hnb hb9 hg8
    go_wp2_with fail
    go_ret2
    exact ⟨rfl, _, _, HV9.out, HG8.out, HBL.out, HOK9.out, HF10.out⟩

end Go.Proofs.YtlejelbefmkakaaGreat

/- Texts joined: H9, D5, D6. -/
import Derived.Test.YtihjmipmjogpoaaJn13
import Derived.RangeFuncBound
import Derived.RangeFuncCalls
import Derived.OwnWalkIn
import Derived.TacticsInMore
import Derived.LoopNIn
import Derived.LoopIn
import Derived.Deep.Quiet
import Derived.BigQuiet
import Derived.TacticsIn
/- Chapter 2: ValueWalks: what it computes. -/
namespace Go.Proofs.Ytihjmipmjogpoaa
open Go.RowKit
attribute [local go_sem] Oper.semAt_some

theorem OkV.ints {x : List Int × V} {W : World} {base : Nat} {A : Option Addr} {c : Nat} {t : T} (h : OkV x W base A c t) : Ints W base W.heap.size A c x.1 := by
  have ho := h.place
  refine ⟨h.len, owns_le ho, fun hne => ?_, h.rng⟩
  rcases ho.2 with ⟨h1, h2⟩ | ⟨g, cp, cur, h1, hb, hg, hc, hm, hs, hx⟩
  · exact absurd (List.eq_nil_of_length_eq_zero h2) hne
  · simp only [Value.slice.injEq, true_and] at h1
    obtain ⟨rfl, rfl⟩ := h1
    refine ⟨g, 0, rfl, hb, (owns_lt ho g rfl).2, fun i y hy => ?_⟩
    have := World.ownsRow.cells ho (g := g) rfl i (.int .i64 y) (by simp [refCells, hy])
    rw [add_at] at this
    exact this

theorem OkV.fr {S : Nat → Prop} {x : List Int × V} {W W' : World} {base : Nat} {A : Option Addr} {c : Nat} {t : T} (h : OkV x W base A c t) (f : Fr S W W') (hs : ∀ i, OkB x A c t i → ¬ S i) : OkV x W' base A c t :=
  ⟨owns_fr h.place f (fun g hg => hs g (.inl hg)), (h.sh.fr f (fun b hb => hs b (.inr hb))).more (Nat.le_refl _) f.size, h.v, h.sep, h.rng, h.len⟩

theorem wpListIn_append_lies {F : Fence} {n : Nat} {P : Program} (w : World) {ops : Array Oper} {rest : List Oper} {o : Oper} {a : Act} {Q : Exit → Act → World → Prop}
    (hg : o.guard = none) (s x : Operand) (t : TypeId) (hop : o.op = Op.call { callee := Callee.builtin Builtin.append, args := #[s, x], argTypes := #[t, t] })
    (base : Nat) (e : TypeId) (i : TypeInfo) (z : Value) (size bytes : Nat) (h1 : P.underlying t = some (.slice e)) (h2 : P.info? e = some i) (h3 : i.zero = some z) (h4 : i.size = size) (h5 : i.bytes = bytes) (h6 : z.cells.size = size) (h7 : 0 < size)
    (v : Value) (k : Nat) (xs : List Value) (hs : a.eval s = v) (hown : w.ownsRow base e size v k xs) (ad : Addr) (m c : Nat) (news : List Value) (hx : a.eval x = .slice (some ad) m c) (hn : news.length = m * size)
    (hc : ∀ j u, news[j]? = some u → w.cell? (ad.add j) = some u) (h1c : ∀ u ∈ news, u.oneCell' = true) (hm : 0 < m) (b1 : k + m ≤ maxLen) (b2 : (k + m) * bytes ≤ 140737488355328) (b3 : base ≤ w.heap.size) (H : Nat) (hH : w.heap.size = H)
    (hK : ∀ g cap w', w'.ownsRow base e size (.slice (some ⟨g, 0, none⟩) (k + m) cap) (k + m) (xs ++ news) → w.grownBy w' v.ownBlock → (v.ownBlock = some g ∨ g = H) → g < w'.heap.size → wpListIn F n P ops Q rest (a.put o.dst (.slice (some ⟨g, 0, none⟩) (k + m) cap)) w') :
    wpListIn F n P ops Q (o :: rest) a w := by
  refine wpListIn_plain hg fun K hK' => ?_
  obtain ⟨g, cap, w', hrun, r1, r2, r3, r4⟩ := run_append_lies (P := P) w t o.type base e i z size bytes h1 h2 h3 h4 h5 h6 h7 v k xs hown ad m c news hn hc h1c hm b1 b2 b3 H hH
  unfold Oper.wpIn
  refine ⟨?_, ?_⟩
  · simp [Oper.about, hop, resolve, Target.leads, Sem.run_pure]
  · rw [Oper.semAt_plain F _ _ (by rw [hop]; intro c hc'; cases hc')]
    simp [execOp, hop, resolve, invoke, builtin, hs, hx, hrun, Result.andThen]
    exact hK' _ _ (hK g cap w' r1 r2 r3 r4)

/-- What holds between two rounds. -/
structure WkI (w0 : World) (gn gd gr : Nat) (pre : List (List Int × V)) (M : Nat → Prop) (W : World) : Prop where
  fr : Fr (fun i => i = gn ∨ i = gd ∨ i = gr) w0 W
  n : Blk W gn 3 #[.int .i64 (pre.length : Int)]
  d : Blk W gd 3 #[.int .i64 (deepOf pre : Int)]
  r : ∃ vr, Blk W gr 100 #[vr] ∧ W.ownsRow w0.heap.size 25 1 vr (refsOf pre).length ((refsOf pre).map fun r => Value.int .i64 r) ∧ (∀ i, M i ↔ ((i = gn ∨ i = gd ∨ i = gr) ∨ vr.ownBlock = some i))

theorem WkI.stay {w0 : World} {gn gd gr : Nat} {pre : List (List Int × V)} {M : Nat → Prop} {W W' : World} {S : Nat → Prop} (hn : gn < w0.heap.size) (hd : gd < w0.heap.size) (hr : gr < w0.heap.size) (h : WkI w0 gn gd gr pre M W) (f : Fr S W W') (hs : ∀ i, i < W.heap.size → S i → w0.heap.size ≤ i ∧ ¬ M i) : WkI w0 gn gd gr pre M W' := by
  have hsz := h.fr.size
  obtain ⟨vr, hb, ho, hM⟩ := h.r
  have hne : ∀ g, g < w0.heap.size → ¬ S g := fun g hg hS => by have := (hs g (by omega) hS).1; omega
  exact ⟨h.fr.trans' f fun i hi hS => by have := (hs i (by omega) hS).1; omega, h.n.fr f (hne _ hn), h.d.fr f (hne _ hd), vr, hb.fr f (hne _ hr), owns_fr ho f (fun g hg hS => (hs g (owns_lt ho g hg).2 hS).2 ((hM g).2 (.inr hg))), hM⟩

theorem WkI.lt {w0 : World} {gn gd gr : Nat} {pre : List (List Int × V)} {M : Nat → Prop} {W : World} (hn : gn < w0.heap.size) (hd : gd < w0.heap.size) (hr : gr < w0.heap.size) (h : WkI w0 gn gd gr pre M W) : ∀ i, M i → i < W.heap.size := by
  have hsz := h.fr.size
  obtain ⟨vr, hb, ho, hM⟩ := h.r
  intro i hi
  rcases (hM i).1 hi with (rfl | rfl | rfl) | h'
  · omega
  · omega
  · omega
  · exact (owns_lt ho i h').2

/-- A part more is counted. -/
theorem WkI.count {w6 : World} {gn gd gr : Nat} {pre : List (List Int × V)} {M : Nat → Prop} {W : World} {x : List Int × V} (h : WkI w6 gn gd gr pre M W) (hnd : gn ≠ gd) (hnr : gn ≠ gr) (hdr : gd ≠ gr) (hx : refsOf (pre ++ [x]) = refsOf pre) (hnM : ∀ vr, Blk W gr 100 #[vr] → W.ownsRow w6.heap.size 25 1 vr (refsOf pre).length ((refsOf pre).map fun r => Value.int .i64 r) → vr.ownBlock ≠ some gn ∧ vr.ownBlock ≠ some gd) :
    WkI w6 gn gd gr (pre ++ [x]) M ((W.setCell ⟨gd, 0, none⟩ (.int .i64 (deepOf (pre ++ [x]) : Int))).setCell ⟨gn, 0, none⟩ (.int .i64 ((pre ++ [x]).length : Int))) ∧ Fr M W ((W.setCell ⟨gd, 0, none⟩ (.int .i64 (deepOf (pre ++ [x]) : Int))).setCell ⟨gn, 0, none⟩ (.int .i64 ((pre ++ [x]).length : Int))) := by
  obtain ⟨vr, hb, ho, hM⟩ := h.r
  obtain ⟨h1, h2⟩ := hnM vr hb ho
  have f : Fr (fun i => i = gn ∨ i = gd) W ((W.setCell ⟨gd, 0, none⟩ (.int .i64 (deepOf (pre ++ [x]) : Int))).setCell ⟨gn, 0, none⟩ (.int .i64 ((pre ++ [x]).length : Int))) :=
    ((Fr.refl _ W).set (fun _ => .inr rfl) _).set (fun _ => .inl rfl) _
  refine ⟨⟨h.fr.trans' f fun i _ hi => by rcases hi with h | h <;> simp [h], ?_, ?_, vr, hb.fr f (fun hi => by rcases hi with h | h; exact hnr h.symm; exact hdr h.symm), ?_, hM⟩, f.mono fun i _ hi => (hM i).2 (.inl (by rcases hi with h | h <;> simp [h]))⟩
  · have := ((h.n.far (p := ⟨gd, 0, none⟩) hnd (.int .i64 (deepOf (pre ++ [x]) : Int)))).set_ 0 (.int .i64 ((pre ++ [x]).length : Int))
    simpa using this
  · have := ((h.d.set_ 0 (.int .i64 (deepOf (pre ++ [x]) : Int)))).far (p := ⟨gn, 0, none⟩) (Ne.symm hnd) (.int .i64 ((pre ++ [x]).length : Int))
    simpa using this
  · rw [hx]
    exact owns_fr ho f (fun g hg hi => by rcases hi with h | h; exact h1 (h ▸ hg); exact h2 (h ▸ hg))

theorem owns_ne {w6 W : World} {vr : Value} {n : Nat} {xs : List Value} (ho : W.ownsRow w6.heap.size 25 1 vr n xs) {g : Nat} (hg : g < w6.heap.size) : vr.ownBlock ≠ some g := fun h => by
  have := (owns_lt ho g h).1
  omega

/-- A reference more is gathered. -/
theorem WkI.push {w6 : World} {gn gd gr : Nat} {pre : List (List Int × V)} {M : Nat → Prop} {W W7 : World} {vr : Value} {r5 : Int} {g cap : Nat} {L : List Int} (h : WkI w6 gn gd gr pre M W) (hb : Blk W gr 100 #[vr]) (ho : W.ownsRow w6.heap.size 25 1 vr (refsOf pre).length ((refsOf pre).map fun r => Value.int .i64 r)) (hM : ∀ i, M i ↔ ((i = gn ∨ i = gd ∨ i = gr) ∨ vr.ownBlock = some i))
    (hn : gn < w6.heap.size) (hd : gd < w6.heap.size) (hr : gr < w6.heap.size) (hnr : gn ≠ gr) (hdr : gd ≠ gr) (hL : L = refsOf pre ++ [r5])
    (hown : W7.ownsRow w6.heap.size 25 1 (.slice (some ⟨g, 0, none⟩) ((refsOf pre).length + 1) cap) ((refsOf pre).length + 1) (((refsOf pre).map fun r => Value.int .i64 r) ++ [.int .i64 r5])) (hgrow : (W.alloc (.cells #[.int .i64 r5] 25)).grownBy W7 vr.ownBlock) (hat : vr.ownBlock = some g ∨ g = W.heap.size + 1) :
    ∃ M' : Nat → Prop, Fr M W (W7.setCell ⟨gr, 0, none⟩ (.slice (some ⟨g, 0, none⟩) ((refsOf pre).length + 1) cap)) ∧ (∀ i, M' i → i < W.heap.size → M i) ∧ Blk (W7.setCell ⟨gr, 0, none⟩ (.slice (some ⟨g, 0, none⟩) ((refsOf pre).length + 1) cap)) gr 100 #[.slice (some ⟨g, 0, none⟩) ((refsOf pre).length + 1) cap] ∧
      (W7.setCell ⟨gr, 0, none⟩ (.slice (some ⟨g, 0, none⟩) ((refsOf pre).length + 1) cap)).ownsRow w6.heap.size 25 1 (.slice (some ⟨g, 0, none⟩) ((refsOf pre).length + 1) cap) L.length (L.map fun r => Value.int .i64 r) ∧
      (∀ i, M' i ↔ ((i = gn ∨ i = gd ∨ i = gr) ∨ (Value.slice (some ⟨g, 0, none⟩) ((refsOf pre).length + 1) cap).ownBlock = some i)) ∧
      Blk (W7.setCell ⟨gr, 0, none⟩ (.slice (some ⟨g, 0, none⟩) ((refsOf pre).length + 1) cap)) gn 3 #[.int .i64 (pre.length : Int)] ∧ Blk (W7.setCell ⟨gr, 0, none⟩ (.slice (some ⟨g, 0, none⟩) ((refsOf pre).length + 1) cap)) gd 3 #[.int .i64 (deepOf pre : Int)] := by
  have f1 : Fr (fun i => some i = vr.ownBlock) W W7 := (((Fr.refl No W).alloc (.cells #[.int .i64 r5] 25)).no).trans' (fr_grown hgrow) (fun i _ h => h)
  have hlt := owns_lt hown g rfl
  have hs := h.fr.size
  have hnotS : ∀ q, q < w6.heap.size → ¬ some q = vr.ownBlock := fun q hq e => owns_ne ho hq e.symm
  have f2 : Fr (fun i => some i = vr.ownBlock ∨ i = gr) W (W7.setCell ⟨gr, 0, none⟩ (.slice (some ⟨g, 0, none⟩) ((refsOf pre).length + 1) cap)) := (f1.mono fun i _ h => .inl h).set (fun _ => .inr rfl) _
  refine ⟨fun i => (i = gn ∨ i = gd ∨ i = gr) ∨ i = g, f2.mono fun i _ hi => (hM i).2 (by rcases hi with h | h; exact .inr h.symm; exact .inl (.inr (.inr h))), fun i hi hlt' => (hM i).2 ?_, ?_, ?_, fun i => by simp [Value.ownBlock, eq_comm], ?_, ?_⟩
  · rcases hi with hi | hi
    · exact .inl hi
    · rcases hat with h | h
      · exact .inr (by rw [h, hi])
      · omega
  · have := (hb.fr f1 (hnotS _ hr)).set_ 0 (.slice (some ⟨g, 0, none⟩) ((refsOf pre).length + 1) cap)
    simpa using this
  · subst hL
    have := owns_fr hown ((Fr.refl (fun i => i = gr) W7).set (p := ⟨gr, 0, none⟩) (fun _ => rfl) (.slice (some ⟨g, 0, none⟩) ((refsOf pre).length + 1) cap)) (fun q hq e => by
      simp [Value.ownBlock] at hq
      have e' : q = gr := e
      omega)
    simpa using this
  · exact (h.n.fr f1 (hnotS _ hn)).far (p := ⟨gr, 0, none⟩) hnr _
  · exact (h.d.fr f1 (hnotS _ hd)).far (p := ⟨gr, 0, none⟩) hdr _

/-- What a round reads. -/
structure WB (w w6 : World) (tv : T) (gn : Nat) (pre : List (List Int × V)) (M : Nat → Prop) (x : List Int × V) (base : Nat) (A' : Option Addr) (c' : Nat) (t5 : T) (bn : Nat) (cs : Array Value) (W : World) : Prop where
  bv : Blk W w.heap.size 27 tv.cells.toArray
  iv : tv.In W 0 w.heap.size
  bx : Blk W bn 79 cs
  ok : OkV x W base A' c' t5
  i : WkI w6 gn (gn + 1) (gn + 1 + 1) pre M W
  hn : gn < w6.heap.size
  hd : gn + 1 < w6.heap.size
  hr : gn + 1 + 1 < w6.heap.size
  hw : w.heap.size ≤ W.heap.size

theorem WB.no {w w6 : World} {tv : T} {gn : Nat} {pre : List (List Int × V)} {M : Nat → Prop} {x : List Int × V} {base : Nat} {A' : Option Addr} {c' : Nat} {t5 : T} {bn : Nat} {cs : Array Value} {W W' : World} (h : WB w w6 tv gn pre M x base A' c' t5 bn cs W) (f : Fr No W W') : WB w w6 tv gn pre M x base A' c' t5 bn cs W' :=
  ⟨h.bv.fr f fun h => h, h.iv.no f h.hw, h.bx.fr f fun h => h, h.ok.fr f (fun _ _ h => h), h.i.stay h.hn h.hd h.hr f (fun _ _ h => h.elim), h.hn, h.hd, h.hr, Nat.le_trans h.hw f.size⟩

theorem WB.cells {w w6 : World} {k n : Int} {s : ByteArray} {A : Option Addr} {cap : Nat} {l : List T} {r : Int} {gn : Nat} {pre : List (List Int × V)} {M : Nat → Prop} {x : List Int × V} {base : Nat} {A' : Option Addr} {c' : Nat} {t5 : T} {bn : Nat} {y0 y1 y2 y3 y4 y5 : Value} {W : World} (h : WB w w6 (.mk k n s A cap l r) gn pre M x base A' c' t5 bn #[y0, y1, y2, y3, y4, y5] W) :
    (W.cell? ⟨w.heap.size, 0, none⟩ = some (.int .u8 k) ∧ W.cell? ⟨w.heap.size, 1, none⟩ = some (.int .i64 n) ∧ W.cell? ⟨w.heap.size, 2, none⟩ = some (.string s) ∧ W.cell? ⟨w.heap.size, 3, none⟩ = some (.slice A l.length cap) ∧ W.cell? ⟨w.heap.size, 4, none⟩ = some (.int .i64 r)) ∧
      (W.cell? ⟨bn, 0, none⟩ = some y0 ∧ W.cell? ⟨bn, 1, none⟩ = some y1 ∧ W.cell? ⟨bn, 2, none⟩ = some y2 ∧ W.cell? ⟨bn, 3, none⟩ = some y3 ∧ W.cell? ⟨bn, 4, none⟩ = some y4 ∧ W.cell? ⟨bn, 5, none⟩ = some y5) ∧ w.heap.size < W.heap.size ∧ bn < W.heap.size :=
  ⟨blk5 h.bv, ⟨h.bx.cell 0, h.bx.cell 1, h.bx.cell 2, h.bx.cell 3, h.bx.cell 4, h.bx.cell 5⟩, h.bv.lt, h.bx.lt⟩

/-- What is known behind an append to the gathered references. -/
theorem wk_after {w w6 : World} {tv : T} {gn : Nat} {pre : List (List Int × V)} {M : Nat → Prop} {x : List Int × V} {base : Nat} {A' : Option Addr} {c' : Nat} {t5 : T} {bn : Nat} {y0 y1 y2 y3 y4 y5 : Value} {W W7 : World} {vr : Value} {o : Obj} (h : WB w w6 tv gn pre M x base A' c' t5 bn #[y0, y1, y2, y3, y4, y5] W) (hb : Blk W (gn + 1 + 1) 100 #[vr]) {n : Nat} {xs : List Value} (ho : W.ownsRow w6.heap.size 25 1 vr n xs)
    (_hM : ∀ i, M i ↔ ((i = gn ∨ i = gn + 1 ∨ i = gn + 1 + 1) ∨ vr.ownBlock = some i)) (hlt : ∀ q, vr.ownBlock = some q → q < bn) (hgrow : (W.alloc o).grownBy W7 vr.ownBlock) :
    (W7.cell? ⟨bn, 0, none⟩ = some y0 ∧ W7.cell? ⟨bn, 1, none⟩ = some y1) ∧ W7.cell? ⟨gn + 1 + 1, 0, none⟩ = some vr ∧ (∀ i, W7.frozen? ⟨gn + 1 + 1, i, none⟩ = false) ∧ W7.cell? ⟨gn + 1, 0, none⟩ = some (.int .i64 (deepOf pre : Int)) ∧ (∀ i, W7.frozen? ⟨gn + 1, i, none⟩ = false) ∧
      W7.cell? ⟨gn, 0, none⟩ = some (.int .i64 (pre.length : Int)) ∧ (∀ i, W7.frozen? ⟨gn, i, none⟩ = false) ∧ gn + 1 + 1 < W7.heap.size ∧ gn + 1 < W7.heap.size ∧ gn < W7.heap.size ∧ bn < W7.heap.size := by
  have f1 : Fr (fun i => some i = vr.ownBlock) W W7 := (((Fr.refl No W).alloc o).no).trans' (fr_grown hgrow) (fun i _ h => h)
  have hne : ∀ q, q < w6.heap.size → ¬ some q = vr.ownBlock := fun q hq e => owns_ne ho hq e.symm
  have b1 := h.bx.fr f1 (fun e => by have := hlt bn e.symm; omega)
  have b2 := hb.fr f1 (hne _ h.hr)
  have b3 := h.i.d.fr f1 (hne _ h.hd)
  have b4 := h.i.n.fr f1 (hne _ h.hn)
  exact ⟨⟨b1.cell 0, b1.cell 1⟩, b2.cell 0, b2.frozen, b3.cell 0, b3.frozen, b4.cell 0, b4.frozen, b2.lt, b3.lt, b4.lt, b1.lt⟩

theorem rk_of {lp : Nat} {M B : Nat → Prop} {W1 W2 Wx Wf : World} (h12 : Fr (fun i => i = lp) W1 W2) (hx : Fr No W2 Wx) (hf : Fr M Wx Wf) (hl : lp < W1.heap.size) (hM : ¬ M lp) : RK lp M B W1 W2 Wf := by
  have h1 := h12.size
  have h2 := hx.size
  refine ⟨(hf.block lp (by omega) hM).trans (hx.block lp (by omega) (fun h => h)), ((h12.mono (S' := fun i => M i ∨ B i ∨ i = lp) fun i _ h => .inr (.inr h)).thenNo hx).trans' hf fun i _ h => .inl h⟩

theorem wk_fin0 {w w6 : World} {tv : T} {gn : Nat} {pre : List (List Int × V)} {M B : Nat → Prop} {x : List Int × V} {base : Nat} {A' : Option Addr} {c' : Nat} {t5 : T} {bn lp : Nat} {cs : Array Value} {W1 W2 Wx : World} (h : WB w w6 tv gn pre M x base A' c' t5 bn cs Wx) (h12 : Fr (fun i => i = lp) W1 W2) (hx : Fr No W2 Wx) (hl : lp < W1.heap.size) (hMl : ¬ M lp)
    (hr : refsOf (pre ++ [x]) = refsOf pre) {dv : Nat} (hd : deepOf (pre ++ [x]) = dv) :
    RK lp M B W1 W2 ((Wx.setCell ⟨gn + 1, 0, none⟩ (.int .i64 (dv : Int))).setCell ⟨gn, 0, none⟩ (.int .i64 ((pre.length : Int) + 1))) ∧ ∃ M' : Nat → Prop, (∀ i, M' i → i < W1.heap.size → M i) ∧ WkI w6 gn (gn + 1) (gn + 1 + 1) (pre ++ [x]) M' ((Wx.setCell ⟨gn + 1, 0, none⟩ (.int .i64 (dv : Int))).setCell ⟨gn, 0, none⟩ (.int .i64 ((pre.length : Int) + 1))) := by
  obtain ⟨c1, c2⟩ := h.i.count (x := x) (by omega) (by omega) (by omega) hr (fun vr hb ho => ⟨owns_ne ho h.hn, owns_ne ho h.hd⟩)
  have e : (((pre ++ [x]).length : Nat) : Int) = (pre.length : Int) + 1 := by simp
  rw [hd, e] at c1 c2
  exact ⟨rk_of h12 hx c2 hl hMl, M, fun _ h _ => h, c1⟩

theorem wk_fin1 {w w6 : World} {tv : T} {gn : Nat} {pre : List (List Int × V)} {M B : Nat → Prop} {x : List Int × V} {base : Nat} {A' : Option Addr} {c' : Nat} {t5 : T} {bn lp : Nat} {cs : Array Value} {W1 W2 Wx w7 : World} {vr : Value} {r5 : Int} {g cp : Nat} (h : WB w w6 tv gn pre M x base A' c' t5 bn cs Wx) (h12 : Fr (fun i => i = lp) W1 W2) (hx : Fr No W2 Wx) (hl : lp < W1.heap.size) (hMl : ¬ M lp)
    (hb : Blk Wx (gn + 1 + 1) 100 #[vr]) (ho : Wx.ownsRow w6.heap.size 25 1 vr (refsOf pre).length ((refsOf pre).map fun r => Value.int .i64 r)) (hM : ∀ i, M i ↔ ((i = gn ∨ i = gn + 1 ∨ i = gn + 1 + 1) ∨ vr.ownBlock = some i))
    (hown : w7.ownsRow w6.heap.size 25 1 (.slice (some ⟨g, 0, none⟩) ((refsOf pre).length + 1) cp) ((refsOf pre).length + 1) (((refsOf pre).map fun r => Value.int .i64 r) ++ [.int .i64 r5])) (hgrow : (Wx.alloc (.cells #[.int .i64 r5] 25)).grownBy w7 vr.ownBlock) (hat : vr.ownBlock = some g ∨ g = Wx.heap.size + 1)
    (hr : refsOf (pre ++ [x]) = refsOf pre ++ [r5]) {dv : Nat} (hd : deepOf (pre ++ [x]) = dv) :
    RK lp M B W1 W2 (((w7.setCell ⟨gn + 1 + 1, 0, none⟩ (.slice (some ⟨g, 0, none⟩) ((refsOf pre).length + 1) cp)).setCell ⟨gn + 1, 0, none⟩ (.int .i64 (dv : Int))).setCell ⟨gn, 0, none⟩ (.int .i64 ((pre.length : Int) + 1))) ∧
      ∃ M' : Nat → Prop, (∀ i, M' i → i < W1.heap.size → M i) ∧ WkI w6 gn (gn + 1) (gn + 1 + 1) (pre ++ [x]) M' (((w7.setCell ⟨gn + 1 + 1, 0, none⟩ (.slice (some ⟨g, 0, none⟩) ((refsOf pre).length + 1) cp)).setCell ⟨gn + 1, 0, none⟩ (.int .i64 (dv : Int))).setCell ⟨gn, 0, none⟩ (.int .i64 ((pre.length : Int) + 1))) := by
  obtain ⟨M', f1, hsub, b1, o1, hM', b2, b3⟩ := WkI.push h.i hb ho hM h.hn h.hd h.hr (by omega) (by omega) hr hown hgrow hat
  generalize w7.setCell ⟨gn + 1 + 1, 0, none⟩ (.slice (some ⟨g, 0, none⟩) ((refsOf pre).length + 1) cp) = Wg at *
  have hn := h.hn
  have hdd := h.hd
  have h12s := h12.size
  have hxs := hx.size
  have hlt := owns_lt hown g rfl
  have f2 : Fr (fun i => i = gn ∨ i = gn + 1) Wg ((Wg.setCell ⟨gn + 1, 0, none⟩ (.int .i64 (dv : Int))).setCell ⟨gn, 0, none⟩ (.int .i64 ((pre.length : Int) + 1))) :=
    ((Fr.refl _ Wg).set (fun _ => .inr rfl) _).set (fun _ => .inl rfl) _
  have f3 : Fr M Wx ((Wg.setCell ⟨gn + 1, 0, none⟩ (.int .i64 (dv : Int))).setCell ⟨gn, 0, none⟩ (.int .i64 ((pre.length : Int) + 1))) := f1.trans' f2 fun i _ hi => (hM i).2 (.inl (by rcases hi with h | h <;> simp [h]))
  refine ⟨rk_of h12 hx f3 hl hMl, M', fun i h1 h2 => hsub i h1 (by omega), ⟨h.i.fr.trans' f3 fun i hi hMi => ?_, ?_, ?_, _, b1.fr f2 (fun e => by omega), owns_fr o1 f2 (fun q hq e => ?_), hM'⟩⟩
  · rcases (hM i).1 hMi with h' | h'
    · exact h'
    · exact absurd h' (owns_ne ho hi)
  · have := (b2.far (p := ⟨gn + 1, 0, none⟩) (by simp) (.int .i64 (dv : Int))).set_ 0 (.int .i64 ((pre.length : Int) + 1))
    simpa using this
  · have := (b3.set_ 0 (.int .i64 (dv : Int))).far (p := ⟨gn, 0, none⟩) (by simp) (.int .i64 ((pre.length : Int) + 1))
    rw [hd]
    simpa using this
  · simp [Value.ownBlock] at hq
    omega

/-- What a round's loop variable lies in. -/
def WkA (a0 : Act) (x : List Int × V) (args : Array Value) (W1 : World) (a' : Act) (Wa : World) : Prop :=
  ∃ cs, args = #[.agg cs] ∧ a' = ({ a0 with defers := [] }.put (some 25) (.agg cs)).put (some 6) (.pointer (some ⟨W1.heap.size, 0, none⟩)) ∧ Blk Wa W1.heap.size 79 cs

/-- What Each's walk tells. -/
def stepsOf (v : V) : List (List Int × V) := if v.may = true then v.walk [] else []

theorem func103_eql (w : World) : (binOp .eql 73 (.func (.func 103) #[] #[]) .nilFunc).run Try.prog w = .ok (.bool false) w := by kernel_rfl
theorem func105_eql (w : World) (g : Nat) : (binOp .eql 73 (.func (.func 105) #[] #[.pointer (some ⟨g, 0, none⟩)]) .nilFunc).run Try.prog w = .ok (.bool false) w := by kernel_rfl

/-- The function that Each gives. -/
structure EachF (v : V) (w : World) (gf : Nat) (lb : Array Value) (Av : Nat → Prop) (w' : World) : Prop where
  enters : ∀ args w, (callFunc gf args).run Try.prog w = .ok (.enter gf args) w
  eql : ∀ w, (binOp .eql 73 (.func (.func gf) #[] lb) .nilFunc).run Try.prog w = .ok (.bool false) w
  iter : Iter Try.prog gf lb OkP (stepsOf v) Av w'
  av : ∀ i, Av i → w.heap.size ≤ i
  fr : Fr No w w'

theorem EachP.fn {v : V} {w : World} {e : Ending} {w' : World} (h : EachP v w e w') : ∃ gf lb Av, e = .returned (.func (.func gf) #[] lb) ∧ EachF v w gf lb Av w' := by
  cases hm : v.may with
  | false => exact ⟨103, #[], fun _ => False, h.no hm, enters_fn2 Try.func103 (by kernel_rfl) rfl, func103_eql, by unfold stepsOf; rw [hm]; exact iter103 _ _ _, fun _ h => h.elim, h.fr⟩
  | true =>
    obtain ⟨k, n, s, A, cap, l, r, he, hv, hb, hin⟩ := h.yes hm
    refine ⟨105, _, fun i => w.heap.size + 1 ≤ i ∧ i < w'.heap.size, he, enters_fn2 Try.func105 (by kernel_rfl) rfl, fun w => func105_eql w _, ?_, fun i h => by omega, h.fr⟩
    unfold stepsOf
    rw [if_pos hm, ← hv]
    refine iter105 (T.mk k n s A cap l r) w.heap.size (w.heap.size + 1) w'.heap.size w' hb hin (Nat.le_refl _) ?_
    rw [hv]
    have := ht_le_dep v (may_ok hm)
    simp [V.may, V.fits] at hm
    omega

theorem each_any (t : T) (w : World) (lo hi : Nat) (ht : t.In w lo hi) (hh : hi ≤ w.heap.size) : Calls Try.prog 41 #[t.val] w fun e w' => ∃ gf lb Av, e = .returned (.func (.func gf) #[] lb) ∧ EachF t.v w gf lb Av w' := by
  cases hm : t.v.may with
  | false => exact (Each_no t w lo hi ht hh hm).mono fun e w' h => h.fn
  | true => exact (Each_yes t w lo hi ht hh hm).mono fun e w' h => h.fn

set_option maxRecDepth 100000 in
set_option maxHeartbeats 16000000 in
theorem valueWalks_any (t : T) (w : World) (ht : t.In w 0 w.heap.size) : Calls Try.prog 14 #[t.val] w fun e w' => e = .returned (.bool true) ∧ Fr No w w' := by
  have hsm := fun w' (f : Fr No w w') => small_any t 1200 40 w' 0 w.heap.size (ht.no f (Nat.le_refl _)) f.size (by omega) (by omega) (by omega) (by omega)
  have hea := fun w' (f : Fr No w w') => each_any t w' 0 w.heap.size (ht.no f (Nat.le_refl _)) f.size
  obtain ⟨v, hv⟩ : ∃ v, t.v = v := ⟨_, rfl⟩
  rw [hv] at hsm hea
  obtain ⟨k, n, s, A, cap, l, r⟩ := t
  rw [T.val_mk] at *
  have fr1 := ((Fr.refl No w).alloc (.cells #[.int .u8 k, .int .i64 n, .string s, .slice A l.length cap, .int .i64 r] 27)).alloc (.cells #[.bool false] 4)
  have bv1 : Blk ((w.alloc (.cells #[.int .u8 k, .int .i64 n, .string s, .slice A l.length cap, .int .i64 r] 27)).alloc (.cells #[.bool false] 4)) w.heap.size 27 #[.int .u8 k, .int .i64 n, .string s, .slice A l.length cap, .int .i64 r] := (Blk.new' w 27 _ rfl).alloc _
  have br1 : Blk ((w.alloc (.cells #[.int .u8 k, .int .i64 n, .string s, .slice A l.length cap, .int .i64 r] 27)).alloc (.cells #[.bool false] 4)) (w.heap.size + 1) 4 #[.bool false] := Blk.new' (w.alloc _) 4 _ (by simp)
  have HV := hide hv
  have HT := hide ht
  have HSM := hide hsm
  have HEA := hide hea
  have HF1 := hide fr1
  have HB1 := hide bv1
  have HR1 := hide br1
  clear hv ht hsm hea fr1 bv1 br1
  by_cases hfit : ¬ ((v.size : Int) ≤ 1200 ∧ (v.ht : Int) ≤ 40)
  · have HZ := hide (smallOf_no hfit)
    clear hfit
    go_enter Try.func14, Try.ntmps14
    go_wp2_with fail
    generalize World.alloc (World.alloc w _) _ = w1 at *
    refine (awake_any _).mono ?_
    rintro e w2 ⟨rfl, f2⟩
    have F2 := hide (HF1.out.trans f2)
    have B2 := hide (HB1.out.fr f2 fun h => h)
    have R2 := hide (HR1.out.fr f2 fun h => h)
    clear f2
    obtain ⟨c0, c1, c2, c3, c4, -⟩ := Blk.cells5 B2.out
    have q0 := B2.out.lt
    go_wp2_with fail
    have hc := HSM.out w2 F2.out
    rw [HZ.out] at hc
    refine hc.mono ?_
    rintro e w3 ⟨rfl, f3⟩
    have F3 := hide (F2.out.trans f3)
    have R3 := hide (R2.out.fr f3 fun h => h)
    clear f3 hc c0 c1 c2 c3 c4 q0
    go_wp2_with fail
    refine (awake_any _).mono ?_
    rintro e w4 ⟨rfl, f4⟩
    have F4 := hide (F3.out.trans f4)
    have hR4 := R3.out.fr f4 fun h => h
    have d0 := hR4.cell 0
    simp only [List.getElem?_toArray, List.getElem?_cons_zero] at d0
    have df := hR4.frozen 0
    have q1 := hR4.lt
    clear f4 hR4
    go_wp2_with fail
    refine bodyPost_ret (v := .bool true) (by simp [results, Try.results14, go_sem, *]) rfl ?_
    exact ⟨rfl, F4.out.setNew (by simp) _⟩
  have HZ1 := hide (smallOf_yes (Classical.byContradiction hfit))
  have hn1 : decide ((v.size : Int) < 0) = false := by simp
  clear hfit
  refine (callsIn_wide (n := 5)).1 ?_
  refine callsIn_of_wp_marks Try.func14 rfl trivial ?_
  simp only [Try.ntmps14, List.size_toArray, List.length_cons, List.length_nil, Nat.reduceAdd, Nat.reduceSub, Array.replicate_succ, Array.replicate_zero, List.push_toArray, List.append_toArray, List.nil_append, List.cons_append]
  refine wpIn_wide.2 ?_
  go_wp2_with fail
  generalize World.alloc (World.alloc w _) _ = w1 at *
  refine (awake_any _).mono ?_
  rintro e w2 ⟨rfl, f2⟩
  have F2 := hide (HF1.out.trans f2)
  have B2 := hide (HB1.out.fr f2 fun h => h)
  have R2 := hide (HR1.out.fr f2 fun h => h)
  clear f2
  obtain ⟨c0, c1, c2, c3, c4, -⟩ := Blk.cells5 B2.out
  have q0 := B2.out.lt
  go_wp2_with fail
  have hc := HSM.out w2 F2.out
  rw [HZ1.out] at hc
  refine hc.mono ?_
  rintro e w3 ⟨rfl, f3⟩
  have F3 := hide (F2.out.trans f3)
  have B3 := hide (B2.out.fr f3 fun h => h)
  have R3 := hide (R2.out.fr f3 fun h => h)
  have n4 := (((Blk.new w3 3 #[.int .i64 0]).alloc (.cells #[.int .i64 0] 3)).alloc (.cells #[.slice none 0 0] 100))
  have d4 := (Blk.new' (w3.alloc (.cells #[.int .i64 0] 3)) 3 #[.int .i64 0] (g := w3.heap.size + 1) (by simp)).alloc (.cells #[.slice none 0 0] 100)
  have r4 := Blk.new' ((w3.alloc (.cells #[.int .i64 0] 3)).alloc (.cells #[.int .i64 0] 3)) 100 #[.slice none 0 0] (g := w3.heap.size + 1 + 1) (by simp)
  have f4 := (((Fr.refl No w3).alloc (.cells #[.int .i64 0] 3)).alloc (.cells #[.int .i64 0] 3)).alloc (.cells #[.slice none 0 0] 100)
  clear f3 hc c0 c1 c2 c3 c4 q0
  have B4 := hide (B3.out.fr f4 fun h => h)
  have R4 := hide (R3.out.fr f4 fun h => h)
  have F4 := hide (F3.out.trans f4)
  have N4 := hide n4
  have D4 := hide d4
  have S4 := hide r4
  have hs4 : w3.heap.size + 3 ≤ (((w3.alloc (.cells #[.int .i64 0] 3)).alloc (.cells #[.int .i64 0] 3)).alloc (.cells #[.slice none 0 0] 100)).heap.size := by simp
  clear n4 d4 r4 f4
  obtain ⟨c0, c1, c2, c3, c4, -⟩ := Blk.cells5 B3.out
  have q0 := B3.out.lt
  have q1 : w.heap.size < w3.heap.size + 1 := by omega
  have q2 : w.heap.size < w3.heap.size + 1 + 1 := by omega
  have q3 : w.heap.size ≤ w3.heap.size := by omega
  have q4 : w.heap.size ≤ w3.heap.size + 1 := by omega
  generalize v.size = qv at *
  go_wp2_with fail
  generalize World.alloc (World.alloc (World.alloc w3 _) _) _ = w4 at *
  clear c0 c1 c2 c3 c4 q0 q1 q2 q3 q4
  refine (HEA.out w4 F4.out).mono ?_
  rintro e w5 ⟨gf0, lb0, Av0, rfl, E0⟩
  have hq0 := E0.eql
  have F5 := hide (F4.out.trans E0.fr)
  have B5 := hide (B4.out.fr E0.fr fun h => h)
  have R5 := hide (R4.out.fr E0.fr fun h => h)
  have N5 := hide (N4.out.fr E0.fr fun h => h)
  have D5 := hide (D4.out.fr E0.fr fun h => h)
  have S5 := hide (S4.out.fr E0.fr fun h => h)
  have hs5 := E0.fr.size
  clear E0
  obtain ⟨c0, c1, c2, c3, c4, -⟩ := Blk.cells5 B5.out
  have q0 := B5.out.lt
  go_wp2_with fail
  clear c0 c1 c2 c3 c4 q0 hq0
  refine (HEA.out w5 F5.out).mono ?_
  rintro e w6 ⟨gf, lb, Av, rfl, E⟩
  have F6 := hide (F5.out.trans E.fr)
  have B6 := hide (B5.out.fr E.fr fun h => h)
  have R6 := hide (R5.out.fr E.fr fun h => h)
  have N6 := hide (N5.out.fr E.fr fun h => h)
  have D6 := hide (D5.out.fr E.fr fun h => h)
  have S6 := hide (S5.out.fr E.fr fun h => h)
  have hs6 := E.fr.size
  have HE := hide E
  clear E
  go_wp2_with fail
  have hgn : w3.heap.size + 3 ≤ w4.heap.size := hs4
  have hgw : w.heap.size + 1 < w3.heap.size := R3.out.lt
  generalize w3.heap.size = gn at *
  have hn6 : gn < w6.heap.size := by omega
  have hd6 : gn + 1 < w6.heap.size := by omega
  have hr6 : gn + 1 + 1 < w6.heap.size := by omega
  generalize ha0 : ({ tmps := _, defers := _ } : Act) = a0
  refine wp_rangeFunc_seq (gf := gf) (lb := lb) (by rw [← ha0]; rfl) HE.out.enters (fun x args B W h => by obtain ⟨A, c, t, base, rfl, -⟩ := h; rfl) HE.out.iter (WkI w6 gn (gn + 1) (gn + 1 + 1)) (fun _ _ _ _ => False)
    (fun pre M W W' S h f hs => h.stay hn6 hd6 hr6 f hs) (fun _ _ _ _ _ _ h _ _ => h) (fun pre M W h => h.lt hn6 hd6 hr6) (fun i => i = gn ∨ i = gn + 1 ∨ i = gn + 1 + 1) ?h0 ?hM0 (WkA a0) ?assign ?body ?done (fun _ _ _ _ _ _ h _ _ _ _ => h.elim)
  case h0 => exact ⟨Fr.refl _ _, N6.out, D6.out, .slice none 0 0, S6.out, World.ownsRow_nil _ _ _ _, fun i => by simp [Value.ownBlock]⟩
  case hM0 =>
    intro i hi
    refine ⟨by omega, fun h => ?_⟩
    have := HE.out.av i h
    omega
  case assign =>
    rintro lp x args B W1 ⟨A', c', t', base, rfl, -, ok⟩ K hK
    obtain ⟨k5, n5, s5, A5, cap5, l5, r5⟩ := t'
    subst ha0
    rw [T.cells_mk]
    have HK := hide hK
    clear hK ok
    gi_wp2
    refine HK.out _ _ ((Fr.refl No W1).alloc _) ⟨_, rfl, rfl, ?_⟩
    exact Blk.new W1 79 _
  case body =>
    rintro lp pre ⟨pp, uu⟩ args B M W1 a' Wa W2 I hpre ⟨A', c', t', base, rfl, rfl, ok⟩ hB fa ⟨cs, hargs, rfl, hbx⟩ hl hMl hBl hwl f2
    have hints := ok.ints
    have htv := ok.v
    have hplen := ok.len
    obtain ⟨k5, n5, s5, A5, cap5, l5, r5⟩ := t'
    rw [T.cells_mk] at hargs
    have hcs : cs = #[.slice A' pp.length c', .int .u8 k5, .int .i64 n5, .string s5, .slice A5 l5.length cap5, .int .i64 r5] := by
      simp at hargs
      exact hargs.symm
    subst hcs
    subst ha0
    have hm : v.may = true := by
      cases hm : v.may with
      | true => rfl
      | false =>
        obtain ⟨z, hz⟩ := hpre
        unfold stepsOf at hz
        rw [hm] at hz
        simp at hz
    have hmem : (pp, uu) ∈ v.walk [] := by
      obtain ⟨z, hz⟩ := hpre
      unfold stepsOf at hz
      rw [if_pos hm] at hz
      rw [← hz]
      simp
    obtain ⟨hat, hwith, hum⟩ := at_part hm hmem
    have hnl : pre.length ≤ 600 := by
      have h1 := hpre.length_le
      unfold stepsOf at h1
      rw [if_pos hm, walk_length] at h1
      have h2 : v.size ≤ 512 := by simp [V.may, V.fits] at hm; omega
      simp at h1
      omega
    have hBlp : ∀ i, OkB (pp, uu) A' c' (T.mk k5 n5 s5 A5 cap5 l5 r5) i → ¬ i = lp := fun i hi e => hBl (e ▸ hi)
    have hI1 := I.fr
    have hs1 := hI1.size
    have hsa := fa.size
    have hs2 := f2.size
    have F6' := F6.out.size
    have hb0 : WB w w6 (T.mk k n s A cap l r) gn pre M (pp, uu) base A' c' (T.mk k5 n5 s5 A5 cap5 l5 r5) W1.heap.size #[.slice A' pp.length c', .int .u8 k5, .int .i64 n5, .string s5, .slice A5 l5.length cap5, .int .i64 r5] W2 :=
      ⟨((B6.out.fr hI1 (fun h => by omega)).fr fa fun h => h).fr f2 (fun h => by omega), ((((HT.out.no F6.out (Nat.le_refl _)).fr hI1 F6' (fun i _ hi h => by omega)).no fa (by omega)).fr f2 (by omega) (fun i _ hi h => by omega)), hbx.fr f2 (fun h => by omega), (ok.fr fa (fun _ _ h => h)).fr f2 hBlp,
        (I.stay hn6 hd6 hr6 fa (fun _ _ h => h.elim)).stay hn6 hd6 hr6 f2 (fun i _ h => by have h' : i = lp := h; subst h'; exact ⟨hwl, hMl⟩), hn6, hd6, hr6, by omega⟩
    have hAt := fun W' (f : Fr No W2 W') => At_any (T.mk k n s A cap l r) W' 0 w.heap.size (hb0.no f).iv (hb0.no f).hw A' c' pp base W'.heap.size (hb0.no f).ok.ints (Nat.le_refl _)
    have hWi := fun W' (f : Fr No W2 W') => With_any (T.mk k n s A cap l r) (T.mk k5 n5 s5 A5 cap5 l5 r5) W' 0 w.heap.size (hb0.no f).iv (hb0.no f).hw base W'.heap.size (hb0.no f).ok.sh.inn (Nat.le_refl _) A' c' pp base W'.heap.size (hb0.no f).ok.ints (Nat.le_refl _)
    rw [HV.out, hat] at hAt
    rw [HV.out, htv, hwith] at hWi
    rw [T.val_mk] at hAt
    rw [T.val_mk, T.val_mk] at hWi
    have HB0 := hide hb0
    have HAT := hide hAt
    have HWI := hide hWi
    have HMM := hide hm
    have HUM := hide hum
    have HTV := hide htv
    have HLP := hide hBlp
    have HI1 := hide I
    have HFA := hide fa
    have HF2 := hide f2
    have HML := hide hMl
    have HPL := hide hplen
    clear hb0 hAt hWi hm hum htv hBlp I fa f2 hMl hplen hat hwith hmem hpre hargs hbx ok hints hBl hI1
    simp only [Act.put, List.setIfInBounds_toArray, List.set_cons_zero, List.set_cons_succ]
    obtain ⟨⟨c0, c1, c2, c3, c4⟩, ⟨x0, x1, x2, x3, x4, x5⟩, q0, q1⟩ := HB0.out.cells
    gi_wp2_with fail
    refine ⟨trivial, (CallsIn.inRound lp (callsIn_wide.2 (HAT.out W2 (Fr.refl No W2)))).mono ?_⟩
    rintro e W3 ⟨⟨k7, n7, s7, A7, cap7, l7, r7⟩, rfl, hv7, how7, f3⟩
    rw [T.val_mk]
    have fa3 := f3.alloc (.cells #[.int .u8 k7, .int .i64 n7, .string s7, .slice A7 l7.length cap7, .int .i64 r7] 27)
    have b7 := Blk.new W3 27 #[.int .u8 k7, .int .i64 n7, .string s7, .slice A7 l7.length cap7, .int .i64 r7]
    have i7 := (T.In.more (Nat.zero_le _) (Nat.le_refl _) _ how7.inn).no ((Fr.refl No W3).alloc (.cells #[.int .u8 k7, .int .i64 n7, .string s7, .slice A7 l7.length cap7, .int .i64 r7] 27)) (Nat.le_refl _)
    have HV7 := hide hv7
    have HF3 := hide fa3
    have HB7 := hide b7
    have HI7 := hide i7
    have hs3 := f3.size
    have g7 : W3.heap.size < (W3.alloc (.cells #[.int .u8 k7, .int .i64 n7, .string s7, .slice A7 l7.length cap7, .int .i64 r7] 27)).heap.size := by simp
    have HFF := hide f3
    clear c0 c1 c2 c3 c4 x0 x1 x2 x3 x4 x5 q0 q1 f3 fa3 b7 i7 hv7 how7
    obtain ⟨⟨c0, c1, c2, c3, c4⟩, ⟨x0, x1, x2, x3, x4, x5⟩, q0, q1⟩ := (HB0.out.no HFF.out).cells
    gi_wp2_with fail
    clear c0 c1 c2 c3 c4 x0 x1 x2 x3 x4 x5 q0 q1 HFF
    generalize World.alloc W3 _ = Wb at *
    refine ⟨trivial, (CallsIn.inRound lp (callsIn_wide.2 (HWI.out Wb HF3.out))).mono ?_⟩
    rintro e W4 ⟨⟨k9, n9, s9, A9, cap9, l9, r9⟩, rfl, hv9, hsh9, f4⟩
    rw [T.val_mk]
    have fb := (Fr.refl No W4).alloc (.cells #[.int .u8 k9, .int .i64 n9, .string s9, .slice A9 l9.length cap9, .int .i64 r9] 27)
    have b9 := Blk.new W4 27 #[.int .u8 k9, .int .i64 n9, .string s9, .slice A9 l9.length cap9, .int .i64 r9]
    have i9 := (T.In.more (Nat.zero_le _) (Nat.le_refl _) _ hsh9.inn).no fb (Nat.le_refl _)
    have HV9 := hide hv9
    have HF4 := hide ((HF3.out.trans f4).trans fb)
    have HF4a := hide (HF3.out.trans f4)
    have hb7 := HB7.out.fr f4 fun h => h
    have HB7' := hide (hb7.fr fb fun h => h)
    have HB9 := hide b9
    have HI7' := hide (HI7.out.no (f4.trans fb) (Nat.le_of_lt g7))
    have HI9 := hide i9
    have hs4' := f4.size
    obtain ⟨y0, y1, y2, y3, y4⟩ := blk5 hb7
    have q2 := hb7.lt
    obtain ⟨⟨c0, c1, c2, c3, c4⟩, ⟨x0, x1, x2, x3, x4, x5⟩, q0, q1⟩ := (HB0.out.no HF4a.out).cells
    clear f4 fb b9 i9 hv9 hsh9 HB7 HI7 HWI HAT hb7
    gi_wp2_with fail
    have hsc : W4.heap.size < (W4.alloc (.cells #[.int .u8 k9, .int .i64 n9, .string s9, .slice A9 l9.length cap9, .int .i64 r9] 27)).heap.size := by simp
    clear c0 c1 c2 c3 c4 x0 x1 x2 x3 x4 x5 y0 y1 y2 y3 y4 q0 q1 q2 HF4a
    generalize World.alloc W4 _ = Wc at *
    have hS1 := vsame_any (T.mk k7 n7 s7 A7 cap7 l7 r7) (T.mk k5 n5 s5 A5 cap5 l5 r5) Wc 0 Wc.heap.size (T.In.more (Nat.le_refl _) (by omega) _ HI7'.out) (T.In.more (Nat.zero_le _) (Nat.le_refl _) _ (HB0.out.no HF4.out).ok.sh.inn) (Nat.le_refl _)
    rw [HV7.out, HTV.out, same2_self HUM.out, T.val_mk, T.val_mk] at hS1
    have HS1 := hide hS1
    clear hS1
    refine ⟨trivial, (CallsIn.inRound lp (callsIn_wide.2 HS1.out)).mono ?_⟩
    rintro e W5 ⟨rfl, f5⟩
    have HF5 := hide (HF4.out.trans f5)
    have hb9 := HB9.out.fr f5 fun h => h
    have HI9' := hide (HI9.out.no f5 (by omega))
    have hs5' := f5.size
    obtain ⟨y0, y1, y2, y3, y4⟩ := blk5 hb9
    have q2 := hb9.lt
    obtain ⟨⟨c0, c1, c2, c3, c4⟩, ⟨x0, x1, x2, x3, x4, x5⟩, q0, q1⟩ := (HB0.out.no HF5.out).cells
    have hS2 := vsame_any (T.mk k9 n9 s9 A9 cap9 l9 r9) (T.mk k n s A cap l r) W5 0 W5.heap.size (T.In.more (Nat.le_refl _) (by omega) _ HI9'.out) (T.In.more (Nat.le_refl _) (HB0.out.no HF5.out).hw _ (HB0.out.no HF5.out).iv) (Nat.le_refl _)
    rw [HV9.out, HV.out, same2_self HMM.out, T.val_mk, T.val_mk] at hS2
    have HS2 := hide hS2
    clear hS2 f5 hb9 HB9 HI9 HB7' HI7' HS1
    gi_wp2_with fail
    clear c0 c1 c2 c3 c4 x0 x1 x2 x3 x4 x5 y0 y1 y2 y3 y4 q0 q1 q2
    refine ⟨trivial, (CallsIn.inRound lp (callsIn_wide.2 HS2.out)).mono ?_⟩
    rintro e Wx ⟨rfl, fx⟩
    have HFX := hide (HF5.out.trans fx)
    have HBX := hide (HB0.out.no HFX.out)
    clear fx HS2
    obtain ⟨vr, hbr, hor, hMM2⟩ := HBX.out.i.r
    have hnn := HBX.out.i.n
    have hdd := HBX.out.i.d
    have hrl : (refsOf pre).length ≤ 600 := by
      have : ∀ L : List (List Int × V), (refsOf L).length ≤ L.length := fun L => by
        induction L with
        | nil => simp [refsOf]
        | cons x L ih =>
          obtain ⟨p, k, n, s, l, r⟩ := x
          simp only [refsOf]
          split <;> simp <;> omega
      have := this pre
      omega
    have hsx : w6.heap.size ≤ Wx.heap.size := HBX.out.i.fr.size
    have HBR := hide hbr
    have HOR := hide hor
    have hown1lt : ∀ q, vr.ownBlock = some q → q < W1.heap.size := fun q hq => HI1.out.lt hn6 hd6 hr6 q ((hMM2 q).2 (.inr hq))
    have HO1 := hide hown1lt
    clear hown1lt
    have HM2 := hide hMM2
    have HN2 := hide hnn
    have HD2 := hide hdd
    obtain ⟨-, ⟨x0, x1, x2, x3, x4, x5⟩, -, q1⟩ := HBX.out.cells
    have r0 := hbr.cell 0
    have d0 := hdd.cell 0
    have n0 := hnn.cell 0
    simp only [List.getElem?_toArray, List.getElem?_cons_zero] at r0 d0 n0
    have rf := hbr.frozen 0
    have df := hdd.frozen 0
    have nf := hnn.frozen 0
    have rq := hbr.lt
    have dq := hdd.lt
    have nq := hnn.lt
    obtain ⟨D, hD⟩ : ∃ D, deepOf pre = D := ⟨_, rfl⟩
    rw [hD] at d0
    have HDD := hide hD
    clear hbr hor hMM2 hnn hdd hD
    by_cases hk4 : k5 = 4
    · subst hk4
      obtain ⟨i0, hi0, hz0, hz1, hz2⟩ := info_parts ref_info
      have horA := HOR.out.alloc (.cells #[.int .i64 r5] 25)
      gi_wp2_with (gi_at_builtin; refine wpListIn_append_lies _ (by rfl) _ _ 100 (by rfl) w6.heap.size 25 i0 _ 1 8 Try.underlying100 hi0 hz0 hz1 hz2 (by rfl) (by omega) vr (refsOf pre).length ((refsOf pre).map fun r => Value.int .i64 r) (by rfl) horA ⟨Wx.heap.size, 0, none⟩ 1 1 [.int .i64 r5] (by rfl) (by rfl) (World.news_of_block (heap_alloc_new Wx _)) (by simp [Value.oneCell']) (by omega) (by unfold maxLen; omega) (by omega) (by simp; omega) (Wx.heap.size + 1) (by simp) ?_; intro g cp w7 hown1 hgrow hat hlt1; obtain ⟨⟨u0, u1⟩, r0', rf', d0', df', n0', nf', rq', dq', nq', bq'⟩ := wk_after (HBX.out) HBR.out HOR.out HM2.out HO1.out hgrow; rw [HDD.out] at d0'; have HOWN1 := hide hown1; have HGROW := hide hgrow; have HAT2 := hide hat; clear hown1 hgrow hat)
      all_goals
        have huu := HTV.out
        rw [T.v_mk] at huu
        have hrf : refsOf (pre ++ [(pp, uu)]) = refsOf pre ++ [r5] := by rw [refsOf_append, ← huu]; simp [refsOf]
        have hdf : deepOf (pre ++ [(pp, uu)]) = max D pp.length := by rw [deepOf_snoc, HDD.out, ← huu]; simp [ddOf]
        first
          | (have e : max D pp.length = pp.length := by omega
             rw [e] at hdf
             exact wk_fin1 HBX.out ((HFA.out.no (S := fun i => i = lp)).trans HF2.out) HFX.out hl HML.out HBR.out HOR.out HM2.out HOWN1.out HGROW.out HAT2.out hrf hdf)
          | (have e : max D pp.length = D := by omega
             rw [e] at hdf
             exact wk_fin1 HBX.out ((HFA.out.no (S := fun i => i = lp)).trans HF2.out) HFX.out hl HML.out HBR.out HOR.out HM2.out HOWN1.out HGROW.out HAT2.out hrf hdf)
    · have hrf : refsOf (pre ++ [(pp, uu)]) = refsOf pre := by
        have huu := HTV.out
        rw [T.v_mk] at huu
        rw [refsOf_append, ← huu]
        simp [refsOf, hk4]
      have hk4' : (k5 == 4) = false := by simpa using hk4
      have HRF := hide hrf
      clear hrf
      have hdf : deepOf (pre ++ [(pp, uu)]) = max D (pp.length + if k5 = 3 ∧ l5.map T.v = [] then 1 else 0) := by
        have huu := HTV.out
        rw [T.v_mk] at huu
        rw [deepOf_snoc, HDD.out, ← huu]
        rfl
      have HDF := hide hdf
      clear hdf hk4
      have hpb : (pp.length : Int) ≤ 17592186043904 := by have := HPL.out; omega
      by_cases hk3 : k5 = 3
      · subst hk3
        by_cases hl5 : l5.length = 0
        · have hle : l5 = [] := List.eq_nil_of_length_eq_zero hl5
          have hdf2 : deepOf (pre ++ [(pp, uu)]) = max D (pp.length + 1) := by rw [HDF.out]; simp [hle]
          have HDF2 := hide hdf2
          have hl5' : ((l5.length : Int) == 0) = true := by simp [hl5]
          clear hdf2 hle hl5
          gi_wp2
          all_goals
            have hdf := HDF2.out
            first
              | (have e : max D (pp.length + 1) = pp.length + 1 := by omega
                 rw [e] at hdf
                 exact wk_fin0 HBX.out ((HFA.out.no (S := fun i => i = lp)).trans HF2.out) HFX.out hl HML.out HRF.out hdf)
              | (have e : max D (pp.length + 1) = D := by omega
                 rw [e] at hdf
                 exact wk_fin0 HBX.out ((HFA.out.no (S := fun i => i = lp)).trans HF2.out) HFX.out hl HML.out HRF.out hdf)
        · have hdf2 : deepOf (pre ++ [(pp, uu)]) = max D pp.length := by
            have hne : l5 ≠ [] := fun h => by rw [h] at hl5; simp at hl5
            rw [HDF.out]; simp [hne]
          have HDF2 := hide hdf2
          have hl5' : ((l5.length : Int) == 0) = false := by simp; intro h; rw [h] at hl5; simp at hl5
          clear hdf2 hl5
          gi_wp2
          all_goals
            have hdf := HDF2.out
            first
              | (have e : max D pp.length = pp.length := by omega
                 rw [e] at hdf
                 exact wk_fin0 HBX.out ((HFA.out.no (S := fun i => i = lp)).trans HF2.out) HFX.out hl HML.out HRF.out hdf)
              | (have e : max D pp.length = D := by omega
                 rw [e] at hdf
                 exact wk_fin0 HBX.out ((HFA.out.no (S := fun i => i = lp)).trans HF2.out) HFX.out hl HML.out HRF.out hdf)
      · have hdf2 : deepOf (pre ++ [(pp, uu)]) = max D pp.length := by rw [HDF.out]; simp [hk3]
        have HDF2 := hide hdf2
        have hk3' : (k5 == 3) = false := by simpa using hk3
        clear hdf2 hk3
        gi_wp2
        all_goals
          have hdf := HDF2.out
          first
            | (have e : max D pp.length = pp.length := by omega
               rw [e] at hdf
               exact wk_fin0 HBX.out ((HFA.out.no (S := fun i => i = lp)).trans HF2.out) HFX.out hl HML.out HRF.out hdf)
            | (have e : max D pp.length = D := by omega
               rw [e] at hdf
               exact wk_fin0 HBX.out ((HFA.out.no (S := fun i => i = lp)).trans HF2.out) HFX.out hl HML.out HRF.out hdf)
  case done =>
    rintro D W M' I FM hsub hDge hDK
    have hs := FM.size
    have F6' := F6.out.size
    have bW := B6.out.fr FM (fun h => by omega)
    have rW := R6.out.fr FM (fun h => by omega)
    have iW := (HT.out.no F6.out (Nat.le_refl _)).fr FM F6' (fun i _ hi h => by omega)
    have fW : Fr No w W := F6.out.trans' FM fun i hi h => by omega
    obtain ⟨vr, hbr, hor, -⟩ := I.r
    have hnn := I.n
    have hdd := I.d
    have en : (stepsOf v).length = v.meas := by
      unfold stepsOf V.meas
      split
      · exact walk_length v []
      · rfl
    have ed : (deepOf (stepsOf v) : Int) = if v.may = true then (v.dep : Int) else 0 := by
      unfold stepsOf
      split
      · rename_i hm
        rw [deepOf_walk (may_ok hm)]
      · rfl
    have er : refsOf (stepsOf v) = v.refs := by
      unfold stepsOf V.refs
      split
      · rfl
      · rfl
    have hrl : v.refs.length ≤ 600 := by
      have h1 : ∀ L : List (List Int × V), (refsOf L).length ≤ L.length := fun L => by
        induction L with
        | nil => simp [refsOf]
        | cons x L ih =>
          obtain ⟨p, k, n, s, l, r⟩ := x
          simp only [refsOf]
          split <;> simp <;> omega
      have h2 := h1 (stepsOf v)
      rw [er, en] at h2
      have h3 : v.meas ≤ 512 := by
        unfold V.meas
        split
        · rename_i hm; simp [V.may, V.fits] at hm; omega
        · omega
      omega
    rw [en] at hnn
    rw [ed] at hdd
    rw [er] at hor
    have hRe := fun W' (f : Fr No W W') => Refs_any (T.mk k n s A cap l r) W' 0 w.heap.size (iW.no f (by omega)) (by have := f.size; omega)
    have hPa := fun W' (f : Fr No W W') => Parts_any (T.mk k n s A cap l r) W' 0 w.heap.size (iW.no f (by omega)) (by have := f.size; omega)
    have hDe := fun W' (f : Fr No W W') => Deep_any (T.mk k n s A cap l r) W' 0 w.heap.size (iW.no f (by omega)) (by have := f.size; omega)
    rw [HV.out] at hRe hPa hDe
    rw [T.val_mk] at hRe hPa hDe
    generalize v.meas = mv at *
    generalize (if v.may = true then (v.dep : Int) else 0) = dv at *
    generalize v.refs = R at *
    obtain ⟨Ar, cr, hvr⟩ := owns_form hor
    subst hvr
    have HFW := hide fW
    have HDK := hide hDK
    have HBW := hide bW
    have HRW := hide rW
    have HBR := hide hbr
    have HOR := hide hor
    have HNN := hide hnn
    have HDD := hide hdd
    have HRE := hide hRe
    have HPA := hide hPa
    have HDE := hide hDe
    obtain ⟨c0, c1, c2, c3, c4, -⟩ := Blk.cells5 bW
    have q0 := bW.lt
    have hDW : D < W.heap.size := (Array.getElem?_eq_some_iff.1 hDK).1
    clear I FM hsub hDK bW rW iW fW hbr hor hnn hdd en ed er hRe hPa hDe
    subst ha0
    go_wp2_with fail
    refine (HRE.out W (Fr.refl No W)).mono ?_
    rintro e Wa ⟨vl, rfl, hol, fa⟩
    obtain ⟨Al, cl, hvl⟩ := owns_form hol
    subst hvl
    have HFA := hide fa
    have HOL := hide hol
    have HOR2 := hide (owns_fr HOR.out fa (fun _ _ h => h))
    have hBv := HBW.out.fr fa fun h => h
    have hBr := HBR.out.fr fa fun h => h
    have hBn := HNN.out.fr fa fun h => h
    have hBd := HDD.out.fr fa fun h => h
    have HBR2 := hide hBr
    clear c0 c1 c2 c3 c4 q0 fa hol
    obtain ⟨c0, c1, c2, c3, c4, -⟩ := Blk.cells5 hBv
    have q0 := hBv.lt
    have r0 := hBr.cell 0
    have n0 := hBn.cell 0
    have d0 := hBd.cell 0
    simp only [List.getElem?_toArray, List.getElem?_cons_zero] at r0 n0 d0
    have rq := hBr.lt
    have nq := hBn.lt
    have dq := hBd.lt
    clear hBv hBr hBn hBd
    go_upto_region 23 with (fail)
    go_cut [110] from 94 to 109 (fun s110 wx => s110 = Value.bool false ∧ Fr No Wa wx)
    case first =>
      go_region_held3 (fun w' => (∀ c i, c < Wa.heap.size → w'.cell? ⟨c, i, none⟩ = Wa.cell? ⟨c, i, none⟩) ∧ Fr No Wa w')
        (first | exact ⟨fun _ _ _ => rfl, Fr.drew (Fr.refl No Wa)⟩ | (have hq : Fr No Wa _ := (‹_ ∧ Fr No Wa _›).2.trans ‹Fr No _ _›; exact ⟨hq.cells, hq⟩))
        (first
          | (go_at_call 56; have hs0 := (‹_ ∧ Fr No Wa _›).2; ((with_reducible refine (HPA.out _ (HFA.out.trans hs0)).mono ?_); rintro e w8 ⟨rfl, fr8⟩))
          | (go_at_call 57; have hs0 := (‹_ ∧ Fr No Wa _›).2; ((with_reducible refine (HDE.out _ (HFA.out.trans hs0)).mono ?_); rintro e w8 ⟨rfl, fr8⟩)))
      all_goals
        have F8 := hide (‹_ ∧ Fr No Wa _›).2
        go_simp
        go_wp2_with fail
        go_meet
        exact ⟨rfl, F8.out⟩
    case rest =>
      obtain ⟨rfl, fc⟩ := hcut
      obtain ⟨Wb, rfl⟩ : ∃ Wb : World, Wb = wc := ⟨_, rfl⟩
      have HFB := hide (HFA.out.trans fc)
      have HFC := hide fc
      clear fc c0 c1 c2 c3 c4 q0 r0 n0 d0 rq nq dq
      go_wp2_with fail
      go_loopw [13] (fun sv wr => ∃ i : Nat, sv = .int .i64 i ∧ i ≤ R.length ∧ Fr No Wb wr) (fun sv _ => R.length - (intOf sv).toNat)
      case atStart => exact ⟨0, rfl, Nat.zero_le _, Fr.refl _ _⟩
      case round =>
        obtain ⟨i, rfl, hi, fr⟩ := hrel
        by_cases hlt : i < R.length
        · obtain ⟨gl, c0, hvl, -⟩ := HOL.out.form (by omega)
          obtain ⟨gq, c1, hvr, -⟩ := HOR2.out.form (by omega)
          simp only [Value.slice.injEq, true_and] at hvl hvr
          obtain ⟨rfl, rfl⟩ := hvl
          obtain ⟨rfl, rfl⟩ := hvr
          have ol := owns_fr HOL.out (HFC.out.trans fr) (fun _ _ h => h)
          have orr := owns_fr HOR2.out (HFC.out.trans fr) (fun _ _ h => h)
          have hb := HBR2.out.fr (HFC.out.trans fr) fun h => h
          have hx : (R.map fun r => Value.int .i64 r)[i]? = some (.int .i64 R[i]) := by rw [List.getElem?_map, List.getElem?_eq_getElem hlt]; rfl
          have e1 := World.ownsRow.cells ol (g := gl) rfl i _ hx
          have e2 := World.ownsRow.cells orr (g := gq) rfl i _ hx
          rw [add_at, Nat.zero_add] at e1 e2
          have r0 := hb.cell 0
          simp only [List.getElem?_toArray, List.getElem?_cons_zero] at r0
          have rq := hb.lt
          have lq := (owns_lt ol gl rfl).2
          have rq2 := (owns_lt orr gq rfl).2
          have hii : (i : Int) ≤ 1000000 := by omega
          have hib : (0 : Int) ≤ (i : Int) := by omega
          have hil : (i : Int) < (R.length : Int) := by omega
          generalize R[i] = ri at *
          have HF := hide fr
          clear ol orr hb hx fr
          go_wp2_with fail
          go_quiet (fail)
          generalize hwq : World.drewN wr _ = wq
          have HFQ : Hid (Fr No Wb wq) := by rw [← hwq]; exact HF.out.trans ((Fr.refl No wr).drewN _)
          clear hwq
          go_wp2
          go_roundw
          case rel => exact ⟨i + 1, by go_num, hlt, HFQ.out⟩
          case measure => simp [intOf]; omega
        · have HF := hide fr
          clear fr
          go_wp2_with fail
          refine (awake_any _).mono ?_
          rintro e wz ⟨rfl, fz⟩
          have f1 := (HFB.out.trans HF.out).trans fz
          have hR := HRW.out.fr f1 fun h => h
          have d0 := hR.cell 0
          simp only [List.getElem?_toArray, List.getElem?_cons_zero] at d0
          have df := hR.frozen 0
          have dq := hR.lt
          have hDz : wz.heap[D]? = some (.deferred (some [])) := (f1.block D hDW (fun h => h)).trans HDK.out
          have HF1 := hide f1
          have HRZ := hide hR
          have HDZ := hide hDz
          have hs1 := f1.size
          clear fz f1 hR hDz
          go_wp2_with fail
          have hne : D ≠ w.heap.size + 1 := by omega
          have e1 : (wz.setCell ⟨w.heap.size + 1, 0, none⟩ (.bool true)).heap[D]? = some (.deferred (some [])) := (Below.heap_setCell _ _ _ _ hne).trans HDZ.out
          have hbF := HRZ.out.set_ 0 (.bool true)
          have frG : Fr No w (wz.setCell ⟨w.heap.size + 1, 0, none⟩ (.bool true)) := (HFW.out.trans HF1.out).setNew (by simp) _
          generalize World.setCell wz _ _ = wY at *
          have hbG : Blk (wY.putObj D (.deferred none)) (w.heap.size + 1) 4 #[.bool true] := by
            unfold Blk at hbF ⊢
            rw [World.putObj_heap_other (Ne.symm hne)]
            simpa using hbF
          refine ⟨by simp, .inl ⟨_, _, rfl, run_takeDeferred e1, ?_⟩⟩
          have r2 := hbG.cell 0
          simp only [List.getElem?_toArray, List.getElem?_cons_zero] at r2
          refine ⟨.bool true, by simp [results, Try.results14, go_sem, r2], rfl, ?_⟩
          exact frG.trans' (fr_putObj wY D _) (fun i hi h => by have h' : i = D := h; omega)

end Go.Proofs.Ytihjmipmjogpoaa

/- Chapter 2: the document's Each. -/
namespace Go.Proofs.Ytihjmipmjogpoaa
open Go.RowKit

theorem Pts.nil (w : World) (base lo hi p0 p1 : Nat) : Pts w base lo hi p0 p1 none 0 [] := ⟨World.ownsRow_nil _ _ _ _, by simp, by simp⟩

set_option maxRecDepth 100000 in
set_option maxHeartbeats 4000000 in
theorem refEach_any (t : T) (w : World) (lo hi : Nat) (ht : t.In w lo hi) (hh : hi ≤ w.heap.size) : Calls Try.prog 42 #[t.val] w (Walk2P lo hi 0 0 (stepsOf t.v) w) := by
  have hM := fun w' (f : Fr No w w') => refMay_any t w' lo hi (ht.no f hh) (by have := f.size; omega)
  cases hm : t.v.may with
  | false =>
    have e1 : stepsOf t.v = [] := by simp [stepsOf, hm]
    rw [e1]
    simp only [hm] at hM
    cases t with
    | mk k n s A cap l r =>
      rw [T.val_mk] at *
      have fr1 := (Fr.refl No w).alloc (.cells #[.int .u8 k, .int .i64 n, .string s, .slice A l.length cap, .int .i64 r] 27)
      have HF := hide fr1
      have HM := hide hM
      clear fr1 hM hm e1 ht
      go_enter Try.func42, Try.ntmps42
      go_wp2_with fail
      refine (HM.out _ HF.out).mono ?_
      rintro e w2 ⟨rfl, f2⟩
      have HF2 := hide (HF.out.trans f2)
      clear f2
      go_wp2
      go_ret
      exact ⟨none, 0, [], rfl, rfl, Pts.nil _ _ _ _ _ _, HF2.out⟩
  | true =>
    have e1 : stepsOf t.v = t.v.walk [] := by simp [stepsOf, hm]
    have hsz : t.v.size ≤ 512 := by simp [V.may, V.fits] at hm; omega
    have hht : t.v.ht ≤ 16 := by
      have := ht_le_dep t.v (may_ok hm)
      simp [V.may, V.fits] at hm; omega
    rw [e1]
    have hW := fun w' (f : Fr No w w') => walk2_any t w' lo hi none 0 [] 0 0 (ht.no f hh) (by have := f.size; omega) (ints_nil w') (Nat.zero_le _) (by simp; omega) (by omega)
    simp only [hm] at hM
    cases t with
    | mk k n s A cap l r =>
      rw [T.val_mk] at *
      have hK := Blk.new w 27 #[.int .u8 k, .int .i64 n, .string s, .slice A l.length cap, .int .i64 r]
      have fr1 := (Fr.refl No w).alloc (.cells #[.int .u8 k, .int .i64 n, .string s, .slice A l.length cap, .int .i64 r] 27)
      generalize (T.mk k n s A cap l r).v.walk [] = XS at *
      have HF := hide fr1
      have HM := hide hM
      have HW := hide hW
      have HK := hide hK
      clear fr1 hM hm e1 ht hW hK hsz hht
      go_enter Try.func42, Try.ntmps42
      go_wp2_with fail
      refine (HM.out _ HF.out).mono ?_
      rintro e w2 ⟨rfl, f2⟩
      have hb := HK.out.fr f2 (fun h => h)
      obtain ⟨c0, c1, c2, c3, c4, cf⟩ := hb.cells5
      have q0 := hb.lt
      have HF2 := hide (HF.out.trans f2)
      clear f2 hb
      go_wp2_with fail
      refine (HW.out _ HF2.out).mono ?_
      rintro e w3 ⟨A3, c3', L3, rfl, hm3, pts3, f3⟩
      have HP3 := hide (And.intro hm3 (And.intro (pts3.less HF2.out.size) (HF2.out.trans f3)))
      clear hm3 pts3 f3
      go_wp2
      go_ret
      exact ⟨A3, c3', L3, rfl, HP3.out.1, HP3.out.2.1, HP3.out.2.2⟩

end Go.Proofs.Ytihjmipmjogpoaa

/- A region that draws its order inside a round, its operations quiet in a class of worlds: one walk in the text's order. -/
namespace Go.Proofs.Ytihjmipmjogpoaa
open Go.RowKit

section
variable {P : Program} {ops : Array Oper} {Q : Exit → Act → World → Prop} {n : Nat} {C : World → Prop}

theorem upon_round {o : Oper} {a : Act} {K : Act → World → Prop} {r : Result Next} (l : Nat) (h : o.upon P a K Q r) : o.uponIn (Fence.wide.inRound l) n P a K Q r := by
  have hd : ∀ p : Prop, ((Fence.wide.inRound l).depth.isSome = true → p) := fun p h => by simp [Fence.wide] at h
  cases r with
  | ok x w' =>
    cases x with
    | value v => exact h
    | skip => exact h
    | defer d => exact h
    | enter f args => exact ⟨hd _, CallsIn.inRound l (callsIn_wide.2 h)⟩
    | row row args => exact ⟨hd _, fun c cs _ => let ⟨v, w', r, s⟩ := h c cs; ⟨v, w', r, stepsIn_wide.2 s⟩⟩
    | _ => exact h.elim
  | halt x w' =>
    cases x with
    | panic v => exact h
    | _ => exact h.elim

theorem wpIn_round_of_wp {o : Oper} {a : Act} {w : World} {K : Act → World → Prop} (l : Nat) (hnd : ∀ c, o.op ≠ .defer c) (h : o.wp P a w K Q) : o.wpIn (Fence.wide.inRound l) n P a w K Q := by
  refine ⟨fun _ _ => trivial, ?_⟩
  rw [Fence.inRound_round, Oper.semAt_some l _ _ hnd]
  exact upon_round l h

def noDefer (ops : Array Oper) : Bool := ops.all fun o => match o.op with | .defer _ => false | _ => true

theorem noDefer_spec (h : noDefer ops = true) {i : Nat} {o : Oper} (ho : ops[i]? = some o) : ∀ c, o.op ≠ .defer c := by
  intro c hc
  obtain ⟨hi, rfl⟩ := Array.getElem?_eq_some_iff.1 ho
  have h' := Array.all_eq_true.1 h i hi
  rw [hc] at h'
  cases h'

theorem wpOpIn_round {i : Nat} {a : Act} {K : Act → Prop} {K' : Act → World → Prop} {w : World} (l : Nat) (hnd : noDefer ops = true) (hC : C w) (h : ∀ a w', C w' → K a → K' a w') (hh : qOp P ops C i K a) : wpOpIn (Fence.wide.inRound l) n P ops Q i K' a w := by
  unfold qOp at hh
  unfold wpOpIn
  split
  · rename_i ho; simp only [ho] at hh; exact h _ _ hC hh
  · rename_i o ho
    simp only [ho] at hh
    split
    · rename_i hw; simp only [hw, if_true] at hh; exact wpIn_round_of_wp l (noDefer_spec hnd ho) (Oper.wp_of_quiet hC h hh)
    · rename_i hw; simp only [hw] at hh; exact ⟨fun _ _ => trivial, h _ _ hC hh⟩

theorem wpAnyIn_round {K : Act → Prop} (l : Nat) (hnd : noDefer ops = true) (hQ : ∀ a w, C w → K a → Q .normal a w) : ∀ (fuel : Nat) (listed : Array Bool) (a : Act) (w : World), C w →
    wpAnyQ P .any ops C K fuel listed a → wpAnyIn (Fence.wide.inRound l) n P .any ops Q fuel listed a w
  | 0, _, _, _, hw, h => ⟨h.1, hQ _ _ hw h.2⟩
  | fuel + 1, _, _, _, hw, h => ⟨fun h0 => hQ _ _ hw (h.1 h0), fun i hi => wpOpIn_round l hnd hw (fun a' w' hw' => wpAnyIn_round l hnd hQ fuel _ a' w' hw') (h.2 i hi)⟩

/-- The region, at a class of one's own. -/
theorem wpIn_region_quiet_round {id : Nat} {a : Act} {w : World} {ol : List Oper} (C : World → Prop) {l : Nat} (hm : P.follows .mixedOrders = true) (hB : Region.lexB .any ol.toArray = true) (hnd : noDefer ol.toArray = true) (hC : C w.drew)
    (h : wpQuiet P ol.toArray C (fun a' => ∀ w', C w' → Q .normal a' w') ol a) : (Code.region id ol.toArray true).wpIn (Fence.wide.inRound l) n P Q a w := by
  simp only [Region.lexB, Bool.and_eq_true] at hB
  refine wpIn_region_any hm (wpAnyIn_round (C := C) (K := fun a' => ∀ w', C w' → Q .normal a' w') l hnd (fun _ w' hw' h => h w' hw') _ _ _ _ hC ?_)
  have := wpAnyQ_lex (C := C) (md := .any) hB.1 ol.toArray.toList 0 (Array.replicate ol.toArray.size false) a (by simp) (by simpa using hB.2) (by simpa using h)
  simpa using this
end

end Go.Proofs.Ytihjmipmjogpoaa

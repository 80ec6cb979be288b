/- Texts joined: Wg16. -/
import Derived.Test.YtlejelbefmkakaaGreatJn21
/- Layer 12: First. -/
namespace Go.Proofs.YtlejelbefmkakaaGreat
open Go.RowKit
attribute [local go_sem] Oper.semAt_some

/-- The first of some numbers that a test takes. -/
def firstOf (c : Int → Bool) (L : List Int) : Value := match L.find? c with
  | some x => .tuple #[.int .i64 x, .bool true]
  | none => .tuple #[.int .i64 0, .bool false]

/-- Before a cut gate is met. -/
structure FJ (w0 : World) (wb g2 g4 g5 : Nat) (c : Int → Bool) (pre : List Int) (M : Nat → Prop) (W : World) : Prop where
  no : ∀ x ∈ pre, c x = false
  m : ∀ i, M i ↔ (i = g4 ∨ i = g5)
  fr : Fr No w0 W
  b2 : Blk W g2 31 #[.pointer (some ⟨wb, 0, none⟩)]
  b4 : Blk W g4 22 #[.int .i64 0]
  b5 : Blk W g5 4 #[.bool false]

theorem FJ.stay {w0 : World} {wb g2 g4 g5 : Nat} {c : Int → Bool} {pre : List Int} {M : Nat → Prop} {W W' : World} {S : Nat → Prop} (l2 : g2 < w0.heap.size) (l4 : g4 < w0.heap.size) (l5 : g5 < w0.heap.size) (h : FJ w0 wb g2 g4 g5 c pre M W) (f : Fr S W W') (hs : ∀ i, i < W.heap.size → S i → w0.heap.size ≤ i) : FJ w0 wb g2 g4 g5 c pre M W' := by
  have hz := h.fr.size
  exact ⟨h.no, h.m, h.fr.trans' f fun i hi hS => by have := hs i (by omega) hS; omega, h.b2.fr f fun hS => by have := hs g2 (by omega) hS; omega, h.b4.fr f fun hS => by have := hs g4 (by omega) hS; omega, h.b5.fr f fun hS => by have := hs g5 (by omega) hS; omega⟩

/-- Behind one. -/
structure FX (w0 : World) (g4 g5 : Nat) (c : Int → Bool) (ex : Code) (q : List Int) (W : World) : Prop where
  ex : ex = .ret
  at_ : ∃ (pre : List Int) (x : Int), q = pre ++ [x] ∧ (∀ y ∈ pre, c y = false) ∧ c x = true ∧ Blk W g4 22 #[.int .i64 x] ∧ Blk W g5 4 #[.bool true]
  fr : Fr (fun i => i = g4 ∨ i = g5) w0 W

theorem find_stop {c : Int → Bool} {pre L : List Int} {x : Int} (h : pre ++ [x] <+: L) (hn : ∀ y ∈ pre, c y = false) (hx : c x = true) : L.find? c = some x := by
  obtain ⟨z, rfl⟩ := h
  rw [List.append_assoc, List.find?_append]
  have : pre.find? c = none := List.find?_eq_none.2 fun y hy => by simp [hn y hy]
  simp [this, hx]

set_option maxRecDepth 100000 in
set_option maxHeartbeats 8000000 in
theorem First_w {m : Wm} {lo : Nat} {w : World} (h : m.Ok lo w) {r : Int} {L : List Int} (hw : Way m r L) (hL : L.length ≤ 100000) (c : Int → Bool)
    (hc : ∀ x ∈ m.gatesOf L, ∀ W, m.Ok lo W → Calls Tryz.prog 100 #[.pointer (some ⟨m.wb, 0, none⟩), .int .i64 x] W fun e w' => e = .returned (.bool (c x)) ∧ Fr No W w') :
    Calls Tryz.prog 34 #[.pointer (some ⟨m.wb, 0, none⟩), .int .i64 r] w fun e w' => e = .returned (firstOf c (m.gatesOf L)) ∧ Fr No w w' := by
  have hf0 := (((Fr.refl No w).alloc (.cells #[.pointer (some ⟨m.wb, 0, none⟩)] 31)).alloc (.cells #[.int .i64 0] 22)).alloc (.cells #[.bool false] 4)
  have h2 := ((Blk.new w 31 #[.pointer (some ⟨m.wb, 0, none⟩)]).alloc (.cells #[.int .i64 0] 22)).alloc (.cells #[.bool false] 4)
  have h4 := (Blk.new' (w.alloc (.cells #[.pointer (some ⟨m.wb, 0, none⟩)] 31)) 22 #[.int .i64 0] (g := w.heap.size + 1) (by simp)).alloc (.cells #[.bool false] 4)
  have h5 := Blk.new' ((w.alloc (.cells #[.pointer (some ⟨m.wb, 0, none⟩)] 31)).alloc (.cells #[.int .i64 0] 22)) 4 #[.bool false] (g := w.heap.size + 1 + 1) (by simp)
  have HTh := hide (gath_w (h.no hf0))
  have HE := hide fun W => each_fn (some ⟨m.wb, 0, none⟩) r W
  have HGO := hide fun (w' : World) (f : Fr No w w') (b1 b2 : Nat) (hb1 : Blk w' b1 31 #[.pointer (some ⟨m.wb, 0, none⟩)]) (hb2 : Blk w' b2 22 #[.int .i64 r]) => goes_each (h.no f) hb1 hb2 hw hL
  have H0 := hide (And.intro hf0 (And.intro h2 (And.intro h4 h5)))
  have HOK := hide h
  have HC := hide hc
  have hBlt : ∀ i, m.B i → i < w.heap.size := fun i hi => (h.lt i hi).2
  have HBL := hide hBlt
  clear h hw hf0 h2 h4 h5 hc hBlt
  refine (callsIn_wide (n := 5)).1 ?_
  refine callsIn_of_wp_marks Tryz.func34 rfl trivial ?_
  simp only [Tryz.ntmps34, List.size_toArray, List.length_cons, List.length_nil, Nat.reduceAdd, Nat.reduceSub, Array.replicate_succ, Array.replicate_zero, List.push_toArray, List.append_toArray, List.nil_append, List.cons_append]
  refine wpIn_wide.2 ?_
  go_wp2_with fail
  obtain ⟨hf0, h2, h4, h5⟩ := H0.out
  generalize World.alloc (World.alloc (World.alloc w _) _) _ = W0 at *
  refine HTh.out.mono ?_
  rintro e w' ⟨rfl, rfl⟩
  have c2 : w'.cell? ⟨w.heap.size, 0, none⟩ = some (.pointer (some ⟨m.wb, 0, none⟩)) := h2.cell 0
  have q2 := h2.lt
  go_wp2_with fail
  refine (HE.out w').mono ?_
  rintro e W1 ⟨rfl, hb1, hb2, f1⟩
  have hF := hf0.trans f1
  have HF := hide hF
  have hgo := HGO.out W1 hF _ _ hb1 hb2
  have HG := hide hgo
  have HI := hide (hgo.iter W1 (Fr.refl _ _))
  have h2' := h2.fr f1 fun h => h
  have h4' := h4.fr f1 fun h => h
  have h5' := h5.fr f1 fun h => h
  have l2 := h2'.lt
  have l4 := h4'.lt
  have l5 := h5'.lt
  have hAv : ∀ i, (m.B i ∨ i = w'.heap.size ∨ i = w'.heap.size + 1) → i ≠ w.heap.size + 1 ∧ i ≠ w.heap.size + 1 + 1 := fun i hi => by
    have := h5.lt
    rcases hi with hi | hi | hi
    · have := HBL.out i hi; omega
    · omega
    · omega
  have HAV := hide hAv
  have H2 := hide h2'
  have H4 := hide h4'
  have H5 := hide h5'
  have HSZ := hide hF.size
  clear hf0 h2 h4 h5 hb1 hb2 f1 hF hgo h2' h4' h5' hAv c2 q2 HTh HE HGO H0
  go_wp2_with fail
  generalize ha0 : ({ tmps := _, defers := _ } : Act) = a0
  refine wp_rangeFunc_seq (gf := 170) (lb := #[.pointer (some ⟨w'.heap.size, 0, none⟩), .pointer (some ⟨w'.heap.size + 1, 0, none⟩)]) (by rw [← ha0]; rfl) HG.out.enters (fun x args B W h => by cases h; rfl) HI.out (FJ W1 m.wb w.heap.size (w.heap.size + 1) (w.heap.size + 1 + 1) c) (fun ex q _ W => FX W1 (w.heap.size + 1) (w.heap.size + 1 + 1) c ex q W)
    (fun pre M W W' S h f hs => h.stay l2 l4 l5 f fun i hi hS => (hs i hi hS).1) ?hIx (fun pre M W h i hi => by have := h.fr.size; rcases (h.m i).1 hi with rfl | rfl <;> omega) (fun i => i = w.heap.size + 1 ∨ i = w.heap.size + 1 + 1) ?h0 ?hM0
    (fun x args W1 a' Wa => Wa = W1 ∧ a' = ({ a0 with defers := [] }.put (some 13) (.int .i64 x)).put (some 6) (.int .i64 x)) ?assign ?body ?done ?stop
  case hIx =>
    intro ex pre M W W' S h f hs
    have hz := h.fr.size
    obtain ⟨p, x, h1, h2, h3, h4, h5⟩ := h.at_
    exact ⟨h.ex, ⟨p, x, h1, h2, h3, h4.fr f fun hS => by have := (hs _ h4.lt hS).1; omega, h5.fr f fun hS => by have := (hs _ h5.lt hS).1; omega⟩, h.fr.trans' f fun i hi hS => by have := (hs i (by omega) hS).1; omega⟩
  case h0 => exact ⟨nofun, fun i => Iff.rfl, Fr.refl _ _, H2.out, H4.out, H5.out⟩
  case hM0 =>
    intro i hi
    refine ⟨by rcases hi with rfl | rfl <;> omega, fun h => ?_⟩
    have := HAV.out i h
    rcases hi with rfl | rfl
    · exact this.1 rfl
    · exact this.2 rfl
  case assign =>
    rintro lp x args B Wr rfl K hK
    subst ha0
    have HK := hide hK
    clear hK
    gi_wp2
    exact HK.out _ _ (Fr.refl No Wr) ⟨rfl, rfl⟩
  case body =>
    rintro lp pre x args B M Wr a' Wa W2 I hpre rfl hB fa ⟨rfl, rfl⟩ hl hMl hBl hwl f2
    subst ha0
    have hx : x ∈ m.gatesOf L := by
      obtain ⟨z, hz⟩ := hpre
      rw [← hz]
      simp
    have I2 := I.stay l2 l4 l5 f2 fun i hi h => by have h' : i = lp := h; subst h'; exact hwl
    have hok2 := HOK.out.no (HF.out.trans I2.fr)
    have hcut := HC.out x hx W2 hok2
    have c2 : W2.cell? ⟨w.heap.size, 0, none⟩ = some (.pointer (some ⟨m.wb, 0, none⟩)) := I2.b2.cell 0
    have q2 := I2.b2.lt
    have HI2 := hide I2
    have HIm := hide I.m
    have HIf := hide I.fr
    have HF2 := hide f2
    have HCU := hide hcut
    have HNO := hide I.no
    clear I I2 hok2 hcut f2 hx hpre hB hBl fa
    simp only [Act.put, List.setIfInBounds_toArray, List.set_cons_zero, List.set_cons_succ]
    cases hcx : c x with
    | false =>
      rw [hcx] at HCU
      gi_wp2_with fail
      refine ⟨trivial, (CallsIn.inRound lp (callsIn_wide.2 HCU.out)).mono ?_⟩
      rintro e W3 ⟨rfl, f3⟩
      have HF3 := hide f3
      clear f3
      gi_wp2
      have I3 := HI2.out.stay l2 l4 l5 HF3.out fun i _ h => h.elim
      have hs2 := HF2.out.size
      refine ⟨⟨HF3.out.block lp (by omega) fun h => h, (HF2.out.mono fun i _ h => .inr (.inr h)).trans' HF3.out fun i _ h => h.elim⟩, M, fun i h _ => h, ⟨fun y hy => ?_, I3.m, I3.fr, I3.b2, I3.b4, I3.b5⟩⟩
      rcases List.mem_append.1 hy with hy | hy
      · exact HNO.out y hy
      · simp at hy
        rw [hy]
        exact hcx
    | true =>
      rw [hcx] at HCU
      gi_wp2_with fail
      refine ⟨trivial, (CallsIn.inRound lp (callsIn_wide.2 HCU.out)).mono ?_⟩
      rintro e W3 ⟨rfl, f3⟩
      have HF3 := hide f3
      have I3 := HI2.out.stay l2 l4 l5 f3 fun i _ h => h.elim
      have c4 : W3.cell? ⟨w.heap.size + 1, 0, none⟩ = some (.int .i64 0) := I3.b4.cell 0
      have z4 := I3.b4.frozen 0
      have q4 := I3.b4.lt
      have c5 : W3.cell? ⟨w.heap.size + 1 + 1, 0, none⟩ = some (.bool false) := I3.b5.cell 0
      have z5 := I3.b5.frozen 0
      have q5 := I3.b5.lt
      have HI3 := hide I3
      clear f3 I3
      gi_wp2
      have hs2 := HF2.out.size
      have hs1 := HIf.out.size
      have fS : Fr (fun i => i = w.heap.size + 1 ∨ i = w.heap.size + 1 + 1) W3 ((W3.setCell ⟨w.heap.size + 1, 0, none⟩ (.int .i64 x)).setCell ⟨w.heap.size + 1 + 1, 0, none⟩ (.bool true)) := ((Fr.refl _ W3).set (fun _ => .inl rfl) _).set (fun _ => .inr rfl) _
      have f23 : Fr (fun i => M i ∨ i = lp) Wa ((W3.setCell ⟨w.heap.size + 1, 0, none⟩ (.int .i64 x)).setCell ⟨w.heap.size + 1 + 1, 0, none⟩ (.bool true)) := (((HF2.out.mono fun i _ h => .inr h).trans' HF3.out fun i _ h => h.elim)).trans' fS fun i _ h => .inl ((HIm.out i).2 h)
      have hlp4 : lp ≠ w.heap.size + 1 := by omega
      have hlp5 : lp ≠ w.heap.size + 1 + 1 := by omega
      refine ⟨⟨(fS.block lp (by have := HF3.out.size; omega) fun h => by rcases h with h | h <;> omega).trans (HF3.out.block lp (by omega) fun h => h), f23.mono fun i _ h => ?_⟩, M, fun i h _ => h, ⟨rfl, ⟨pre, x, rfl, HNO.out, hcx, ?_, ?_⟩, ?_⟩⟩
      · rcases h with h | h
        · exact .inl h
        · exact .inr (.inr h)
      · exact (HI3.out.b4.set_ 0 (.int .i64 x)).far (p := ⟨w.heap.size + 1 + 1, 0, none⟩) (by simp) _
      · exact (HI3.out.b5.far (p := ⟨w.heap.size + 1, 0, none⟩) (by simp) _).set_ 0 (.bool true)
      · exact HI3.out.fr.no.trans' fS fun i _ h => h
  case done =>
    rintro D W M' I FM hsub hDge hDK
    subst ha0
    have c4 : W.cell? ⟨w.heap.size + 1, 0, none⟩ = some (.int .i64 0) := I.b4.cell 0
    have z4 := I.b4.frozen 0
    have q4 := I.b4.lt
    have c5 : W.cell? ⟨w.heap.size + 1 + 1, 0, none⟩ = some (.bool false) := I.b5.cell 0
    have z5 := I.b5.frozen 0
    have q5 := I.b5.lt
    have HII := hide I
    have HDK := hide hDK
    clear I hDK FM hsub
    go_wp2_with fail
    have hne4 : D ≠ w.heap.size + 1 := by omega
    have hne5 : D ≠ w.heap.size + 1 + 1 := by omega
    have e1 : ((W.setCell ⟨w.heap.size + 1, 0, none⟩ (.int .i64 0)).setCell ⟨w.heap.size + 1 + 1, 0, none⟩ (.bool false)).heap[D]? = some (.deferred (some [])) := (Below.heap_setCell _ _ _ _ hne5).trans ((Below.heap_setCell _ _ _ _ hne4).trans HDK.out)
    have hb4 := ((HII.out.b4.set_ 0 (.int .i64 0)).far (p := ⟨w.heap.size + 1 + 1, 0, none⟩) (by simp) (.bool false)).fr (fr_putObj _ D (.deferred none)) (fun h => by have h' : w.heap.size + 1 = D := h; omega)
    have hb5 := ((HII.out.b5.far (p := ⟨w.heap.size + 1, 0, none⟩) (by simp) (.int .i64 0)).set_ 0 (.bool false)).fr (fr_putObj _ D (.deferred none)) (fun h => by have h' : w.heap.size + 1 + 1 = D := h; omega)
    have fW : Fr No w ((W.setCell ⟨w.heap.size + 1, 0, none⟩ (.int .i64 0)).setCell ⟨w.heap.size + 1 + 1, 0, none⟩ (.bool false)) := ((HF.out.trans HII.out.fr).setNew (by simp) _).setNew (by simp; omega) _
    have r4 := hb4.cell 0
    have r5 := hb5.cell 0
    simp only [List.setIfInBounds_toArray, List.set_cons_zero, List.getElem?_toArray, List.getElem?_cons_zero] at r4 r5
    have hfo : firstOf c (m.gatesOf L) = .tuple #[.int .i64 0, .bool false] := by
      unfold firstOf
      rw [List.find?_eq_none.2 fun y hy => by simp [HII.out.no y hy]]
    have HFW := hide fW
    generalize World.setCell (World.setCell W _ _) _ _ = wY at *
    refine ⟨by simp, .inl ⟨_, _, rfl, run_takeDeferred e1, ?_⟩⟩
    refine ⟨.tuple #[.int .i64 0, .bool false], by simp [results, Tryz.results34, go_sem, r4, r5], by rw [hfo], ?_⟩
    exact HFW.out.trans' (fr_putObj wY D _) (fun i hi h => by have h' : i = D := h; have := HSZ.out; omega)
  case stop =>
    intro D ex q W M' hq hX FM hsub hDge hDK
    obtain rfl := hX.ex
    obtain ⟨p, x, rfl, h1, h2, hb4, hb5⟩ := hX.at_
    subst ha0
    have hfo : firstOf c (m.gatesOf L) = .tuple #[.int .i64 x, .bool true] := by
      unfold firstOf
      rw [find_stop hq h1 h2]
    have HX := hide hX.fr
    have HB4 := hide hb4
    have HB5 := hide hb5
    clear hX hb4 hb5 FM hsub hq
    go_wp2_with fail
    have r4 : (W.putObj D (.deferred none)).cell? ⟨w.heap.size + 1, 0, none⟩ = some (.int .i64 x) := (HB4.out.fr (fr_putObj _ D (.deferred none)) (fun h => by have h' : w.heap.size + 1 = D := h; omega)).cell 0
    have r5 : (W.putObj D (.deferred none)).cell? ⟨w.heap.size + 1 + 1, 0, none⟩ = some (.bool true) := (HB5.out.fr (fr_putObj _ D (.deferred none)) (fun h => by have h' : w.heap.size + 1 + 1 = D := h; omega)).cell 0
    refine ⟨by simp, .inl ⟨_, _, rfl, run_takeDeferred hDK, ?_⟩⟩
    refine ⟨.tuple #[.int .i64 x, .bool true], by simp [results, Tryz.results34, go_sem, r4, r5], by rw [hfo], ?_⟩
    exact ((HF.out.trans' HX.out fun i hi h => by rcases h with h | h <;> omega)).trans' (fr_putObj W D _) (fun i hi h => by have h' : i = D := h; have := HSZ.out; omega)

end Go.Proofs.YtlejelbefmkakaaGreat

/- Texts joined: D7, H0. -/
import Derived.Test.YtihjmipmjogpoaaJn14
import Derived.Sort.QuietIn
import Derived.Test.YtihjmipmjogpoaaRows
import Derived.ProofKit
import Derived.OpenShut
import Derived.ChangeOld
/- Chapter 2: ValueEach: what it computes. -/
namespace Go.Proofs.Ytihjmipmjogpoaa
open Go.RowKit
attribute [local go_sem] Oper.semAt_some

theorem Iter.later {α : Type} {P : Program} {gf : Nat} {lb : Array Value} {Ok : α → Array Value → (Nat → Prop) → World → Prop} {xs : List α} {Av : Nat → Prop} {w w' : World} (h : Iter P gf lb Ok xs Av w) (f : Fr No w w') : Iter P gf lb Ok xs Av w' :=
  fun l J Jx W M hW hno hlt hround hM h0 => h l J Jx W M (f.trans hW) hno hlt hround (fun i hi hlt' => hM i hi (Nat.lt_of_lt_of_le hlt' f.size)) h0

theorem Iter.clip {α : Type} {P : Program} {gf : Nat} {lb : Array Value} {Ok : α → Array Value → (Nat → Prop) → World → Prop} {xs : List α} {Av : Nat → Prop} {w : World} (h : Iter P gf lb Ok xs Av w) : Iter P gf lb Ok xs (fun i => Av i ∧ i < w.heap.size) w :=
  fun l J Jx W M hW hno hlt hround hM h0 => h l J Jx W M hW hno hlt hround (fun i hi hlt' ha => hM i hi hlt' ⟨ha, hlt'⟩) h0

/-- The defers that the rounds gather. -/
def dsOf : List Nat → List Deferred := List.map fun D => { target := .collected D, args := #[] }

/-- What stands between two rounds. -/
structure EW (w : World) (tv t5 : T) (few : Int) (g5 g7 g8 : Nat) (A7 : Option Addr) (c7 : Nat) (L : List Pt) (gf : Nat) (lb : Array Value) (Av : Nat → Prop) (rv : Int) (W : World) : Prop where
  fr : Fr No w W
  bf : Blk W (w.heap.size + 1) 3 #[.int .i64 few]
  br : Blk W (w.heap.size + 1 + 1) 4 #[.bool false]
  bv : Blk W w.heap.size 27 tv.cells.toArray
  b5 : Blk W g5 27 t5.cells.toArray
  b7 : Blk W g7 75 #[.slice A7 L.length c7]
  p7 : Pts W 0 0 w.heap.size 0 0 A7 c7 L
  b8 : Blk W g8 3 #[.int .i64 rv]
  in5 : t5.In W 0 W.heap.size
  mk5 : t5.Mk W
  it : Iter Try.prog gf lb OkP (stepsOf tv.v) Av W
  av : ∀ i, Av i → i < W.heap.size
  o5 : w.heap.size + 1 + 1 < g5
  o7 : g5 < g7
  o8 : g7 < g8

theorem EW.no {w : World} {tv t5 : T} {few : Int} {g5 g7 g8 : Nat} {A7 : Option Addr} {c7 : Nat} {L : List Pt} {gf : Nat} {lb : Array Value} {Av : Nat → Prop} {rv : Int} {W W' : World} (h : EW w tv t5 few g5 g7 g8 A7 c7 L gf lb Av rv W) (f : Fr No W W') : EW w tv t5 few g5 g7 g8 A7 c7 L gf lb Av rv W' :=
  ⟨h.fr.trans f, h.bf.fr f fun h => h, h.br.fr f fun h => h, h.bv.fr f fun h => h, h.b5.fr f fun h => h, h.b7.fr f fun h => h, h.p7.no f h.fr.size, h.b8.fr f fun h => h, T.In.more (Nat.le_refl _) f.size _ (h.in5.no f (Nat.le_refl _)), h.mk5.no f (Nat.le_refl _) h.in5, h.it.later f, fun i hi => Nat.lt_of_lt_of_le (h.av i hi) f.size, h.o5, h.o7, h.o8⟩

theorem EW.next {w : World} {tv t5 : T} {few : Int} {g5 g7 g8 g' : Nat} {A7 : Option Addr} {c7 : Nat} {L : List Pt} {gf : Nat} {lb : Array Value} {Av : Nat → Prop} {rv rv' : Int} {W W' : World} (h : EW w tv t5 few g5 g7 g8 A7 c7 L gf lb Av rv W) (f : Fr No W W') (o : g7 < g') (b : Blk W' g' 3 #[.int .i64 rv']) : EW w tv t5 few g5 g7 g' A7 c7 L gf lb Av rv' W' :=
  { h.no f with b8 := b, o8 := o }

theorem each_ds {w W W' : World} {Ds : List Nat} {D : Nat} (hD : ∀ D ∈ Ds, w.heap.size ≤ D ∧ W.heap[D]? = some (.deferred (some []))) (hnd : Ds.Nodup) (f : Fr No W W') (hge : W.heap.size ≤ D) (hww : w.heap.size ≤ W.heap.size) (hDd : W'.heap[D]? = some (.deferred (some []))) :
    (D :: Ds).Nodup ∧ ∀ D' ∈ D :: Ds, w.heap.size ≤ D' ∧ W'.heap[D']? = some (.deferred (some [])) := by
  have hlt : ∀ D' ∈ Ds, D' < W.heap.size := fun D' h' => (Array.getElem?_eq_some_iff.1 (hD D' h').2).1
  refine ⟨List.nodup_cons.2 ⟨fun h => by have := hlt D h; omega, hnd⟩, fun D' h => ?_⟩
  rcases List.mem_cons.1 h with rfl | h
  · exact ⟨by omega, hDd⟩
  · exact ⟨(hD D' h).1, (f.block D' (hlt D' h) (fun h => h)).trans (hD D' h).2⟩

/-- Between two parts: how many have come. -/
structure EI (W0 : World) (g9 : Nat) (pre : List (List Int × V)) (M : Nat → Prop) (W : World) : Prop where
  fr : Fr (fun i => i = g9) W0 W
  n : Blk W g9 3 #[.int .i64 (pre.length : Int)]
  m : ∀ i, M i ↔ i = g9

/-- Where no more is wanted. -/
structure EX (W0 : World) (g9 : Nat) (rv : Nat) (few : Int) (c : Code) (pre : List (List Int × V)) (M : Nat → Prop) (W : World) : Prop where
  i : EI W0 g9 pre M W
  c : c = .exit 2
  r : rv = 0
  f : (pre.length : Int) = few

theorem EI.stay {W0 : World} {g9 : Nat} {pre : List (List Int × V)} {M : Nat → Prop} {W W' : World} {S : Nat → Prop} (hn : g9 < W0.heap.size) (h : EI W0 g9 pre M W) (f : Fr S W W') (hs : ∀ i, i < W.heap.size → S i → W0.heap.size ≤ i ∧ ¬ M i) : EI W0 g9 pre M W' := by
  have hsz := h.fr.size
  exact ⟨h.fr.trans' f fun i hi hS => by have := (hs i (by omega) hS).1; omega, h.n.fr f (fun hS => by have := (hs g9 (by omega) hS).1; omega), h.m⟩

/-- A world behind another in which no old block has turned. -/
structure Cl (W : World) where
  w : World
  fr : Fr No W w

/-- The part that the document's list holds at a place of the walk. -/
theorem pts_at {XS pre : List (List Int × V)} {pp : List Int} {uu : V} {L : List Pt} (hL : L.map Pt.pv = XS) (h : pre ++ [(pp, uu)] <+: XS) : ∃ A c ty, L[pre.length]? = some ⟨pp, A, c, ty⟩ ∧ ty.v = uu ∧ pre.length < L.length := by
  obtain ⟨z, hz⟩ := h
  have hx : XS[pre.length]? = some (pp, uu) := by rw [← hz]; simp
  rw [← hL, List.getElem?_map, Option.map_eq_some_iff] at hx
  obtain ⟨⟨p, A, c, ty⟩, h1, h2⟩ := hx
  simp only [Pt.pv, Prod.mk.injEq] at h2
  obtain ⟨rfl, rfl⟩ := h2
  exact ⟨A, c, ty, h1, rfl, (List.getElem?_eq_some_iff.1 h1).1⟩

/-- Its cells. -/
theorem pts_cells {w : World} {base lo hi p0 p1 : Nat} {A : Option Addr} {cap : Nat} {L : List Pt} (h : Pts w base lo hi p0 p1 A cap L) {i : Nat} {pp : List Int} {B : Option Addr} {c : Nat} {k n : Int} {s : ByteArray} {D : Option Addr} {d : Nat} {l : List T} {r : Int} (hx : L[i]? = some ⟨pp, B, c, .mk k n s D d l r⟩) {g : Nat} (hA : A = some ⟨g, 0, none⟩) :
    w.cell? ⟨g, i * 6, none⟩ = some (.slice B pp.length c) ∧ w.cell? ⟨g, i * 6 + 1, none⟩ = some (.int .u8 k) ∧ w.cell? ⟨g, i * 6 + 2, none⟩ = some (.int .i64 n) ∧ w.cell? ⟨g, i * 6 + 3, none⟩ = some (.string s) ∧ w.cell? ⟨g, i * 6 + 4, none⟩ = some (.slice D l.length d) ∧ w.cell? ⟨g, i * 6 + 5, none⟩ = some (.int .i64 r) := by
  subst hA
  have key : ∀ c' u, (Pt.cells ⟨pp, B, c, .mk k n s D d l r⟩)[c']? = some u → w.cell? ⟨g, i * 6 + c', none⟩ = some u := fun c' u hu => by
    have := World.ownsRow.cells h.own (g := g) rfl (i * 6 + c') u (ptCells_get L i c' _ u hx hu)
    rwa [add_at, Nat.zero_add] at this
  exact ⟨key 0 _ rfl, key 1 _ rfl, key 2 _ rfl, key 3 _ rfl, key 4 _ rfl, key 5 _ rfl⟩

/-- A number is laid in a row of one's own. -/
theorem owns_put {w : World} {base g n cap i : Nat} {xs : List Value} {u : Value} (h : w.ownsRow base 3 1 (.slice (some ⟨g, 0, none⟩) n cap) n xs) : (w.setCell ⟨g, i, none⟩ u).ownsRow base 3 1 (.slice (some ⟨g, 0, none⟩) n cap) n (xs.set i u) := by
  refine ⟨by simp [h.1], ?_⟩
  rcases h.2 with ⟨h1, _⟩ | ⟨g', cap', cur, h1, hb, hg, hc, hm, hsz, hx⟩
  · cases h1
  · simp only [Value.slice.injEq, Option.some.injEq, Addr.mk.injEq, and_true, true_and] at h1
    obtain ⟨rfl, rfl⟩ := h1
    refine .inr ⟨g, cap, cur.setIfInBounds i u, rfl, hb, ?_, hc, hm, by simp [hsz], ?_⟩
    · have : Blk (w.setCell ⟨g, i, none⟩ u) g 3 (cur.setIfInBounds i u) := Blk.set_ hg i u
      exact this
    · rw [← hx, Array.toList_setIfInBounds, List.take_set]

/-- Where the loop over a place stands. -/
structure PI (base : Nat) (pp : List Int) (A : Option Addr) (c : Nat) (W3 : World) (i : Nat) (wr : World) : Prop where
  fr : Fr (fun j => (Value.slice A pp.length c).ownBlock = some j) W3 wr
  own : ∃ xs, wr.ownsRow base 3 1 (.slice A pp.length c) pp.length xs ∧ ∀ j, i ≤ j → xs[j]? = (refCells pp)[j]?

theorem PI.form {base : Nat} {pp : List Int} {A : Option Addr} {c : Nat} {W3 wr : World} {i : Nat} (h : PI base pp A c W3 i wr) (hi : i < pp.length) : ∃ g, A = some ⟨g, 0, none⟩ ∧ g < wr.heap.size ∧ wr.cell? ⟨g, i, none⟩ = some (.int .i64 pp[i]) ∧ wr.frozen? ⟨g, i, none⟩ = false := by
  obtain ⟨xs, ho, hx⟩ := h.own
  rcases ho.2 with ⟨h1, h2⟩ | ⟨g, cap, cur, h1, hb, hg, hc, hm, hsz, hcur⟩
  · omega
  · simp only [Value.slice.injEq, true_and] at h1
    obtain ⟨rfl, rfl⟩ := h1
    have := World.ownsRow.cells ho (g := g) rfl i (.int .i64 pp[i]) (by rw [hx i (Nat.le_refl _)]; simp [refCells, hi])
    rw [add_at, Nat.zero_add] at this
    exact ⟨g, rfl, (owns_lt ho g rfl).2, this, Blk.frozen (show Blk wr g 3 cur from hg) i⟩

theorem PI.step {base : Nat} {pp : List Int} {g c : Nat} {W3 wr wq : World} {i : Nat} (h : PI base pp (some ⟨g, 0, none⟩) c W3 i wr) (f : Fr No wr wq) (u : Value) : PI base pp (some ⟨g, 0, none⟩) c W3 (i + 1) (wq.setCell ⟨g, i, none⟩ u) := by
  obtain ⟨xs, ho, hx⟩ := h.own
  refine ⟨(h.fr.thenNo f).set (p := ⟨g, i, none⟩) (fun _ => rfl) u, xs.set i u, owns_put (owns_fr ho f (fun _ _ h => h)), fun j hj => ?_⟩
  rw [List.getElem?_set_ne (by omega)]
  exact hx j (by omega)

/-- What a round leaves that has counted one part more. -/
theorem each_end {W0 W1 W2 Wa Wc wx : World} {g9 lp : Nat} {pre : List (List Int × V)} {x : List Int × V} {M B : Nat → Prop} (hI : EI W0 g9 pre M W1) (fa : Fr No W1 Wa) (f2 : Fr (fun i => i = lp) Wa W2) (f3 : Fr No W2 Wc) (fx : Fr (fun i => B i ∨ i = W1.heap.size) Wc wx) (hl : lp < W1.heap.size) (hMl : ¬ M lp) (hBl : ∀ i, B i → ¬ i = lp) (hwl : W0.heap.size ≤ lp) (hB : ∀ i, B i → W0.heap.size ≤ i ∧ i < W1.heap.size ∧ ¬ M i) (hg : g9 < W0.heap.size) :
    RK lp M B W1 W2 (wx.setCell ⟨g9, 0, none⟩ (.int .i64 ((pre.length : Int) + 1))) ∧ EI W0 g9 (pre ++ [x]) M (wx.setCell ⟨g9, 0, none⟩ (.int .i64 ((pre.length : Int) + 1))) := by
  have h0 := hI.fr.size
  have ha := fa.size
  have h2 := f2.size
  have h3 := f3.size
  have f12 : Fr (fun i => i = lp) W1 W2 := (fa.no (S := fun i => i = lp)).trans f2
  have fx' : Fr (fun i => (B i ∨ i = W1.heap.size) ∨ i = g9) Wc (wx.setCell ⟨g9, 0, none⟩ (.int .i64 ((pre.length : Int) + 1))) := (fx.mono fun i _ h => .inl h).set (fun _ => .inr rfl) _
  have hne : ¬ ((B lp ∨ lp = W1.heap.size) ∨ lp = g9) := by
    rintro ((h | h) | h)
    · exact hBl lp h rfl
    · omega
    · omega
  have fr : Fr (fun i => M i ∨ B i ∨ i = lp) W1 (wx.setCell ⟨g9, 0, none⟩ (.int .i64 ((pre.length : Int) + 1))) :=
    ((f12.mono (S' := fun i => M i ∨ B i ∨ i = lp) fun i _ h => .inr (.inr h)).thenNo f3).trans' fx' fun i hi h => by
      rcases h with (h | h) | h
      · exact .inr (.inl h)
      · omega
      · exact .inl ((hI.m i).2 h)
  refine ⟨⟨(fx'.block lp (by omega) hne).trans (f3.block lp (by omega) (fun h => h)), fr⟩, hI.fr.trans' fr fun i hi h => ?_, ?_, hI.m⟩
  · rcases h with h | h | h
    · exact (hI.m i).1 h
    · have := (hB i h).1
      omega
    · omega
  · have hb : Blk wx g9 3 #[.int .i64 (pre.length : Int)] := (((hI.n.fr fa fun h => h).fr f2 (fun h => by have h' : g9 = lp := h; omega)).fr f3 fun h => h).fr fx (fun h => by
      rcases h with h | h
      · have := (hB g9 h).1
        omega
      · omega)
    have := hb.set_ 0 (.int .i64 ((pre.length : Int) + 1))
    simpa using this

/-- What a round's loop variable lies in. -/
def EA (a0 : Act) (args : Array Value) (W1 : World) (a' : Act) (Wa : World) : Prop :=
  ∃ cs, args = #[.agg cs] ∧ a' = ({ a0 with defers := [] }.put (some 31) (.agg cs)).put (some 10) (.pointer (some ⟨W1.heap.size, 0, none⟩)) ∧ Blk Wa W1.heap.size 79 cs

set_option maxRecDepth 100000 in
set_option maxHeartbeats 16000000 in
theorem valueEach_any (t : T) (few : Int) (w : World) (hr : -9223372036854775808 ≤ few ∧ few ≤ 9223372036854775807) (ht : t.In w 0 w.heap.size) : Calls Try.prog 8 #[t.val, .int .i64 few] w fun e w' => e = .returned (.bool true) ∧ Fr No w w' := by
  have hsm := fun w' (f : Fr No w w') => small_any t 1200 40 w' 0 w.heap.size (ht.no f (Nat.le_refl _)) f.size (by omega) (by omega) (by omega) (by omega)
  have hln := fun w' (f : Fr No w w') => lent_any t w' 0 w.heap.size (ht.no f (Nat.le_refl _)) f.size
  have hre := fun w' (f : Fr No w w') => refEach_any t w' 0 w.heap.size (ht.no f (Nat.le_refl _)) f.size
  obtain ⟨v, hv⟩ : ∃ v, t.v = v := ⟨_, rfl⟩
  rw [hv] at hsm hln hre
  obtain ⟨k, n, s, A, cap, l, r⟩ := t
  rw [T.val_mk] at *
  have fr1 := (((Fr.refl No w).alloc (.cells #[.int .u8 k, .int .i64 n, .string s, .slice A l.length cap, .int .i64 r] 27)).alloc (.cells #[.int .i64 few] 3)).alloc (.cells #[.bool false] 4)
  have bv1 : Blk (((w.alloc (.cells #[.int .u8 k, .int .i64 n, .string s, .slice A l.length cap, .int .i64 r] 27)).alloc (.cells #[.int .i64 few] 3)).alloc (.cells #[.bool false] 4)) w.heap.size 27 #[.int .u8 k, .int .i64 n, .string s, .slice A l.length cap, .int .i64 r] := ((Blk.new' w 27 _ rfl).alloc _).alloc _
  have bf1 : Blk (((w.alloc (.cells #[.int .u8 k, .int .i64 n, .string s, .slice A l.length cap, .int .i64 r] 27)).alloc (.cells #[.int .i64 few] 3)).alloc (.cells #[.bool false] 4)) (w.heap.size + 1) 3 #[.int .i64 few] := (Blk.new' (w.alloc _) 3 _ (by simp)).alloc _
  have br1 : Blk (((w.alloc (.cells #[.int .u8 k, .int .i64 n, .string s, .slice A l.length cap, .int .i64 r] 27)).alloc (.cells #[.int .i64 few] 3)).alloc (.cells #[.bool false] 4)) (w.heap.size + 1 + 1) 4 #[.bool false] := Blk.new' ((w.alloc _).alloc _) 4 _ (by simp)
  have HV := hide hv
  have HT := hide ht
  have HSM := hide hsm
  have HLN := hide hln
  have HRE := hide hre
  have HF1 := hide fr1
  have HB1 := hide bv1
  have HW1 := hide bf1
  have HR1 := hide br1
  clear hv ht hsm hln hre fr1 bv1 bf1 br1
  by_cases hfit : ¬ ((v.size : Int) ≤ 1200 ∧ (v.ht : Int) ≤ 40)
  · have HZ := hide (smallOf_no hfit)
    clear hfit
    go_enter Try.func8, Try.ntmps8
    go_wp2_with fail
    generalize World.alloc (World.alloc (World.alloc w _) _) _ = w1 at *
    refine (awake_any _).mono ?_
    rintro e w2 ⟨rfl, f2⟩
    have F2 := hide (HF1.out.trans f2)
    have B2 := hide (HB1.out.fr f2 fun h => h)
    have R2 := hide (HR1.out.fr f2 fun h => h)
    clear f2
    obtain ⟨c0, c1, c2, c3, c4, -⟩ := Blk.cells5 B2.out
    have q0 := B2.out.lt
    go_wp2_with fail
    have hc := HSM.out w2 F2.out
    rw [HZ.out] at hc
    refine hc.mono ?_
    rintro e w3 ⟨rfl, f3⟩
    have F3 := hide (F2.out.trans f3)
    have R3 := hide (R2.out.fr f3 fun h => h)
    clear f3 hc c0 c1 c2 c3 c4 q0
    go_wp2_with fail
    refine (awake_any _).mono ?_
    rintro e w4 ⟨rfl, f4⟩
    have F4 := hide (F3.out.trans f4)
    have hR4 := R3.out.fr f4 fun h => h
    have d0 := hR4.cell 0
    simp only [List.getElem?_toArray, List.getElem?_cons_zero] at d0
    have df := hR4.frozen 0
    have q1 := hR4.lt
    clear f4 hR4
    go_wp2_with fail
    refine bodyPost_ret (v := .bool true) (by simp [results, Try.results8, go_sem, *]) rfl ?_
    exact ⟨rfl, F4.out.setNew (by simp; omega) _⟩
  have HZ1 := hide (smallOf_yes (Classical.byContradiction hfit))
  have hn1 : decide ((v.size : Int) < 0) = false := by simp
  clear hfit
  refine (callsIn_wide (n := 5)).1 ?_
  refine callsIn_of_wp_marks Try.func8 rfl trivial ?_
  simp only [Try.ntmps8, List.size_toArray, List.length_cons, List.length_nil, Nat.reduceAdd, Nat.reduceSub, Array.replicate_succ, Array.replicate_zero, List.push_toArray, List.append_toArray, List.nil_append, List.cons_append]
  refine wpIn_wide.2 ?_
  go_wp2_with fail
  generalize World.alloc (World.alloc (World.alloc w _) _) _ = w1 at *
  refine (awake_any _).mono ?_
  rintro e w2 ⟨rfl, f2⟩
  have F2 := hide (HF1.out.trans f2)
  have B2 := hide (HB1.out.fr f2 fun h => h)
  have W2 := hide (HW1.out.fr f2 fun h => h)
  have R2 := hide (HR1.out.fr f2 fun h => h)
  clear f2
  obtain ⟨c0, c1, c2, c3, c4, -⟩ := Blk.cells5 B2.out
  have q0 := B2.out.lt
  go_wp2_with fail
  have hc := HSM.out w2 F2.out
  rw [HZ1.out] at hc
  refine hc.mono ?_
  rintro e w3 ⟨rfl, f3⟩
  have F3 := hide (F2.out.trans f3)
  have B3 := hide (B2.out.fr f3 fun h => h)
  have W3 := hide (W2.out.fr f3 fun h => h)
  have R3 := hide (R2.out.fr f3 fun h => h)
  clear f3 hc c0 c1 c2 c3 c4 q0
  obtain ⟨c0, c1, c2, c3, c4, -⟩ := Blk.cells5 B3.out
  have q0 := B3.out.lt
  generalize v.size = qv at *
  go_wp2_with fail
  refine (HLN.out w3 F3.out).mono ?_
  rintro e w4 ⟨t5, rfl, hv5, hin5, hmk5, f4⟩
  obtain ⟨k5, n5, s5, A5, cap5, l5, r5⟩ := t5
  rw [T.val_mk]
  have fb := (Fr.refl No w4).alloc (.cells #[.int .u8 k5, .int .i64 n5, .string s5, .slice A5 l5.length cap5, .int .i64 r5] 27)
  have F4 := hide ((F3.out.trans f4).trans fb)
  have B4 := hide ((B3.out.fr f4 fun h => h).fr fb fun h => h)
  have W4 := hide ((W3.out.fr f4 fun h => h).fr fb fun h => h)
  have R4 := hide ((R3.out.fr f4 fun h => h).fr fb fun h => h)
  have V4 := hide (Blk.new w4 27 #[.int .u8 k5, .int .i64 n5, .string s5, .slice A5 l5.length cap5, .int .i64 r5])
  have I4 := hide (T.In.more (Nat.zero_le _) fb.size _ (hin5.no fb (Nat.le_refl _)))
  have M4 := hide (hmk5.no fb (Nat.le_refl _) hin5)
  have HV5 := hide hv5
  have hg5 : w.heap.size + 1 + 1 < w4.heap.size := (R3.out.fr f4 fun h => h).lt
  have hg5' : w4.heap.size < (w4.alloc (.cells #[.int .u8 k5, .int .i64 n5, .string s5, .slice A5 l5.length cap5, .int .i64 r5] 27)).heap.size := by simp
  clear f4 fb hv5 hin5 hmk5 c0 c1 c2 c3 c4 q0
  have HEA := hide (fun w' (f : Fr No (w4.alloc (.cells #[.int .u8 k5, .int .i64 n5, .string s5, .slice A5 l5.length cap5, .int .i64 r5] 27)) w') => each_any (T.mk k5 n5 s5 A5 cap5 l5 r5) w' 0 w'.heap.size (T.In.more (Nat.le_refl _) f.size _ (I4.out.no f (Nat.le_refl _))) (Nat.le_refl _))
  go_wp2_with fail
  generalize World.alloc w4 _ = w5 at *
  generalize w4.heap.size = g5 at *
  have hc := HEA.out w5 (Fr.refl No w5)
  rw [T.val_mk, HV5.out] at hc
  refine hc.mono ?_
  rintro e w6 ⟨gf, lb, Av, rfl, E⟩
  have hq0 := E.eql
  have F6 := hide (F4.out.trans E.fr)
  have B6 := hide (B4.out.fr E.fr fun h => h)
  have W6 := hide (W4.out.fr E.fr fun h => h)
  have R6 := hide (R4.out.fr E.fr fun h => h)
  have V6 := hide (V4.out.fr E.fr fun h => h)
  have I6 := hide (T.In.more (Nat.le_refl _) E.fr.size _ (I4.out.no E.fr (Nat.le_refl _)))
  have M6 := hide (M4.out.no E.fr (Nat.le_refl _) I4.out)
  have HE := hide E
  have hs6 := E.fr.size
  clear hc E HEA
  obtain ⟨c0, c1, c2, c3, c4, -⟩ := Blk.cells5 B6.out
  have q0 := B6.out.lt
  go_wp2_with fail
  clear c0 c1 c2 c3 c4 q0
  refine (HRE.out w6 F6.out).mono ?_
  rintro e w7 ⟨A7, c7, L, rfl, hmL, p7, f7⟩
  have fb := ((Fr.refl No w7).alloc (.cells #[.slice A7 L.length c7] 75)).alloc (.cells #[.int .i64 0] 3)
  have f9 := f7.trans fb
  have hw5 := HE.out.av
  have hs7 := f7.size
  have H9 : Hid (EW w (.mk k n s A cap l r) (.mk k5 n5 s5 A5 cap5 l5 r5) few g5 w7.heap.size (w7.heap.size + 1) A7 c7 L gf lb (fun i => Av i ∧ i < w6.heap.size) 0 ((w7.alloc (.cells #[.slice A7 L.length c7] 75)).alloc (.cells #[.int .i64 0] 3))) := by
    refine ⟨F6.out.trans f9, W6.out.fr f9 fun h => h, R6.out.fr f9 fun h => h, B6.out.fr f9 fun h => h, V6.out.fr f9 fun h => h, (Blk.new w7 75 _).alloc _, (p7.less (Nat.zero_le _)).no fb (by have := F6.out.size; omega), Blk.new' (w7.alloc _) 3 _ (by simp), T.In.more (Nat.le_refl _) f9.size _ (I6.out.no f9 (Nat.le_refl _)), M6.out.no f9 (Nat.le_refl _) I6.out, ?_, fun i hi => by have := hi.2; have := f9.size; omega, hg5, by omega, by omega⟩
    rw [HV.out]
    exact HE.out.iter.clip.later f9
  have HEN := hide HE.out.enters
  have HML := hide hmL
  clear fb f9 p7 f7 hw5 hq0 HE F6 B6 W6 R6 V6 I6 M6 F4 B4 W4 R4 V4 I4 M4
  have hs7' : w7.heap.size < (w7.alloc (.cells #[.slice A7 L.length c7] 75)).heap.size := by simp
  go_wp2_with fail
  generalize World.alloc (World.alloc w7 _) _ = w9 at *
  generalize ha0 : ({ tmps := _, defers := _ } : Act) = a0
  refine wp_loop (fun a W => ∃ (U : Nat → Value) (g8 : Nat) (Ds : List Nat), a = { tmps := #[U 0, U 1, .pointer (some ⟨w.heap.size, 0, none⟩), .pointer (some ⟨w.heap.size + 1, 0, none⟩), .pointer (some ⟨w.heap.size + 1 + 1, 0, none⟩), .pointer (some ⟨g5, 0, none⟩), .func (.func gf) #[] lb, .pointer (some ⟨w7.heap.size, 0, none⟩), .pointer (some ⟨g8, 0, none⟩), U 9, U 10, U 11, U 12, U 13, U 14, U 15, U 16, U 17, U 18, U 19, U 20, U 21, U 22, U 23, U 24, U 25, U 26, U 27, U 28, U 29, U 30, U 31, U 32, U 33, U 34, U 35, U 36, U 37, U 38, U 39, U 40, U 41, U 42, U 43, U 44, U 45, U 46, U 47, U 48, U 49, U 50, U 51, U 52, U 53, U 54, U 55, U 56, U 57, U 58, U 59, U 60, U 61, U 62, U 63, U 64, U 65, U 66, U 67, U 68, U 69, U 70, U 71, U 72, U 73, U 74, U 75, U 76, U 77, U 78, U 79, U 80, U 81, U 82, U 83, U 84, U 85, U 86, U 87, U 88, U 89, U 90, U 91, U 92, U 93, U 94, U 95, U 96, U 97, U 98, U 99, U 100, U 101, U 102, U 103, U 104, U 105, U 106, U 107, U 108, U 109, U 110, U 111, U 112, U 113, U 114, U 115, U 116, U 117, U 118, U 119, U 120], defers := dsOf Ds } ∧ EW w (.mk k n s A cap l r) (.mk k5 n5 s5 A5 cap5 l5 r5) few g5 w7.heap.size g8 A7 c7 L gf lb (fun i => Av i ∧ i < w6.heap.size) (Ds.length : Int) W ∧ Ds.length ≤ 2 ∧ Ds.Nodup ∧ ∀ D ∈ Ds, w.heap.size ≤ D ∧ W.heap[D]? = some (.deferred (some []))) (fun a _ => 2 - a.defers.length) ?start ?round
  case start =>
    refine ⟨fun i => a0.tmps.getD i undef, w7.heap.size + 1, [], ?_, H9.out, by simp, by simp, by simp⟩
    all_goals (subst ha0; rfl)
  case round =>
    rintro a W ⟨U, g8, Ds, rfl, hE, hle, hnd, hD⟩
    clear H9 ha0 hs6 hs7 hs7'
    obtain ⟨rv, hrv⟩ : ∃ rv : Nat, Ds.length = rv := ⟨_, rfl⟩
    rw [hrv] at hE hle
    have r0 := hE.b8.cell 0
    simp only [List.getElem?_toArray, List.getElem?_cons_zero] at r0
    have rq := hE.b8.lt
    have HE := hide hE
    have HD := hide hD
    have HND := hide hnd
    have HRV := hide hrv
    clear hE hD hnd hrv
    by_cases hlt : rv < 2
    · have hlt' : (rv : Int) < 2 := by omega
      go_wp2_with fail
      have F0 := (Fr.refl No W).alloc (.cells #[.int .i64 0] 3)
      have n0 := Blk.new W 3 #[.int .i64 0]
      have E0 := HE.out.no F0
      have HF0 := hide F0
      have HN0 := hide n0
      have HE0 := hide E0
      have hg9 : W.heap.size < (W.alloc (.cells #[.int .i64 0] 3)).heap.size := by simp
      have hit := E0.it
      rw [HV.out] at hit
      have HIT := hide hit
      have hav := HE.out.av
      clear F0 n0 E0 hit r0 rq
      generalize hW0 : World.alloc W _ = W0 at *
      clear hW0
      obtain ⟨g9, hg9'⟩ : ∃ g9, W.heap.size = g9 := ⟨_, rfl⟩
      rw [hg9'] at hg9 HN0 ⊢
      generalize ha0 : ({ tmps := _, defers := _ } : Act) = a0
      refine wp_rangeFunc_seq (gf := gf) (lb := lb) (by rw [← ha0]; rfl) HEN.out (fun x args B W h => by obtain ⟨A, c, t, base, rfl, -⟩ := h; rfl) HIT.out (EI W0 g9) (EX W0 g9 rv few)
        (fun pre M W W' S h f hs => h.stay hg9 f hs) (fun c pre M W W' S h f hs => ⟨h.i.stay hg9 f hs, h.c, h.r, h.f⟩) (fun pre M W h i hi => by rw [(h.m i).1 hi]; exact h.n.lt) (fun i => i = g9) ?h0 ?hM0 (fun _ args W1 a' Wa => EA a0 args W1 a' Wa) ?assign ?body ?done ?stop
      case h0 => exact ⟨Fr.refl _ _, HN0.out, fun i => Iff.rfl⟩
      case hM0 =>
        rintro i rfl
        exact ⟨hg9, fun h => by have := hav _ h; omega⟩
      case assign =>
        rintro lp x args B W1 ⟨A', c', t', base, rfl, -, ok⟩ K hK
        obtain ⟨k6, n6, s6, A6, cap6, l6, r6⟩ := t'
        subst ha0
        rw [T.cells_mk]
        have HK := hide hK
        clear hK ok
        gi_wp2
        refine HK.out _ _ ((Fr.refl No W1).alloc _) ⟨_, rfl, rfl, ?_⟩
        exact Blk.new W1 79 _
      case body =>
        rintro lp pre ⟨pp, uu⟩ args B M W1 a' Wa W2 I hpre ⟨A', c', t', base, rfl, rfl, ok⟩ hB fa ⟨cs, hargs, rfl, hbx⟩ hl hMl hBl hwl f2
        have htv := ok.v
        have hplen := ok.len
        obtain ⟨k6, n6, s6, A6, cap6, l6, r6⟩ := t'
        rw [T.cells_mk] at hargs
        have hcs : cs = #[.slice A' pp.length c', .int .u8 k6, .int .i64 n6, .string s6, .slice A6 l6.length cap6, .int .i64 r6] := by
          simp at hargs
          exact hargs.symm
        subst hcs
        subst ha0
        have hm : v.may = true := by
          cases hm : v.may with
          | true => rfl
          | false =>
            obtain ⟨z, hz⟩ := hpre
            unfold stepsOf at hz
            rw [hm] at hz
            simp at hz
        have hmem : (pp, uu) ∈ v.walk [] := by
          obtain ⟨z, hz⟩ := hpre
          unfold stepsOf at hz
          rw [if_pos hm] at hz
          rw [← hz]
          simp
        obtain ⟨-, -, hum⟩ := at_part hm hmem
        have hsz6 : (T.mk k6 n6 s6 A6 cap6 l6 r6).v.size ≤ 1000000 := by
          rw [htv]
          have h := hum
          simp [V.may, V.fits] at h
          show uu.size ≤ 1000000
          omega
        have hn6 : pre.length ≤ 600 := by
          have h1 := hpre.length_le
          unfold stepsOf at h1
          rw [if_pos hm, walk_length] at h1
          have h2 : v.size ≤ 512 := by have h := hm; simp [V.may, V.fits] at h; omega
          simp at h1
          omega
        obtain ⟨Ay, cy, ty, hy, hty, hnl⟩ := pts_at HML.out hpre
        obtain ⟨ky, ny, sy, Dy, dy, ly, ry⟩ := ty
        have hI1 := I.fr
        have hs1 := hI1.size
        have hsa := fa.size
        have hs2 := f2.size
        have hs0 := HF0.out.size
        have fW2 : Fr No W W2 := ((HF0.out.trans' hI1 fun i hi h => by omega).trans fa).trans' f2 fun i hi h => by have h' : i = lp := h; omega
        have E2 := HE.out.no fW2
        have bn2 : Blk W2 g9 3 #[.int .i64 (pre.length : Int)] := (I.n.fr fa fun h => h).fr f2 fun h => by have h' : g9 = lp := h; omega
        have bx2 := hbx.fr f2 (fun h => by omega)
        have hBlp : ∀ i, OkB (pp, uu) A' c' (T.mk k6 n6 s6 A6 cap6 l6 r6) i → ¬ i = lp := fun i hi e => hBl (e ▸ hi)
        have ok2 := (ok.fr fa (fun _ _ h => h)).fr f2 hBlp
        obtain ⟨gL, hgL, hcL⟩ := E2.p7.news (by intro h; rw [h] at hnl; simp at hnl)
        have HCY := hide (pts_cells E2.p7 hy hgL)
        have hgLlt : gL < W2.heap.size := (owns_lt E2.p7.own gL (by rw [hgL]; rfl)).2
        have hty2 := E2.p7.tr _ (List.mem_of_getElem? hy)
        have HSAME : Hid (∀ q : Cl W2, Calls Try.prog 43 #[.agg #[.int .u8 k6, .int .i64 n6, .string s6, .slice A6 l6.length cap6, .int .i64 r6], .agg #[.int .u8 ky, .int .i64 ny, .string sy, .slice Dy ly.length dy, .int .i64 ry]] q.w fun e w'' => e = .returned (.bool true) ∧ ∃ q' : Cl W2, w'' = q'.w) := by
          refine hide fun q => ?_
          have h := refSame_any (T.mk k6 n6 s6 A6 cap6 l6 r6) (T.mk ky ny sy Dy dy ly ry) q.w 0 q.w.heap.size (T.In.more (Nat.zero_le _) q.fr.size _ (ok2.sh.inn.no q.fr (Nat.le_refl _))) (T.In.more (Nat.le_refl _) (Nat.le_trans E2.fr.size q.fr.size) _ (hty2.no q.fr E2.fr.size)) (Nat.le_refl _)
          rw [htv, hty, same2_self hum, T.val_mk, T.val_mk] at h
          exact h.mono fun e w'' ⟨h1, h2⟩ => ⟨h1, ⟨⟨w'', q.fr.trans h2⟩, rfl⟩⟩
        have n0 : ∀ q : Cl W2, q.w.cell? ⟨g9, 0, none⟩ = some (.int .i64 (pre.length : Int)) := fun q => (bn2.fr q.fr fun h => h).cell 0
        have b7 : ∀ q : Cl W2, q.w.cell? ⟨w7.heap.size, 0, none⟩ = some (.slice (some ⟨gL, 0, none⟩) L.length c7) := fun q => by rw [← hgL]; exact (E2.b7.fr q.fr fun h => h).cell 0
        have x0 : ∀ q : Cl W2, q.w.cell? ⟨W1.heap.size, 0, none⟩ = some (.slice A' pp.length c') := fun q => (bx2.fr q.fr fun h => h).cell 0
        have x1 : ∀ q : Cl W2, q.w.cell? ⟨W1.heap.size, 1, none⟩ = some (.int .u8 k6) := fun q => (bx2.fr q.fr fun h => h).cell 1
        have x2 : ∀ q : Cl W2, q.w.cell? ⟨W1.heap.size, 2, none⟩ = some (.int .i64 n6) := fun q => (bx2.fr q.fr fun h => h).cell 2
        have x3 : ∀ q : Cl W2, q.w.cell? ⟨W1.heap.size, 3, none⟩ = some (.string s6) := fun q => (bx2.fr q.fr fun h => h).cell 3
        have x4 : ∀ q : Cl W2, q.w.cell? ⟨W1.heap.size, 4, none⟩ = some (.slice A6 l6.length cap6) := fun q => (bx2.fr q.fr fun h => h).cell 4
        have x5 : ∀ q : Cl W2, q.w.cell? ⟨W1.heap.size, 5, none⟩ = some (.int .i64 r6) := fun q => (bx2.fr q.fr fun h => h).cell 5
        have y0 : ∀ q : Cl W2, q.w.cell? ⟨gL, pre.length * 6, none⟩ = some (.slice Ay pp.length cy) := fun q => (q.fr.cell hgLlt (fun h => h)).trans HCY.out.1
        have y1 : ∀ q : Cl W2, q.w.cell? ⟨gL, pre.length * 6 + 1, none⟩ = some (.int .u8 ky) := fun q => (q.fr.cell hgLlt (fun h => h)).trans HCY.out.2.1
        have y2 : ∀ q : Cl W2, q.w.cell? ⟨gL, pre.length * 6 + 2, none⟩ = some (.int .i64 ny) := fun q => (q.fr.cell hgLlt (fun h => h)).trans HCY.out.2.2.1
        have y3 : ∀ q : Cl W2, q.w.cell? ⟨gL, pre.length * 6 + 3, none⟩ = some (.string sy) := fun q => (q.fr.cell hgLlt (fun h => h)).trans HCY.out.2.2.2.1
        have y4 : ∀ q : Cl W2, q.w.cell? ⟨gL, pre.length * 6 + 4, none⟩ = some (.slice Dy ly.length dy) := fun q => (q.fr.cell hgLlt (fun h => h)).trans HCY.out.2.2.2.2.1
        have y5 : ∀ q : Cl W2, q.w.cell? ⟨gL, pre.length * 6 + 5, none⟩ = some (.int .i64 ry) := fun q => (q.fr.cell hgLlt (fun h => h)).trans HCY.out.2.2.2.2.2
        have z9 : ∀ q : Cl W2, g9 < q.w.heap.size := fun q => (bn2.fr q.fr fun h => h).lt
        have z7 : ∀ q : Cl W2, w7.heap.size < q.w.heap.size := fun q => (E2.b7.fr q.fr fun h => h).lt
        have zx : ∀ q : Cl W2, W1.heap.size < q.w.heap.size := fun q => (bx2.fr q.fr fun h => h).lt
        have zL : ∀ q : Cl W2, gL < q.w.heap.size := fun q => Nat.lt_of_lt_of_le hgLlt q.fr.size
        have hnl' : (pre.length : Int) < (L.length : Int) := by omega
        have hge : decide ((pre.length : Int) ≥ (L.length : Int)) = false := by simp; omega
        have hge3 : decide (L.length ≤ pre.length) = false := by simp; omega
        have hge2 : decide ((L.length : Int) ≤ (pre.length : Int)) = false := by simp; omega
        have HE2 := hide E2
        have HN2 := hide bn2
        have HX2 := hide bx2
        have HOK2 := hide ok2
        have HFA := hide fa
        have HF2 := hide f2
        have HI := hide I
        have HML2 := hide hMl
        have HLP := hide hBlp
        have HBB := hide hB
        have HPL := hide hplen
        have HRE2 := hide hy
        clear E2 bn2 bx2 ok2 fa f2 I hMl hBlp hB hplen hmem hum hy hty hty2 hpre hargs ok hI1 hBl hcL htv hbx
        simp only [Act.put, List.setIfInBounds_toArray, List.set_cons_zero, List.set_cons_succ]
        gi_wp2_with fail
        have hinst : Nonempty (Cl W2) := ⟨⟨W2, Fr.refl No W2⟩⟩
        refine wpIn_region_quiet_round (fun W' => ∃ q : Cl W2, W' = q.w) (by kernel_rfl) (by kernel_rfl) (by kernel_rfl) ⟨⟨_, (Fr.refl No W2).drew⟩, rfl⟩ ?_
        repeat (go_big_quiet_step ((go_at_call 43; exact HSAME.out _)))
        refine wpQuiet_nil ?_
        rintro Wc ⟨⟨_, f3⟩, rfl⟩
        clear n0 b7 x0 x1 x2 x3 x4 x5 y0 y1 y2 y3 y4 y5 z9 z7 zx zL hge hge2 hge3 hinst HSAME
        have ok3 := HOK2.out.fr f3 (fun _ _ h => h)
        have PI0 : PI base pp A' c' Wc 0 Wc := ⟨Fr.refl _ _, _, ok3.place, fun _ _ => rfl⟩
        obtain ⟨ya, yb, hints, hyb, -, -⟩ := HE.out.p7.pl _ (List.mem_of_getElem? HRE2.out)
        have hplc : ∀ j, (Value.slice A' pp.length c').ownBlock = some j → W0.heap.size ≤ j ∧ j < W1.heap.size := fun j hj => ⟨(HBB.out j (.inl hj)).1, (HBB.out j (.inl hj)).2.1⟩
        have fWW3 := fW2.trans f3
        have hs3 := f3.size
        have HPLC := hide hplc
        have HINTS := hide hints
        have HF3 := hide f3
        have HFW3 := hide fWW3
        have HOK3 := hide ok3
        have HCY' := HCY
        have hx3 := HX2.out.fr f3 (fun h => h)
        clear fW2 f3 ok3 hints hplc fWW3
        -- what the loop reads, in whatever world it stands
        have RD : Hid (∀ wr, Fr (fun j => (Value.slice A' pp.length c').ownBlock = some j) Wc wr → Blk wr W1.heap.size 79 #[.slice A' pp.length c', .int .u8 k6, .int .i64 n6, .string s6, .slice A6 l6.length cap6, .int .i64 r6] ∧ Blk wr g9 3 #[.int .i64 (pre.length : Int)] ∧ Blk wr w7.heap.size 75 #[.slice (some ⟨gL, 0, none⟩) L.length c7] ∧ gL < wr.heap.size ∧ wr.cell? ⟨gL, pre.length * 6, none⟩ = some (.slice Ay pp.length cy) ∧ Ints wr ya yb Ay cy pp ∧ yb ≤ wr.heap.size) := by
          refine hide fun wr f => ?_
          have h1 := HPLC.out
          have hW := HE.out.b7.lt
          have hgW : gL < W.heap.size := (owns_lt HE.out.p7.own gL (by rw [hgL]; rfl)).2
          refine ⟨(HX2.out.fr HF3.out fun h => h).fr f (fun h => by have := h1 _ h; omega), (HN2.out.fr HF3.out fun h => h).fr f (fun h => by have := h1 _ h; omega), by rw [← hgL]; exact (HE.out.b7.fr HFW3.out fun h => h).fr f (fun h => by have := h1 _ h; omega), by have := HFW3.out.size; have := f.size; omega, ?_, (HINTS.out.no HFW3.out hyb).fr f (by have := HFW3.out.size; omega) (fun i _ hi h => by have := h1 _ h; omega), by have := HFW3.out.size; have := f.size; omega⟩
          exact (f.cell (by have := HFW3.out.size; omega) (fun h => by have := h1 _ h; omega)).trans ((HF3.out.cell hgLlt (fun h => h)).trans HCY.out.1)
        have HPI0 := hide PI0
        clear PI0 hx3
        gi_wp2_with fail
        gi_loopw [11] (fun sv wr => ∃ i : Nat, sv = .int .i64 i ∧ i ≤ pp.length ∧ PI base pp A' c' Wc i wr) (fun sv _ => pp.length - (intOf sv).toNat)
        case atStart => exact ⟨0, rfl, Nat.zero_le _, HPI0.out⟩
        case round =>
          obtain ⟨i, rfl, hi, inv⟩ := hrel
          obtain ⟨hbx, hbn, hb7, hgl, hy0, hyi, hybw⟩ := RD.out wr inv.fr
          by_cases hlt : i < pp.length
          · obtain ⟨gp, hgpA, hgp, hgc, hgf⟩ := inv.form hlt
            subst hgpA
            obtain ⟨yg, yo, hAy, hy1, hy2, hyc⟩ := hyi.elem hlt
            subst hAy
            have x0 : ∀ q : Cl wr, q.w.cell? ⟨W1.heap.size, 0, none⟩ = some (.slice (some ⟨gp, 0, none⟩) pp.length c') := fun q => (hbx.fr q.fr fun h => h).cell 0
            have n0 : ∀ q : Cl wr, q.w.cell? ⟨g9, 0, none⟩ = some (.int .i64 (pre.length : Int)) := fun q => (hbn.fr q.fr fun h => h).cell 0
            have b7 : ∀ q : Cl wr, q.w.cell? ⟨w7.heap.size, 0, none⟩ = some (.slice (some ⟨gL, 0, none⟩) L.length c7) := fun q => (hb7.fr q.fr fun h => h).cell 0
            have y0 : ∀ q : Cl wr, q.w.cell? ⟨gL, pre.length * 6, none⟩ = some (.slice (some ⟨yg, yo, none⟩) pp.length cy) := fun q => (q.fr.cell hgl (fun h => h)).trans hy0
            have yc : ∀ q : Cl wr, q.w.cell? ⟨yg, yo + i, none⟩ = some (.int .i64 pp[i]) := fun q => (q.fr.cell (by omega) (fun h => h)).trans hyc
            have pc : ∀ q : Cl wr, q.w.cell? ⟨gp, i, none⟩ = some (.int .i64 pp[i]) := fun q => (q.fr.cell hgp (fun h => h)).trans hgc
            have zx : ∀ q : Cl wr, W1.heap.size < q.w.heap.size := fun q => (hbx.fr q.fr fun h => h).lt
            have z9 : ∀ q : Cl wr, g9 < q.w.heap.size := fun q => (hbn.fr q.fr fun h => h).lt
            have z7 : ∀ q : Cl wr, w7.heap.size < q.w.heap.size := fun q => (hb7.fr q.fr fun h => h).lt
            have zL : ∀ q : Cl wr, gL < q.w.heap.size := fun q => Nat.lt_of_lt_of_le hgl q.fr.size
            have zy : ∀ q : Cl wr, yg < q.w.heap.size := fun q => by have := q.fr.size; omega
            have zp : ∀ q : Cl wr, gp < q.w.heap.size := fun q => by have := q.fr.size; omega
            have hilt : (i : Int) < (pp.length : Int) := by omega
            have hi0 : (0 : Int) ≤ (i : Int) := by omega
            have hib : (i : Int) ≤ 17592186043904 := by have := HPL.out; omega
            have xw := hbx.cell 0
            simp only [List.getElem?_toArray, List.getElem?_cons_zero] at xw
            have xq := hbx.lt
            have HBX := hide hbx
            have HINV := hide inv
            have hcl : Nonempty (Cl wr) := ⟨⟨wr, Fr.refl No wr⟩⟩
            clear hbx hbn hb7 hy0 hyi hyc hgc inv
            generalize pp[i] = zi at *
            gi_wp2_with fail
            refine wpIn_region_quiet_round (fun W' => ∃ q : Cl wr, W' = q.w) (by kernel_rfl) (by kernel_rfl) (by kernel_rfl) ⟨⟨_, (Fr.refl No wr).drew⟩, rfl⟩ ?_
            repeat (go_big_quiet_step (fail))
            refine wpQuiet_nil ?_
            rintro Wq ⟨⟨_, fq⟩, rfl⟩
            clear x0 n0 b7 y0 yc pc zx z9 z7 zL zy zp hcl xw xq
            have hbq := HBX.out.fr fq (fun h => h)
            have xw := hbq.cell 0
            simp only [List.getElem?_toArray, List.getElem?_cons_zero] at xw
            have xq := hbq.lt
            have hpq : gp < Wq.heap.size := by have := fq.size; omega
            obtain ⟨gp', hgp', -, hpc, hpf⟩ := (show PI base pp (some ⟨gp, 0, none⟩) c' Wc i Wq from ⟨HINV.out.fr.thenNo fq, let ⟨xs, h1, h2⟩ := HINV.out.own; ⟨xs, owns_fr h1 fq (fun _ _ h => h), h2⟩⟩).form hlt
            obtain rfl : gp = gp' := by simpa using hgp'
            have HFQ := hide fq
            clear hbq fq hgp'
            gi_wp2_with fail
            refine ⟨⟨i + 1, by go_num, hlt, HINV.out.step HFQ.out _⟩, by simp [intOf]; omega⟩
          · obtain rfl : i = pp.length := by omega
            obtain ⟨xs, hown, -⟩ := inv.own
            have hown0 := (owns_mono hown (Nat.zero_le _)).alloc (.cells #[.int .i64 1, .int .i64 2] 3)
            obtain ⟨i0, hi0, hz0, hz1, hz2⟩ := info_parts int_info
            have hfp := inv.fr
            have xw := hbx.cell 0
            simp only [List.getElem?_toArray, List.getElem?_cons_zero] at xw
            have xq := hbx.lt
            have hpl := HPL.out
            have AFT : Hid (∀ wg, (wr.alloc (.cells #[.int .i64 1, .int .i64 2] 3)).grownBy wg (Value.slice A' pp.length c').ownBlock → Blk wg W1.heap.size 79 #[.slice A' pp.length c', .int .u8 k6, .int .i64 n6, .string s6, .slice A6 l6.length cap6, .int .i64 r6] ∧ Fr (fun j => (Value.slice A' pp.length c').ownBlock = some j) Wc wg) := by
              refine hide fun wg hg => ?_
              have f1 : Fr (fun j => (Value.slice A' pp.length c').ownBlock = some j) wr wg := (((Fr.refl No wr).alloc (.cells #[.int .i64 1, .int .i64 2] 3)).no).trans' (fr_grown hg) (fun i _ h => h.symm)
              exact ⟨hbx.fr f1 (fun h => by have := HPLC.out _ h; omega), hfp.trans f1⟩
            have SPO : Hid (∀ ws, Fr (fun j => (Value.slice A' pp.length c').ownBlock = some j ∨ j = W1.heap.size) Wc ws → CallsIn (Fence.wide.inRound lp) 1 Try.prog 44 #[.agg #[.int .u8 k6, .int .i64 n6, .string s6, .slice A6 l6.length cap6, .int .i64 r6]] ws fun e wx => (∃ z : Int, e = .returned (.int .i64 z)) ∧ Fr (fun j => OkB (pp, uu) A' c' (T.mk k6 n6 s6 A6 cap6 l6 r6) j ∨ j = W1.heap.size) Wc wx) := by
              refine hide fun ws f => ?_
              have h1 := ((HOK3.out.sh.fr f (fun b hb h => by
                rcases h with h | h
                · exact HOK3.out.sep b hb h
                · have := (HBB.out b (.inr hb)).2.1
                  omega)).more (Nat.zero_le _) f.size)
              have h2 := spoil_any (T.mk k6 n6 s6 A6 cap6 l6 r6) ws 0 ws.heap.size h1 (Nat.le_refl _) (Nat.zero_le _) hsz6
              rw [T.val_mk] at h2
              refine (CallsIn.inRound lp (callsIn_wide.2 h2)).mono ?_
              rintro e wx ⟨⟨z, rfl, -, -⟩, fx⟩
              refine ⟨⟨_, rfl⟩, (f.mono (S' := fun j => OkB (pp, uu) A' c' (T.mk k6 n6 s6 A6 cap6 l6 r6) j ∨ j = W1.heap.size) fun i _ h => ?_).trans' fx fun i _ h => .inl (.inr h)⟩
              rcases h with h | h
              · exact .inl (.inl h)
              · exact .inr h
            have HFP := hide hfp
            clear hbn hb7 hy0 hyi hybw hgl inv hown hbx hfp
            gi_wp2_with (gi_at_builtin; refine wpListIn_append_lies _ (by rfl) _ _ 77 (by rfl) 0 3 i0 _ 1 8 Try.underlying77 hi0 hz0 hz1 hz2 (by rfl) (by omega) (.slice A' pp.length c') pp.length xs (by rfl) hown0 ⟨wr.heap.size, 0, none⟩ 2 2 [.int .i64 1, .int .i64 2] (by rfl) (by rfl) (World.news_of_block (heap_alloc_new wr _)) (by simp [Value.oneCell']) (by omega) (by unfold maxLen; omega) (by omega) (by simp) (wr.heap.size + 1) (by simp) ?_; intro gq cq wg hownq hgrow hatq hltq; obtain ⟨bxg, fxg⟩ := AFT.out wg hgrow; have x0 := bxg.cell 0; have x1 := bxg.cell 1; have x2 := bxg.cell 2; have x3 := bxg.cell 3; have x4 := bxg.cell 4; have x5 := bxg.cell 5; have xf := bxg.frozen; have xl := bxg.lt; simp only [List.getElem?_toArray, List.getElem?_cons_zero, List.getElem?_cons_succ] at x0 x1 x2 x3 x4 x5; have HFXG := hide fxg; clear bxg fxg hownq hgrow hatq hltq)
            refine ⟨trivial, (SPO.out _ ((HFXG.out.mono (S' := fun j => (Value.slice A' pp.length c').ownBlock = some j ∨ j = W1.heap.size) fun _ _ h => .inl h).set (fun _ => .inr rfl) _)).mono ?_⟩
            rintro e wx ⟨⟨z, rfl⟩, fx⟩
            have fW : Fr No W wx := HFW3.out.trans' fx fun i hi h => by
              rcases h with h | h
              · have := (HBB.out i h).1
                omega
              · omega
            have bnx : Blk wx g9 3 #[.int .i64 (pre.length : Int)] := (HN2.out.fr HF3.out fun h => h).fr fx (fun h => by
              rcases h with h | h
              · have := (HBB.out _ h).1
                omega
              · omega)
            have b8x := HE.out.b8.fr fW fun h => h
            have bfx := HE.out.bf.fr fW fun h => h
            have n0 := bnx.cell 0
            have nf := bnx.frozen 0
            have r8 := b8x.cell 0
            have bf := bfx.cell 0
            simp only [List.getElem?_toArray, List.getElem?_cons_zero] at n0 r8 bf
            have zn := bnx.lt
            have z8 := b8x.lt
            have zf := bfx.lt
            have h8 := HE.out.b8.lt
            have o5 := HE.out.o5
            have o7 := HE.out.o7
            have o8 := HE.out.o8
            have hne8 : g8 ≠ g9 := by omega
            have hnef : w.heap.size + 1 ≠ g9 := by omega
            have hnb : (pre.length : Int) ≤ 600 := by omega
            have HEND := hide (each_end (x := (pp, uu)) HI.out HFA.out HF2.out HF3.out fx hl HML2.out HLP.out hwl HBB.out hg9)
            clear fW bnx b8x bfx fx x0 x1 x2 x3 x4 x5 xf xl xw xq hpl
            by_cases h0 : rv = 0
            · subst h0
              by_cases hf : (pre.length : Int) + 1 = few
              · have HFF := hide hf
                gi_wp2_with fail
                have he := HEND.out
                rw [HFF.out] at he
                exact ⟨he.1, M, fun _ h _ => h, he.2, rfl, rfl, by have h := HFF.out; simpa using h⟩
              · gi_wp2_with fail
                exact ⟨HEND.out.1, M, fun _ h _ => h, HEND.out.2⟩
            · obtain rfl : rv = 1 := by omega
              gi_wp2_with fail
              exact ⟨HEND.out.1, M, fun _ h _ => h, HEND.out.2⟩
      case done =>
        intro D Wd M' II FM hsub hDge hDK
        have NN : (stepsOf v).length = L.length := by
          rw [← HML.out, List.length_map]
        have fWd : Fr No W Wd := HF0.out.trans' II.fr fun i hi h => by omega
        have EWd := HE.out.no fWd
        have nd := II.n
        rw [NN] at nd
        have n0 := nd.cell 0
        have b7 := EWd.b7.cell 0
        have bf := EWd.bf.cell 0
        have b8 := EWd.b8.cell 0
        simp only [List.getElem?_toArray, List.getElem?_cons_zero] at n0 b7 bf b8
        have q9 := nd.lt
        have q7 := EWd.b7.lt
        have qf := EWd.bf.lt
        have q8 := EWd.b8.lt
        have HFW := hide fWd
        have HDK := hide hDK
        have HGE := hide hDge
        have hDl : D < Wd.heap.size := (Array.getElem?_eq_some_iff.1 hDK).1
        have hs0 := HF0.out.size
        have hsd := fWd.size
        have hsW := HE.out.fr.size
        have ho7 := HE.out.o7
        have ho8 := HE.out.o8
        clear II nd hDK hDge FM hsub EWd fWd
        subst ha0
        go_wp2_with fail
        have f2 : Fr No W (Wd.alloc (.cells #[.int .i64 ((rv : Int) + 1)] 3)) := HFW.out.alloc _
        have bb : Blk (Wd.alloc (.cells #[.int .i64 ((rv : Int) + 1)] 3)) Wd.heap.size 3 #[.int .i64 ((rv : Int) + 1)] := Blk.new Wd 3 _
        have dd : (Wd.alloc (.cells #[.int .i64 ((rv : Int) + 1)] 3)).heap[D]? = some (.deferred (some [])) := (Below.heap_alloc _ _ _ hDl).trans HDK.out
        have hn := each_ds HD.out HND.out f2 (by have := HGE.out; omega) hsW dd
        have hN := HE.out.next f2 (by omega) bb
        have hrv := HRV.out
        generalize ha1 : ({ tmps := _, defers := _ } : Act) = a1
        refine ⟨⟨fun i => a1.tmps.getD i undef, Wd.heap.size, D :: Ds, ?_, by rw [List.length_cons, hrv]; exact hN, by rw [List.length_cons]; omega, hn.1, hn.2⟩, ?_⟩
        · subst ha1
          rfl
        · subst ha1
          simp [dsOf]
          omega
      case stop =>
        intro D c q Wd M' hq hX FM hsub hDge hDK
        obtain rfl := hX.c
        have hr0 := hX.r
        have hf0 := hX.f
        have II := hX.i
        clear hX
        subst hr0
        obtain ⟨nn, NN⟩ : ∃ nn, q.length = nn := ⟨_, rfl⟩
        rw [NN] at hf0
        subst hf0
        have fWd : Fr No W Wd := HF0.out.trans' II.fr fun i hi h => by omega
        have EWd := HE.out.no fWd
        have nd := II.n
        rw [NN] at nd
        have n0 := nd.cell 0
        have b7 := EWd.b7.cell 0
        have bf := EWd.bf.cell 0
        have b8 := EWd.b8.cell 0
        simp only [List.getElem?_toArray, List.getElem?_cons_zero] at n0 b7 bf b8
        have q9 := nd.lt
        have q7 := EWd.b7.lt
        have qf := EWd.bf.lt
        have q8 := EWd.b8.lt
        have HFW := hide fWd
        have HDK := hide hDK
        have HGE := hide hDge
        have hDl : D < Wd.heap.size := (Array.getElem?_eq_some_iff.1 hDK).1
        have hs0 := HF0.out.size
        have hsd := fWd.size
        have hsW := HE.out.fr.size
        have ho7 := HE.out.o7
        have ho8 := HE.out.o8
        clear II nd hDK hDge FM hsub EWd fWd
        subst ha0
        go_wp2_with fail
        all_goals
          have f2 : Fr No W (Wd.alloc (.cells #[.int .i64 (1)] 3)) := HFW.out.alloc _
          have bb : Blk (Wd.alloc (.cells #[.int .i64 (1)] 3)) Wd.heap.size 3 #[.int .i64 (1)] := Blk.new Wd 3 _
          have dd : (Wd.alloc (.cells #[.int .i64 (1)] 3)).heap[D]? = some (.deferred (some [])) := (Below.heap_alloc _ _ _ hDl).trans HDK.out
          have hn := each_ds HD.out HND.out f2 (by have := HGE.out; omega) hsW dd
          have hN := HE.out.next f2 (by omega) bb
          have hrv := HRV.out
          generalize ha1 : ({ tmps := _, defers := _ } : Act) = a1
          refine ⟨⟨fun i => a1.tmps.getD i undef, Wd.heap.size, D :: Ds, ?_, by rw [List.length_cons, hrv]; exact hN, by rw [List.length_cons]; omega, hn.1, hn.2⟩, ?_⟩
          · subst ha1
            rfl
          · subst ha1
            simp [dsOf]
            omega
    · obtain rfl : rv = 2 := by omega
      obtain ⟨D1, D0, rfl⟩ : ∃ D1 D0, Ds = [D1, D0] := by
        have := HRV.out
        rcases Ds with _ | ⟨a, _ | ⟨b, _ | ⟨c, d⟩⟩⟩ <;> simp_all
      have hne : D1 ≠ D0 := by
        have := HND.out
        simp at this
        exact this
      have d1 := HD.out D1 (by simp)
      have d0 := HD.out D0 (by simp)
      have hE := HE.out
      have hdl1 : D1 < W.heap.size := (Array.getElem?_eq_some_iff.1 d1.2).1
      have hdl0 : D0 < W.heap.size := (Array.getElem?_eq_some_iff.1 d0.2).1
      have HKP := hide (kept_any (T.mk k5 n5 s5 A5 cap5 l5 r5) (T.mk k n s A cap l r) W 0 W.heap.size 0 w.heap.size hE.in5 (Nat.le_refl _) hE.mk5 (HT.out.no hE.fr (Nat.le_refl _)) hE.fr.size (HV5.out.trans HV.out.symm))
      have b5 : Blk W g5 27 #[.int .u8 k5, .int .i64 n5, .string s5, .slice A5 l5.length cap5, .int .i64 r5] := hE.b5
      have bv : Blk W w.heap.size 27 #[.int .u8 k, .int .i64 n, .string s, .slice A l.length cap, .int .i64 r] := hE.bv
      obtain ⟨c0, c1, c2, c3, c4, -⟩ := Blk.cells5 b5
      obtain ⟨v0, v1, v2, v3, v4, -⟩ := Blk.cells5 bv
      have q0 := b5.lt
      have q1 := bv.lt
      have HD1 := hide d1
      have HD0 := hide d0
      have HNE := hide hne
      clear hE d1 d0 hne b5 bv
      simp only [dsOf, List.map]
      go_wp2_with fail
      rw [T.val_mk, T.val_mk] at HKP
      refine HKP.out.mono ?_
      rintro e Wx ⟨rfl, fx⟩
      have HFX := hide fx
      clear fx c0 c1 c2 c3 c4 v0 v1 v2 v3 v4 q0 q1
      go_wp2_with fail
      refine (awake_any _).mono ?_
      rintro e wz ⟨rfl, fz⟩
      have f1 := HFX.out.trans fz
      have hR := (HE.out.no f1).br
      have d0 := hR.cell 0
      simp only [List.getElem?_toArray, List.getElem?_cons_zero] at d0
      have df := hR.frozen 0
      have dq := hR.lt
      have HF1 := hide f1
      have HRZ := hide hR
      clear fz f1 hR
      go_wp2_with fail
      have e1' : wz.heap[D1]? = some (.deferred (some [])) := (HF1.out.block D1 hdl1 (fun h => h)).trans HD1.out.2
      have e0' : wz.heap[D0]? = some (.deferred (some [])) := (HF1.out.block D0 hdl0 (fun h => h)).trans HD0.out.2
      have hRne : ∀ (D : Nat), wz.heap[D]? = some (.deferred (some [])) → D ≠ w.heap.size + 1 + 1 := by
        rintro D h1 rfl
        have := HRZ.out
        unfold Blk at this
        rw [this] at h1
        cases h1
      have e1 := (Below.heap_setCell wz ⟨w.heap.size + 1 + 1, 0, none⟩ (.bool true) _ (hRne _ e1')).trans e1'
      have e0 := (Below.heap_setCell wz ⟨w.heap.size + 1 + 1, 0, none⟩ (.bool true) _ (hRne _ e0')).trans e0'
      have hn1 := hRne _ e1'
      have hn0 := hRne _ e0'
      have hbF := HRZ.out.set_ 0 (.bool true)
      have frG : Fr No w (wz.setCell ⟨w.heap.size + 1 + 1, 0, none⟩ (.bool true)) := (HE.out.fr.trans HF1.out).setNew (by simp; omega) _
      generalize World.setCell wz _ _ = wY at *
      have e0'' : (wY.putObj D1 (.deferred none)).heap[D0]? = some (.deferred (some [])) := (World.putObj_heap_other (Ne.symm HNE.out)).trans e0
      have hbG : Blk ((wY.putObj D1 (.deferred none)).putObj D0 (.deferred none)) (w.heap.size + 1 + 1) 4 #[.bool true] := by
        unfold Blk at hbF ⊢
        rw [World.putObj_heap_other (Ne.symm (hn0)), World.putObj_heap_other (Ne.symm (hn1))]
        simpa using hbF
      refine ⟨by simp, .inl ⟨_, _, rfl, run_takeDeferred e1, ⟨by simp, .inl ⟨_, _, rfl, run_takeDeferred e0'', ?_⟩⟩⟩⟩
      have r2 := hbG.cell 0
      simp only [List.getElem?_toArray, List.getElem?_cons_zero] at r2
      refine ⟨.bool true, by simp [results, Try.results8, go_sem, r2], rfl, ?_⟩
      exact (frG.trans' (fr_putObj wY D1 _) (fun i hi h => by have h' : i = D1 := h; have := HD1.out.1; omega)).trans' (fr_putObj _ D0 _) (fun i hi h => by have h' : i = D0 := h; have := HD0.out.1; omega)

end Go.Proofs.Ytihjmipmjogpoaa

/- Two closed facts for the lifts. -/
namespace Go.Proofs.Ytihjmipmjogpoaa
theorem knob0 : ownKnob Try.prog.godebug = none := by kernel_rfl
theorem laidOut0 : laidOutB Try.prog = true := by kernel_rfl
end Go.Proofs.Ytihjmipmjogpoaa

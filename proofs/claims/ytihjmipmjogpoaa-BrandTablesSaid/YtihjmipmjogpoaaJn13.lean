/- Texts joined: Bt4, Bt5, Bt6, D6, Bt15, Bt17, J5. -/
import Derived.Test.YtihjmipmjogpoaaJn12
import Derived.Deep.AppendLies
import Derived.Deep.Upon
import Derived.StillTailTactics
import Derived.Deep.Quiet
import Derived.BigQuiet
import Derived.TacticsIn
import Derived.RangeFuncCalls
/- BrandTables: the document's table: its copy, a drop, a put. -/
namespace Go.Proofs.Ytihjmipmjogpoaa
open Go.RowKit

/-- A cell of a row of one's own, written over. -/
theorem owns_putG {w : World} {base e size g n cap i : Nat} {xs : List Value} {u : Value} (h : w.ownsRow base e size (.slice (some ⟨g, 0, none⟩) n cap) n xs) : (w.setCell ⟨g, i, none⟩ u).ownsRow base e size (.slice (some ⟨g, 0, none⟩) n cap) n (xs.set i u) := by
  refine ⟨by simp [h.1], ?_⟩
  rcases h.2 with ⟨h1, _⟩ | ⟨g', cap', cur, h1, hb, hg, hc, hm, hsz, hx⟩
  · cases h1
  · simp only [Value.slice.injEq, Option.some.injEq, Addr.mk.injEq, and_true, true_and] at h1
    obtain ⟨rfl, rfl⟩ := h1
    refine .inr ⟨g, cap, cur.setIfInBounds i u, rfl, hb, ?_, hc, hm, by simp [hsz], ?_⟩
    · have : Blk (w.setCell ⟨g, i, none⟩ u) g e (cur.setIfInBounds i u) := Blk.set_ hg i u
      exact this
    · rw [← hx, Array.toList_setIfInBounds, List.take_set]

theorem set_at {α : Type} (X Y : List α) (p c q : Nat) (u : α) (hp : X.length = p) (hq : q = p + c) : (X ++ Y).set q u = X ++ Y.set c u := by
  subst hp hq
  rw [List.set_append_right _ _ (by omega), Nat.add_sub_cancel_left]

/-- The value of a row, written over. -/
theorem owns_row_put {w : World} {lo g cap i : Nat} {R : List (T × T)} {a b : T} {k n : Int} {s : ByteArray} {B : Option Addr} {c : Nat} {l : List T} {r : Int} (h : w.ownsRow lo 141 10 (.slice (some ⟨g, 0, none⟩) R.length cap) R.length (prCells R)) (hx : R[i]? = some (a, b)) :
    (((((w.setCell ⟨g, i * 10 + 5, none⟩ (.int .u8 k)).setCell ⟨g, i * 10 + 5 + 1, none⟩ (.int .i64 n)).setCell ⟨g, i * 10 + 5 + 2, none⟩ (.string s)).setCell ⟨g, i * 10 + 5 + 3, none⟩ (.slice B l.length c)).setCell ⟨g, i * 10 + 5 + 4, none⟩ (.int .i64 r)).ownsRow lo 141 10 (.slice (some ⟨g, 0, none⟩) R.length cap) R.length (prCells (R.set i (a, .mk k n s B c l r))) := by
  have h5 := owns_putG (i := i * 10 + 5 + 4) (u := .int .i64 r) (owns_putG (i := i * 10 + 5 + 3) (u := .slice B l.length c) (owns_putG (i := i * 10 + 5 + 2) (u := .string s) (owns_putG (i := i * 10 + 5 + 1) (u := .int .i64 n) (owns_putG (i := i * 10 + 5) (u := .int .u8 k) h))))
  have e : (((((prCells R).set (i * 10 + 5) (.int .u8 k)).set (i * 10 + 5 + 1) (.int .i64 n)).set (i * 10 + 5 + 2) (.string s)).set (i * 10 + 5 + 3) (.slice B l.length c)).set (i * 10 + 5 + 4) (.int .i64 r) = prCells (R.set i (a, .mk k n s B c l r)) := by
    obtain ⟨hi, hxx⟩ := List.getElem?_eq_some_iff.1 hx
    have hR : R = R.take i ++ (a, b) :: R.drop (i + 1) := by rw [← hxx]; simp
    have hl : (R.take i).length = i := by simp; omega
    have hs : R.set i (a, .mk k n s B c l r) = R.take i ++ (a, .mk k n s B c l r) :: R.drop (i + 1) := by
      rw [List.set_eq_take_append_cons_drop, if_pos hi]
    rw [hs]
    generalize R.take i = X at *
    generalize R.drop (i + 1) = Y at *
    subst hR
    have hp : (prCells X).length = i * 10 := by rw [prCells_length, hl]
    obtain ⟨k1, n1, s1, B1, c1, l1, r1⟩ := a
    obtain ⟨k2, n2, s2, B2, c2, l2, r2⟩ := b
    rw [prCells_append, prCells_append]
    rw [set_at _ _ _ 5 _ _ hp (by omega), set_at _ _ _ 6 _ _ hp (by omega), set_at _ _ _ 7 _ _ hp (by omega), set_at _ _ _ 8 _ _ hp (by omega), set_at _ _ _ 9 _ _ hp (by omega)]
    rfl
  rw [e] at h5
  exact h5

set_option maxRecDepth 100000 in
/-- append(rows, other...). -/
theorem run_cat_prs (w : World) (base : Nat) (v : Value) (K L : List (T × T)) (hown : w.ownsRow base 141 10 v K.length (prCells K)) (B : Option Addr) (cap : Nat) (hB : L ≠ [] → ∃ b o, B = some ⟨b, o, none⟩ ∧ ∀ j u, (prCells L)[j]? = some u → w.cell? ⟨b, o + j, none⟩ = some u)
    (hl : K.length + L.length ≤ 2000) (hb : base ≤ w.heap.size) (ty : TypeId) :
    ∃ v' w', (Builtin.append_ #[53, 53] ty #[v, .slice B L.length cap]).run Try.prog w = .ok v' w' ∧ w'.ownsRow base 141 10 v' (K ++ L).length (prCells (K ++ L)) ∧ Fr (fun i => v.ownBlock = some i) w w' ∧ ∀ g, v'.ownBlock = some g → v.ownBlock = some g ∨ w.heap.size ≤ g := by
  obtain ⟨i0, hi0, hz0, hz1, hz2⟩ := info_parts pr_info
  by_cases h0 : L = []
  · subst h0
    obtain ⟨A, c, rfl⟩ := owns_form hown
    refine ⟨_, w, ?_, by simpa using hown, Fr.refl _ _, fun g hg => .inl hg⟩
    cases B with
    | none => exact run_append_nothing (P := Try.prog) w 53 53 ty 141 i0 Try.underlying53 hi0 A _ c (owns_le hown) _ (Src.ofNil w Try.underlying53 cap)
    | some a => exact run_append_nothing (P := Try.prog) w 53 53 ty 141 i0 Try.underlying53 hi0 A _ c (owns_le hown) _ (Src.ofSlice w Try.underlying53 a 0 cap [] (by simp) (by simp) (by simp))
  · obtain ⟨b, o, rfl, hc⟩ := hB h0
    obtain ⟨g, c, w', hrun, hown', hgr, hat, hlt⟩ := run_append_lies (P := Try.prog) w 53 ty base 141 i0 _ 10 128 Try.underlying53 hi0 hz0 hz1 hz2 rfl (by omega) v K.length (prCells K) hown ⟨b, o, none⟩ L.length cap (prCells L) (prCells_length L) (fun j u hu => by rw [add_at]; exact hc j u hu) (prCells_one L) (List.length_pos_iff.2 h0) (by unfold maxLen; omega) (by omega) hb _ rfl
    refine ⟨_, w', hrun, by rw [List.length_append, prCells_append]; exact hown', (Fr.refl _ w).trans' (fr_grown hgr) (fun i hi h => h.symm), fun q hq => ?_⟩
    simp [Value.ownBlock] at hq
    subst hq
    rcases hat with h | h
    · exact .inl h
    · exact .inr (by omega)

set_option maxRecDepth 100000 in
/-- .. for the walk. -/
theorem wpList_cat_prs {ops : Array Oper} {rest : List Oper} {o : Oper} {a : Act} {Q : Exit → Act → World → Prop} (w : World) (hgd : o.guard = none) (s x : Operand)
    (ho : o.op = .call { callee := .builtin .append, args := #[s, x], argTypes := #[53, 53] }) (base : Nat) (v : Value) (hv : a.eval s = v) (K L : List (T × T)) (hown : w.ownsRow base 141 10 v K.length (prCells K))
    (B : Option Addr) (cap : Nat) (hx : a.eval x = .slice B L.length cap) (hB : L ≠ [] → ∃ b o, B = some ⟨b, o, none⟩ ∧ ∀ j u, (prCells L)[j]? = some u → w.cell? ⟨b, o + j, none⟩ = some u) (hl : K.length + L.length ≤ 2000) (hb : base ≤ w.heap.size) (m : Nat) (hm : (K ++ L).length = m)
    (hK : ∀ A' c' w', w'.ownsRow base 141 10 (.slice A' m c') m (prCells (K ++ L)) → Fr (fun i => v.ownBlock = some i) w w' → (∀ g, (Value.slice A' m c').ownBlock = some g → v.ownBlock = some g ∨ w.heap.size ≤ g) → wpList Try.prog ops Q rest (a.put o.dst (.slice A' m c')) w') : wpList Try.prog ops Q (o :: rest) a w := by
  refine wpList_plain hgd fun K' hK' => ?_
  obtain ⟨v', w', hrun, h1, h2, h3⟩ := run_cat_prs w base v K L hown B cap hB hl hb o.type
  rw [hm] at h1
  obtain ⟨A', c', rfl⟩ := owns_form h1
  unfold Oper.wp
  simp [execOp, ho, resolve, invoke, builtin, hv, hx, hrun, Result.andThen]
  exact hK' _ _ (hK A' c' w' h1 h2 h3)

/-- What a call leaves of the document's table. -/
def DRes (w : World) (lo hi0 rb : Nat) (A : Option Addr) (cap : Nat) (R R' : List (T × T)) (w' : World) : Prop :=
  ∃ A' cap', DTab w' lo hi0 rb A' cap' R' ∧ Fr (dBlocks rb A R.length cap) w w' ∧ ∀ i, dBlocks rb A' R'.length cap' i → i < w.heap.size → dBlocks rb A R.length cap i

theorem DTab.cells {w : World} {lo hi0 rb : Nat} {A : Option Addr} {cap : Nat} {R : List (T × T)} (h : DTab w lo hi0 rb A cap R) (hne : R ≠ []) : ∃ g, A = some ⟨g, 0, none⟩ ∧ g < w.heap.size ∧ ∀ j u, (prCells R)[j]? = some u → w.cell? ⟨g, j, none⟩ = some u := by
  obtain ⟨g, c, hv, -⟩ := h.own.form (List.length_pos_iff.2 hne)
  simp only [Value.slice.injEq, true_and] at hv
  obtain ⟨rfl, rfl⟩ := hv
  refine ⟨g, rfl, (owns_lt h.own g rfl).2, fun j u hu => ?_⟩
  have := World.ownsRow.cells h.own (g := g) rfl j u hu
  rwa [add_at, Nat.zero_add] at this

set_option maxRecDepth 100000 in
set_option maxHeartbeats 4000000 in
theorem dcopy_any (R : List (T × T)) (w : World) (lo hi0 rb : Nat) (A : Option Addr) (cap : Nat) (hD : DTab w lo hi0 rb A cap R) (hh : hi0 ≤ w.heap.size) :
    Calls Try.prog 32 #[.pointer (some ⟨rb, 0, none⟩)] w fun e w' => ∃ rb' A' cap', e = .returned (.pointer (some ⟨rb', 0, none⟩)) ∧ DTab w' w.heap.size hi0 rb' A' cap' R ∧ Fr No w w' := by
  have t0 := hD.blk.cell 0
  simp only [List.getElem?_toArray, List.getElem?_cons_zero] at t0
  have tq := hD.blk.lt
  have hlen := hD.len
  have hB : R ≠ [] → ∃ b o, A = some ⟨b, o, none⟩ ∧ ∀ j u, (prCells R)[j]? = some u → w.cell? ⟨b, o + j, none⟩ = some u := fun hne => by
    obtain ⟨g, h1, -, h2⟩ := hD.cells hne
    exact ⟨g, 0, h1, fun j u hu => by rw [Nat.zero_add]; exact h2 j u hu⟩
  have HD := hide hD
  have HB := hide hB
  clear hD hB
  go_enter Try.func32, Try.ntmps32
  go_wp2_with (at_builtin; refine wpList_cat_prs _ (by rfl) _ _ (by rfl) w.heap.size (.slice none 0 0) (by rfl) [] R (World.ownsRow_nil _ _ _ _) A cap (by rfl) HB.out (by simp; omega) (Nat.le_refl _) R.length (by simp) ?_; intro A' c' w1 hown hfr hnew; rw [List.nil_append] at hown; have HO := hide hown; have HF := hide hfr; clear hown hfr hnew)
  go_ret
  have f1 : Fr No w w1 := HF.out.mono fun i _ h => by simp [Value.ownBlock] at h
  have f2 := f1.alloc (.cells #[.slice A' R.length c'] 55)
  have hs := f1.size
  refine ⟨_, A', c', rfl, ⟨Blk.new w1 55 _, owns_fr HO.out ((Fr.refl No w1).alloc _) (fun _ _ h => h), fun x hx => ⟨((HD.out.inn x hx).1).no f2 hh, ((HD.out.inn x hx).2).no f2 hh⟩, hs, hlen⟩, f2⟩

end Go.Proofs.Ytihjmipmjogpoaa

/- BrandTables: the document's table: Drop, Put. -/
namespace Go.Proofs.Ytihjmipmjogpoaa
open Go.RowKit

/-- What Drop answers. -/
def DDrop (u : V) (R R' : List (T × T)) (had : Bool) : Prop := (∃ (i : Nat) (x : T × T), R[i]? = some x ∧ x.1.v = u ∧ R' = R.eraseIdx i ∧ had = true) ∨ ((∀ x ∈ R, x.1.v ≠ u) ∧ R' = R ∧ had = false)

/-- What Put answers. -/
def DPut (k v : T) (R R' : List (T × T)) (t : T) (had : Bool) : Prop := (∃ (i : Nat) (x : T × T), R[i]? = some x ∧ x.1.v = k.v ∧ t = x.2 ∧ R' = R.set i (x.1, v) ∧ had = true) ∨ ((∀ x ∈ R, x.1.v ≠ k.v) ∧ t = T.zero ∧ R' = R ++ [(k, v)] ∧ had = false)

set_option maxRecDepth 100000 in
set_option maxHeartbeats 4000000 in
theorem ddrop_any (key : T) (R : List (T × T)) (w : World) (klo khi lo hi0 rb : Nat) (A : Option Addr) (cap : Nat) (hk : key.In w klo khi) (hkh : khi ≤ w.heap.size) (hD : DTab w lo hi0 rb A cap R) (hh : hi0 ≤ lo) (hlw : lo ≤ w.heap.size) :
    Calls Try.prog 99 #[.pointer (some ⟨rb, 0, none⟩), key.val] w fun e w' => ∃ R' had, e = .returned (.bool had) ∧ DDrop key.v R R' had ∧ DRes w lo hi0 rb A cap R R' w' := by
  have hat := fun w' (f : Fr No w w') => dat_any key R w' klo khi lo hi0 rb A cap (hk.no f hkh) (Nat.le_trans hkh f.size) (hD.no f (by omega)) (by have := f.size; omega)
  have hlen := hD.len
  cases key with
  | mk k n s B c l r =>
    rw [T.val_mk] at *
    generalize hu : (T.mk k n s B c l r).v = u at *
    have f1 := (Fr.refl No w).alloc (.cells #[.int .u8 k, .int .i64 n, .string s, .slice B l.length c, .int .i64 r] 27)
    have hat1 := hat _ f1
    have HAT := hide hat1
    have HDT := hide hD
    have HF1 := hide f1
    have HLW := hide hlw
    clear hat hat1 hu hk hD f1 hlw
    go_enter Try.func99, Try.ntmps99
    go_wp2_with fail
    generalize World.alloc w _ = w1 at *
    refine HAT.out.mono ?_
    rintro e w2 ⟨⟨q, rfl, hq⟩, f2⟩
    have fw := HF1.out.trans f2
    have D := HDT.out.no fw (by have := HLW.out; omega)
    have t0 := D.blk.cell 0
    simp only [List.getElem?_toArray, List.getElem?_cons_zero] at t0
    have tq := D.blk.lt
    have HW := hide fw
    have HD2 := hide D
    rcases hq with ⟨i, x, rfl, hx, hu⟩ | ⟨rfl, hn⟩
    · have hi := (List.getElem?_eq_some_iff.1 hx).1
      obtain ⟨g, rfl, hg, hc⟩ := D.cells (by rintro rfl; simp at hi)
      have hic : R.length ≤ cap := owns_le D.own
      have HX := hide hx
      have HU := hide hu
      have h1 : R.take i ≠ [] → ∃ b o, (some ⟨g, 0, none⟩ : Option Addr) = some ⟨b, o, none⟩ ∧ ∀ j u, (prCells (R.take i))[j]? = some u → w2.cell? ⟨b, o + j, none⟩ = some u := fun _ => ⟨g, 0, rfl, fun j u hu => by
        rw [Nat.zero_add]
        refine hc j u ?_
        have hj := (List.getElem?_eq_some_iff.1 hu).1
        have e := congrArg prCells (List.take_append_drop i R)
        rw [prCells_append] at e
        rw [← e, List.getElem?_append_left hj]
        exact hu⟩
      have h2 : ∀ w3 : World, (∀ o, w3.cell? ⟨g, o, none⟩ = w2.cell? ⟨g, o, none⟩) → R.drop (i + 1) ≠ [] → ∃ b o, (some ⟨g, (i + 1) * 10, none⟩ : Option Addr) = some ⟨b, o, none⟩ ∧ ∀ j u, (prCells (R.drop (i + 1)))[j]? = some u → w3.cell? ⟨b, o + j, none⟩ = some u := fun w3 h3 _ => ⟨g, (i + 1) * 10, rfl, fun j u hu => by
        rw [h3]
        refine hc _ u ?_
        have e := congrArg prCells (List.take_append_drop (i + 1) R)
        rw [prCells_append] at e
        have hl : (prCells (R.take (i + 1))).length = (i + 1) * 10 := by rw [prCells_length]; simp; omega
        rw [← e, List.getElem?_append_right (by omega), hl, Nat.add_sub_cancel_left]
        exact hu⟩
      have H1 := hide h1
      have H2 := hide h2
      have htl : (R.take i).length = i := by simp; omega
      have hdl : (R.drop (i + 1)).length = R.length - (i + 1) := by simp
      have hib : (i : Int) ≤ 1000 := by omega
      have hilt : (i : Int) < (R.length : Int) := by omega
      clear f2 fw D hx hu HAT h1 h2 HF1 hc HDT
      by_cases hce : cap = i + 1
      · subst hce
        go_wp2_with (at_builtin; first
          | (refine wpList_cat_prs _ (by rfl) _ _ (by rfl) w2.heap.size (.slice none 0 0) (by rfl) [] (R.take i) (World.ownsRow_nil _ _ _ _) (some ⟨g, 0, none⟩) (i + 1) (by rw [htl]; rfl) H1.out (by simp; omega) (Nat.le_refl _) i (by simp; omega) ?_; intro A3 c3 w3 hown hfr hnew; rw [List.nil_append] at hown; have f3 : Fr No w2 w3 := hfr.mono (fun i _ h => by simp [Value.ownBlock] at h); have b3 := HD2.out.blk.fr f3 (fun h => h); have y0 := b3.cell 0; simp only [List.getElem?_toArray, List.getElem?_cons_zero] at y0; have yl := b3.lt; have HO3 := hide hown; have HF3 := hide f3; have HB3 := hide b3; have hs3 := f3.size; clear hown hfr hnew f3 b3)
          | go_loud (refine wpList_cat_prs _ (by rfl) _ _ (by rfl) w2.heap.size (.slice A3 i c3) (by rfl) (R.take i) (R.drop (i + 1)) (by rw [htl]; exact HO3.out) (some ⟨g, 0, none⟩) 0 (by rw [hdl, show R.length - (i + 1) = 0 by omega]; rfl) (fun h => absurd (List.drop_eq_nil_of_le (by omega)) h) (by rw [htl, hdl]; omega) hs3 i (by rw [List.length_append, htl, hdl]; omega) ?_; intro A4 c4 w4 hown hfr hnew; have HO4 := hide hown; have HF4 := hide hfr; have HN4 := hide hnew; have b4 := HB3.out.fr hfr (fun h => by have := (owns_lt HO3.out rb h).1; omega); have z0 := b4.cell 0; have zf := b4.frozen 0; simp only [List.getElem?_toArray, List.getElem?_cons_zero] at z0; have zl := b4.lt; have HB4 := hide b4; clear hown hfr hnew b4))
        go_ret
        have hsub : R.take i ++ R.drop (i + 1) = R.eraseIdx i := (List.eraseIdx_eq_take_drop_succ R i).symm
        have hln : (R.eraseIdx i).length = i := by rw [← hsub, List.length_append, htl, hdl]; omega
        have hs0 := HW.out.size
        have hrb := HD2.out.rb0
        have fb := (Fr.refl (fun i => i = rb) w4).set (p := ⟨rb, 0, none⟩) (fun _ => rfl) (.slice A4 i c4)
        have F : Fr (fun i => i = rb) w (w4.setCell ⟨rb, 0, none⟩ (.slice A4 i c4)) := (((HW.out.trans HF3.out).no).trans' HF4.out (fun q hq h => by have := (owns_lt HO3.out q h).1; omega)).trans fb
        have hA4 : ∀ q, (Value.slice A4 i c4).ownBlock = some q → w2.heap.size ≤ q := fun q hq => (owns_lt HO4.out q hq).1
        have hlw := HLW.out
        refine ⟨R.eraseIdx i, true, rfl, .inl ⟨i, x, HX.out, HU.out, rfl, rfl⟩, A4, c4, ⟨?_, ?_, fun y hy => ?_, hrb, by rw [hln]; omega⟩, F.mono (S' := dBlocks rb (some ⟨g, 0, none⟩) R.length _) (fun q _ h => Or.inl h), fun q hq hlt => ?_⟩
        · rw [hln]
          have := HB4.out.set_ 0 (.slice A4 i c4)
          simpa using this
        · rw [hln, ← hsub]
          refine owns_mono (owns_fr HO4.out fb (fun q hq h => ?_)) (by omega)
          have := hA4 q hq
          have h' : q = rb := h
          omega
        · have hm := HD2.out.inn y (List.mem_of_mem_eraseIdx hy)
          have F2 : Fr (fun i => lo ≤ i) w2 (w4.setCell ⟨rb, 0, none⟩ (.slice A4 i c4)) := ((HF3.out.no).trans' HF4.out (fun q hq h => by have := (owns_lt HO3.out q h).1; omega)).trans' fb (fun q _ h => by have h' : q = rb := h; omega)
          exact ⟨hm.1.fr F2 (by omega) (fun q _ h1 h2 => by omega), hm.2.fr F2 (by omega) (fun q _ h1 h2 => by omega)⟩
        · rw [hln] at hq
          rcases hq with h | h
          · exact .inl h
          · have := hA4 q h
            omega
      · go_wp2_with (at_builtin; first
          | (refine wpList_cat_prs _ (by rfl) _ _ (by rfl) w2.heap.size (.slice none 0 0) (by rfl) [] (R.take i) (World.ownsRow_nil _ _ _ _) (some ⟨g, 0, none⟩) cap (by rw [htl]; rfl) H1.out (by simp; omega) (Nat.le_refl _) i (by simp; omega) ?_; intro A3 c3 w3 hown hfr hnew; rw [List.nil_append] at hown; have f3 : Fr No w2 w3 := hfr.mono (fun i _ h => by simp [Value.ownBlock] at h); have b3 := HD2.out.blk.fr f3 (fun h => h); have y0 := b3.cell 0; simp only [List.getElem?_toArray, List.getElem?_cons_zero] at y0; have yl := b3.lt; have HO3 := hide hown; have HF3 := hide f3; have HB3 := hide b3; have hs3 := f3.size; clear hown hfr hnew f3 b3)
          | go_loud (refine wpList_cat_prs _ (by rfl) _ _ (by rfl) w2.heap.size (.slice A3 i c3) (by rfl) (R.take i) (R.drop (i + 1)) (by rw [htl]; exact HO3.out) (some ⟨g, (i + 1) * 10, none⟩) (cap - (i + 1)) (by rw [hdl]; rfl) (H2.out _ fun o => HF3.out.cell (by omega) (fun h => h)) (by rw [htl, hdl]; omega) hs3 (i + (R.length - (i + 1))) (by rw [List.length_append, htl, hdl]) ?_; intro A4 c4 w4 hown hfr hnew; have HO4 := hide hown; have HF4 := hide hfr; have HN4 := hide hnew; have b4 := HB3.out.fr hfr (fun h => by have := (owns_lt HO3.out rb h).1; omega); have z0 := b4.cell 0; have zf := b4.frozen 0; simp only [List.getElem?_toArray, List.getElem?_cons_zero] at z0; have zl := b4.lt; have HB4 := hide b4; clear hown hfr hnew b4))
        go_ret
        have hsub : R.take i ++ R.drop (i + 1) = R.eraseIdx i := (List.eraseIdx_eq_take_drop_succ R i).symm
        have hln : (R.eraseIdx i).length = i + (R.length - (i + 1)) := by rw [← hsub, List.length_append, htl, hdl]
        have hs0 := HW.out.size
        have hrb := HD2.out.rb0
        have fb := (Fr.refl (fun i => i = rb) w4).set (p := ⟨rb, 0, none⟩) (fun _ => rfl) (.slice A4 (i + (R.length - (i + 1))) c4)
        have F : Fr (fun i => i = rb) w (w4.setCell ⟨rb, 0, none⟩ (.slice A4 (i + (R.length - (i + 1))) c4)) := (((HW.out.trans HF3.out).no).trans' HF4.out (fun q hq h => by have := (owns_lt HO3.out q h).1; omega)).trans fb
        have hA4 : ∀ q, (Value.slice A4 (i + (R.length - (i + 1))) c4).ownBlock = some q → w2.heap.size ≤ q := fun q hq => (owns_lt HO4.out q hq).1
        have hlw := HLW.out
        refine ⟨R.eraseIdx i, true, rfl, .inl ⟨i, x, HX.out, HU.out, rfl, rfl⟩, A4, c4, ⟨?_, ?_, fun y hy => ?_, hrb, by rw [hln]; omega⟩, F.mono (S' := dBlocks rb (some ⟨g, 0, none⟩) R.length _) (fun q _ h => Or.inl h), fun q hq hlt => ?_⟩
        · rw [hln]
          have := HB4.out.set_ 0 (.slice A4 (i + (R.length - (i + 1))) c4)
          simpa using this
        · rw [hln, ← hsub]
          refine owns_mono (owns_fr HO4.out fb (fun q hq h => ?_)) (by omega)
          have := hA4 q hq
          have h' : q = rb := h
          omega
        · have hm := HD2.out.inn y (List.mem_of_mem_eraseIdx hy)
          have F2 : Fr (fun i => lo ≤ i) w2 (w4.setCell ⟨rb, 0, none⟩ (.slice A4 (i + (R.length - (i + 1))) c4)) := ((HF3.out.no).trans' HF4.out (fun q hq h => by have := (owns_lt HO3.out q h).1; omega)).trans' fb (fun q _ h => by have h' : q = rb := h; omega)
          exact ⟨hm.1.fr F2 (by omega) (fun q _ h1 h2 => by omega), hm.2.fr F2 (by omega) (fun q _ h1 h2 => by omega)⟩
        · rw [hln] at hq
          rcases hq with h | h
          · exact .inl h
          · have := hA4 q h
            omega
    · have HN := hide hn
      clear f2 fw D hn HAT HDT HF1
      go_wp2
      go_ret
      exact ⟨R, false, rfl, .inr ⟨HN.out, rfl, rfl⟩, A, cap, HD2.out, HW.out.no, fun i h _ => h⟩

end Go.Proofs.Ytihjmipmjogpoaa

/- BrandTables: the document's table: Put. -/
namespace Go.Proofs.Ytihjmipmjogpoaa
open Go.RowKit

theorem own_ne_rb {w : World} {lo hi0 rb : Nat} {A : Option Addr} {cap : Nat} {R : List (T × T)} (D : DTab w lo hi0 rb A cap R) : (Value.slice A R.length cap).ownBlock ≠ some rb := fun h => by
  rcases D.own.2 with ⟨h1, h2⟩ | ⟨g, cp, cur, h1, hb, hg, hc, hm, hsz, hcur⟩
  · rw [h1] at h; cases h
  · rw [h1] at h
    simp [Value.ownBlock] at h
    subst h
    exact Blk.ne_ D.blk (show Blk w g 141 cur from hg) (by decide) rfl

/-- A row more. -/
theorem dput_new {w w2 w3 : World} {lo hi0 rb g cp H z : Nat} {A : Option Addr} {cap : Nat} {R : List (T × T)} {key val : T} {x0 x1 x2 x3 x4 : Value} (D0 : DTab w lo hi0 rb A cap R) (fw : Fr No w w2) (hh : hi0 ≤ lo) (hlw : lo ≤ w.heap.size) (hk : key.In w 0 hi0) (hv : val.In w 0 hi0) (hle : R.length < 1000)
    (hown : w3.ownsRow lo 141 10 (.slice (some ⟨g, 0, none⟩) (R.length + 1) cp) (R.length + 1) (prCells R ++ (key.cells ++ val.cells))) (fz : Fr (fun i => (Value.slice A R.length cap).ownBlock = some i) w2 w3) (hat : (Value.slice A R.length cap).ownBlock = some g ∨ g = H) (hH : z < H) (hz : w.heap.size ≤ z) :
    DRes w lo hi0 rb A cap R (R ++ [(key, val)]) ((((((w3.setCell ⟨rb, 0, none⟩ (.slice (some ⟨g, 0, none⟩) (R.length + 1) cp)).setCell ⟨z, 0, none⟩ x0).setCell ⟨z, 0 + 1, none⟩ x1).setCell ⟨z, 0 + 2, none⟩ x2).setCell ⟨z, 0 + 3, none⟩ x3).setCell ⟨z, 0 + 4, none⟩ x4) := by
  have D := D0.no fw (by omega)
  have hrl := D0.blk.lt
  have hrb := D0.rb0
  have hne := own_ne_rb D
  have hol : ∀ q, (Value.slice A R.length cap).ownBlock = some q → lo ≤ q ∧ q < w.heap.size := owns_lt D0.own
  have hg : g ≠ z := by
    rcases hat with h | h
    · have := hol g h; omega
    · omega
  have hgr : g ≠ rb := by
    rintro rfl
    rcases hat with h | h
    · exact hne h
    · omega
  have hs2 := fw.size
  have f5 := ((Fr.refl (fun i => i = rb ∨ i = z) w3).set (p := ⟨rb, 0, none⟩) (fun _ => .inl rfl) (.slice (some ⟨g, 0, none⟩) (R.length + 1) cp)).five (g := z) (fun _ => .inr rfl) 0 x0 x1 x2 x3 x4
  have F : Fr (dBlocks rb A R.length cap) w ((((((w3.setCell ⟨rb, 0, none⟩ (.slice (some ⟨g, 0, none⟩) (R.length + 1) cp)).setCell ⟨z, 0, none⟩ x0).setCell ⟨z, 0 + 1, none⟩ x1).setCell ⟨z, 0 + 2, none⟩ x2).setCell ⟨z, 0 + 3, none⟩ x3).setCell ⟨z, 0 + 4, none⟩ x4) :=
    (((fw.no).trans' fz (fun _ _ h => .inr h)).trans' f5 (fun q hq h => by
      rcases h with rfl | rfl
      · exact .inl rfl
      · omega))
  refine ⟨some ⟨g, 0, none⟩, cp, ⟨?_, ?_, fun x hx => ?_, hrb, by simp; omega⟩, F, fun i hi hlt => ?_⟩
  · have b3 := D.blk.fr fz hne
    have b4 := b3.set_ 0 (.slice (some ⟨g, 0, none⟩) (R.length + 1) cp)
    have fz5 := (Fr.refl (fun i => i = z) (w3.setCell ⟨rb, 0, none⟩ (.slice (some ⟨g, 0, none⟩) (R.length + 1) cp))).five (g := z) (fun _ => rfl) 0 x0 x1 x2 x3 x4
    have b5 := b4.fr fz5 (fun h => by have h' : rb = z := h; omega)
    simpa using b5
  · have h := owns_fr hown f5 (fun q hq h => by
      simp [Value.ownBlock] at hq
      subst hq
      rcases h with h | h
      · exact hgr h
      · exact hg h)
    have e : prCells (R ++ [(key, val)]) = prCells R ++ (key.cells ++ val.cells) := by rw [prCells_append]; simp [prCells]
    have el : (R ++ [(key, val)]).length = R.length + 1 := by simp
    rw [e, el]
    exact h
  · have FF := F.mono (S' := fun i => lo ≤ i) (fun q _ h => by
      rcases h with rfl | h
      · exact hrb
      · exact (hol q h).1)
    have hm : x.1.In w 0 hi0 ∧ x.2.In w 0 hi0 := by
      rcases List.mem_append.1 hx with h | h
      · exact D0.inn x h
      · simp at h; subst h; exact ⟨hk, hv⟩
    exact ⟨hm.1.fr FF (by omega) (fun q _ h1 h2 => by omega), hm.2.fr FF (by omega) (fun q _ h1 h2 => by omega)⟩
  · rcases hi with h | h
    · exact .inl h
    · simp [Value.ownBlock] at h
      subst h
      rcases hat with h' | h'
      · exact .inr h'
      · omega

set_option maxRecDepth 100000 in
set_option maxHeartbeats 8000000 in
theorem dput_any (key val : T) (R : List (T × T)) (w : World) (lo hi0 rb : Nat) (A : Option Addr) (cap : Nat) (hk : key.In w 0 hi0) (hv : val.In w 0 hi0) (hD : DTab w lo hi0 rb A cap R) (hh : hi0 ≤ lo) (hlw : lo ≤ w.heap.size) (hle : R.length < 1000) :
    Calls Try.prog 97 #[.pointer (some ⟨rb, 0, none⟩), key.val, val.val] w fun e w' => ∃ old R' had, e = .returned (.tuple #[old.val, .bool had]) ∧ DPut key val R R' old had ∧ DRes w lo hi0 rb A cap R R' w' := by
  have hat := fun w' (f : Fr No w w') => dat_any key R w' 0 hi0 lo hi0 rb A cap (hk.no f (by omega)) (by have := f.size; omega) (hD.no f (by omega)) (by have := f.size; omega)
  have hlen := hD.len
  obtain ⟨i0, hi0', hz0, hz1, hz2⟩ := info_parts pr_info
  have HK := hide hk
  have HVI := hide hv
  cases key with
  | mk k n s B c l r =>
  cases val with
  | mk k1 n1 s1 B1 c1 l1 r1 =>
    rw [T.val_mk] at hat
    rw [T.val_mk, T.val_mk]
    generalize hu : (T.mk k n s B c l r).v = u at *
    have f1 := (((Fr.refl No w).alloc (.cells #[.int .u8 k, .int .i64 n, .string s, .slice B l.length c, .int .i64 r] 27)).alloc (.cells #[.int .u8 k1, .int .i64 n1, .string s1, .slice B1 l1.length c1, .int .i64 r1] 27)).alloc (.cells #[.int .u8 0, .int .i64 0, .string ⟨#[]⟩, .slice none 0 0, .int .i64 0] 27)
    have bk : Blk (((w.alloc (.cells #[.int .u8 k, .int .i64 n, .string s, .slice B l.length c, .int .i64 r] 27)).alloc (.cells #[.int .u8 k1, .int .i64 n1, .string s1, .slice B1 l1.length c1, .int .i64 r1] 27)).alloc (.cells #[.int .u8 0, .int .i64 0, .string ⟨#[]⟩, .slice none 0 0, .int .i64 0] 27)) w.heap.size 27 #[.int .u8 k, .int .i64 n, .string s, .slice B l.length c, .int .i64 r] := ((Blk.new' w 27 _ rfl).alloc _).alloc _
    have bv : Blk (((w.alloc (.cells #[.int .u8 k, .int .i64 n, .string s, .slice B l.length c, .int .i64 r] 27)).alloc (.cells #[.int .u8 k1, .int .i64 n1, .string s1, .slice B1 l1.length c1, .int .i64 r1] 27)).alloc (.cells #[.int .u8 0, .int .i64 0, .string ⟨#[]⟩, .slice none 0 0, .int .i64 0] 27)) (w.heap.size + 1) 27 #[.int .u8 k1, .int .i64 n1, .string s1, .slice B1 l1.length c1, .int .i64 r1] := (Blk.new' (w.alloc _) 27 _ (by simp)).alloc _
    have bz : Blk (((w.alloc (.cells #[.int .u8 k, .int .i64 n, .string s, .slice B l.length c, .int .i64 r] 27)).alloc (.cells #[.int .u8 k1, .int .i64 n1, .string s1, .slice B1 l1.length c1, .int .i64 r1] 27)).alloc (.cells #[.int .u8 0, .int .i64 0, .string ⟨#[]⟩, .slice none 0 0, .int .i64 0] 27)) (w.heap.size + 1 + 1) 27 #[.int .u8 0, .int .i64 0, .string ⟨#[]⟩, .slice none 0 0, .int .i64 0] := Blk.new' ((w.alloc _).alloc _) 27 _ (by simp)
    have hat1 := hat _ f1
    have HAT := hide hat1
    have HDT := hide hD
    have HF1 := hide f1
    have HBK := hide bk
    have HBV := hide bv
    have HBZ := hide bz
    have HLW := hide hlw
    have HUU := hide hu
    clear hat hat1 hu hk hv hD f1 bk bv bz hlw
    go_enter Try.func97, Try.ntmps97
    go_wp2_with fail
    generalize World.alloc (World.alloc (World.alloc w _) _) _ = w1 at *
    refine HAT.out.mono ?_
    rintro e w2 ⟨⟨q, rfl, hq⟩, f2⟩
    have fw := HF1.out.trans f2
    have D := HDT.out.no fw (by have := HLW.out; omega)
    have t0 := D.blk.cell 0
    simp only [List.getElem?_toArray, List.getElem?_cons_zero] at t0
    have tf := D.blk.frozen 0
    have tq := D.blk.lt
    have bk2 := HBK.out.fr f2 (fun h => h)
    have bv2 := HBV.out.fr f2 (fun h => h)
    have bz2 := HBZ.out.fr f2 (fun h => h)
    obtain ⟨v0, v1, v2, v3, v4, vf⟩ := bv2.cells5
    have vl := bv2.lt
    obtain ⟨x0, x1, x2, x3, x4, xf⟩ := bz2.cells5
    have xl := bz2.lt
    have HW := hide fw
    have HD2 := hide D
    have hrb := D.rb0
    have hlw := HLW.out
    rcases hq with ⟨i, ⟨a, b⟩, rfl, hx, hu⟩ | ⟨rfl, hn⟩
    · have hi := (List.getElem?_eq_some_iff.1 hx).1
      obtain ⟨k3, n3, s3, B3, c3, l3, r3⟩ := a
      obtain ⟨k2, n2, s2, B2, c2, l2, r2⟩ := b
      obtain ⟨g, rfl, hgl, gl, -, ⟨e0, e1, e2, e3, e4⟩, ef⟩ := D.row hx
      have hib : (i : Int) ≤ 1000 := by omega
      have HX := hide hx
      have HU := hide hu
      have HZ := hide bz2
      have hgr : ∀ q, g = q → lo ≤ q := fun q h => h ▸ hgl
      have HBV2 := hide bv2
      have HDW := HDT
      have hgw : g < w.heap.size := (owns_lt HDT.out.own g rfl).2
      clear f2 fw D hx hu HAT HDT HF1 HBZ HBK HBV bk2 bv2 bz2
      go_wp2_with fail
      have fa := (Fr.refl No w2).alloc (.cells #[.int .u8 k2, .int .i64 n2, .string s2, .slice B2 l2.length c2, .int .i64 r2] 27)
      have D3 := HD2.out.no fa (by have := HW.out.size; omega)
      have bo := Blk.new w2 27 #[.int .u8 k2, .int .i64 n2, .string s2, .slice B2 l2.length c2, .int .i64 r2]
      have bv3 := HBV2.out.fr fa (fun h => h)
      have bz3 := HZ.out.fr fa (fun h => h)
      clear t0 tf tq v0 v1 v2 v3 v4 vf vl x0 x1 x2 x3 x4 xf xl e0 e1 e2 e3 e4 ef
      have t0 := D3.blk.cell 0
      simp only [List.getElem?_toArray, List.getElem?_cons_zero] at t0
      have tq := D3.blk.lt
      obtain ⟨v0, v1, v2, v3, v4, vf⟩ := bv3.cells5
      have vl := bv3.lt
      obtain ⟨g', hg', -, gl', -, ⟨e0, e1, e2, e3, e4⟩, ef⟩ := D3.row HX.out
      obtain rfl : g = g' := by simpa using hg'
      have HFA := hide fa
      have HD3 := hide D3
      have HBO := hide bo
      have HBZ3 := hide bz3
      have hoz : w2.heap.size ≠ g := by omega
      clear fa D3 bo bv3 bz3 hg'
      have hw2l : w2.heap.size < (w2.alloc (.cells #[.int .u8 k2, .int .i64 n2, .string s2, .slice B2 l2.length c2, .int .i64 r2] 27)).heap.size := by simp
      generalize World.alloc w2 _ = w3 at *
      go_still_tail 8, (by kernel_rfl)
      change wpList _ _ _ _ _ w3.drew
      have fd := (Fr.refl No w3).drew
      generalize w3.drew = w4 at fd ⊢
      have D4 := HD3.out.no fd (by have := HW.out.size; have := HFA.out.size; omega)
      have bo4 := HBO.out.fr fd (fun h => h)
      have bz4 := HBZ3.out.fr fd (fun h => h)
      clear t0 tq v0 v1 v2 v3 v4 vf vl e0 e1 e2 e3 e4 ef
      obtain ⟨g', hg', -, gl4, -, ⟨e0, e1, e2, e3, e4⟩, ef⟩ := D4.row HX.out
      obtain rfl : g = g' := by simpa using hg'
      obtain ⟨o0, o1, o2, o3, o4, of_⟩ := bo4.cells5
      obtain ⟨x0, x1, x2, x3, x4, xf⟩ := bz4.cells5
      have ol := bo4.lt
      have xl := bz4.lt
      have hzg : w.heap.size + 1 + 1 ≠ g := by omega
      have hrg : g ≠ rb := fun h => by
        rcases D4.own.2 with ⟨h1, h2⟩ | ⟨g', cp, cur, h1, hb, hg, hc, hm, hsz, hcur⟩
        · cases h1
        · simp at h1
          obtain ⟨rfl, -⟩ := h1
          subst h
          exact Blk.ne_ D4.blk (show Blk w4 g 141 cur from hg) (by decide) rfl
      have HD4 := hide D4
      have HFD := hide fd
      clear fd D4 bo4 bz4 hg' HD3 HBO HBZ3
      go_wp2_with fail
      refine bodyPost_ret (v := .tuple #[.agg #[.int .u8 k2, .int .i64 n2, .string s2, .slice B2 l2.length c2, .int .i64 r2], .bool true]) (by simp [results, Try.results97, go_sem, *]) rfl ?_
      have fz := fun W : World => (Fr.refl (fun i => i = w.heap.size + 1 + 1) W).five (g := w.heap.size + 1 + 1) (fun _ => rfl) 0 (.int .u8 k2) (.int .i64 n2) (.string s2) (.slice B2 l2.length c2) (.int .i64 r2)
      have f5 := (Fr.refl (fun i => i = g) w4).five (g := g) (fun _ => rfl) (i * 10 + 5) (.int .u8 k1) (.int .i64 n1) (.string s1) (.slice B1 l1.length c1) (.int .i64 r1)
      have O5 := owns_row_put (k := k1) (n := n1) (s := s1) (B := B1) (c := c1) (l := l1) (r := r1) HD4.out.own HX.out
      have b5 := HD4.out.blk.fr f5 (fun h => hrg h.symm)
      have F4 := (HW.out.trans HFA.out).trans HFD.out
      have F5 := (F4.no).trans f5
      refine ⟨T.mk k2 n2 s2 B2 c2 l2 r2, R.set i (T.mk k3 n3 s3 B3 c3 l3 r3, T.mk k1 n1 s1 B1 c1 l1 r1), true, rfl, .inl ⟨i, _, HX.out, HU.out.trans HUU.out.symm, rfl, rfl, rfl⟩, some ⟨g, 0, none⟩, cap, ⟨?_, ?_, fun y hy => ?_, hrb, by rw [List.length_set]; exact hlen⟩, ?_, fun q hq hlt => ?_⟩
      · rw [List.length_set]
        exact b5.fr (fz _) (fun h => by have h' : rb = w.heap.size + 1 + 1 := h; have := HDW.out.blk.lt; omega)
      · rw [List.length_set]
        exact owns_fr O5 (fz _) (fun q hq h => by simp [Value.ownBlock] at hq; have h' : q = w.heap.size + 1 + 1 := h; omega)
      · have hm : y.1.In w 0 hi0 ∧ y.2.In w 0 hi0 := by
          rcases List.mem_or_eq_of_mem_set hy with h | rfl
          · exact HDW.out.inn y h
          · exact ⟨(HDW.out.inn _ (List.mem_of_getElem? HX.out)).1, HVI.out⟩
        have FF := (F5.mono (S' := fun i => lo ≤ i) (fun q _ h => by have h' : q = g := h; omega)).trans' (fz _) (fun q hq h => by have h' : q = w.heap.size + 1 + 1 := h; omega)
        exact ⟨hm.1.fr FF (by omega) (fun q _ h1 h2 => by omega), hm.2.fr FF (by omega) (fun q _ h1 h2 => by omega)⟩
      · exact (F5.mono (S' := dBlocks rb (some ⟨g, 0, none⟩) R.length cap) (fun q _ h => Or.inr (by have h' : q = g := h; simp [Value.ownBlock, h']))).trans' (fz _) (fun q hq h => by have h' : q = w.heap.size + 1 + 1 := h; omega)
      · rw [List.length_set] at hq
        exact hq
    · obtain ⟨y0, y1, y2, y3, y4, yf⟩ := bk2.cells5
      have yl := bk2.lt
      have HN := hide hn
      have hownA := (owns_fr D.own ((Fr.refl No w2).drew) (fun _ _ h => h)).alloc (.cells #[.int .u8 k, .int .i64 n, .string s, .slice B l.length c, .int .i64 r, .int .u8 k1, .int .i64 n1, .string s1, .slice B1 l1.length c1, .int .i64 r1] 141)
      have fd := ((Fr.refl No w2).drew).alloc (.cells #[.int .u8 k, .int .i64 n, .string s, .slice B l.length c, .int .i64 r, .int .u8 k1, .int .i64 n1, .string s1, .slice B1 l1.length c1, .int .i64 r1] 141)
      have hrbA := own_ne_rb D
      have AFT : Hid (∀ w3, (w2.drew.alloc (.cells #[.int .u8 k, .int .i64 n, .string s, .slice B l.length c, .int .i64 r, .int .u8 k1, .int .i64 n1, .string s1, .slice B1 l1.length c1, .int .i64 r1] 141)).grownBy w3 (Value.slice A R.length cap).ownBlock → Blk w3 rb 55 #[.slice A R.length cap] ∧ Blk w3 (w.heap.size + 1 + 1) 27 #[.int .u8 0, .int .i64 0, .string ⟨#[]⟩, .slice none 0 0, .int .i64 0] ∧ Fr (fun i => (Value.slice A R.length cap).ownBlock = some i) w2 w3) := by
        refine hide fun w3 hg => ?_
        have f : Fr (fun i => (Value.slice A R.length cap).ownBlock = some i) w2 w3 := (fd.no).trans' (fr_grown hg) (fun i _ h => h.symm)
        refine ⟨D.blk.fr f hrbA, bz2.fr f (fun h => ?_), f⟩
        have := (owns_lt HDT.out.own _ h).2
        omega
      have hs2 := fw.size
      have hzr : w.heap.size + 1 + 1 ≠ rb := by have := HDT.out.blk.lt; omega
      have hzr2 : rb ≠ w.heap.size + 1 + 1 := hzr.symm
      clear f2 fw D hn HAT HF1 HBZ HBK HBV bk2 bv2 bz2 fd hrbA
      go_upto_region 3 with fail
      go_region_law (refine step_append_lies _ (by rfl) _ _ _ (by rfl) lo 141 i0 _ 10 128 Try.underlying53 hi0' hz0 hz1 hz2 rfl (by omega) (.slice A R.length cap) R.length (prCells R) (by rfl) hownA ⟨w2.heap.size, 0, none⟩ 1 1 [.int .u8 k, .int .i64 n, .string s, .slice B l.length c, .int .i64 r, .int .u8 k1, .int .i64 n1, .string s1, .slice B1 l1.length c1, .int .i64 r1] (by rfl) (by rfl) (World.news_of_block (Blk.new w2 141 _)) (by simp [Value.oneCell']) (by omega) (by unfold maxLen; omega) (by omega) (by simp; omega) _ rfl ?_; intro g cp w3 hown3 hgrow hat hlt3; obtain ⟨bb, bz, fz⟩ := AFT.out w3 hgrow; have z0 := bb.cell 0; have zf := bb.frozen 0; have zl := bb.lt; simp only [List.getElem?_toArray, List.getElem?_cons_zero] at z0; obtain ⟨p0, p1, p2, p3, p4, pf⟩ := bz.cells5; have pl := bz.lt; have HO3 := hide hown3; have HAT3 := hide hat; have HFZ := hide fz; clear bb bz fz hown3 hat hgrow)
      all_goals
        go_wp2_with fail
        refine bodyPost_ret (v := .tuple #[.agg #[.int .u8 0, .int .i64 0, .string ⟨#[]⟩, .slice none 0 0, .int .i64 0], .bool false]) (by simp [results, Try.results97, go_sem, *]) rfl ?_
        refine ⟨T.zero, _, false, rfl, .inr ⟨by rw [HUU.out]; exact HN.out, rfl, rfl, rfl⟩, ?_⟩
        exact dput_new HDT.out HW.out hh hlw HK.out HVI.out hle HO3.out HFZ.out HAT3.out (by simp; omega) (by omega)

end Go.Proofs.Ytihjmipmjogpoaa

/- A region that draws its order inside a round, its operations quiet in a class of worlds: one walk in the text's order. -/
namespace Go.Proofs.Ytihjmipmjogpoaa
open Go.RowKit

section
variable {P : Program} {ops : Array Oper} {Q : Exit → Act → World → Prop} {n : Nat} {C : World → Prop}

theorem upon_round {o : Oper} {a : Act} {K : Act → World → Prop} {r : Result Next} (l : Nat) (h : o.upon P a K Q r) : o.uponIn (Fence.wide.inRound l) n P a K Q r := by
  have hd : ∀ p : Prop, ((Fence.wide.inRound l).depth.isSome = true → p) := fun p h => by simp [Fence.wide] at h
  cases r with
  | ok x w' =>
    cases x with
    | value v => exact h
    | skip => exact h
    | defer d => exact h
    | enter f args => exact ⟨hd _, CallsIn.inRound l (callsIn_wide.2 h)⟩
    | row row args => exact ⟨hd _, fun c cs _ => let ⟨v, w', r, s⟩ := h c cs; ⟨v, w', r, stepsIn_wide.2 s⟩⟩
    | _ => exact h.elim
  | halt x w' =>
    cases x with
    | panic v => exact h
    | _ => exact h.elim

theorem wpIn_round_of_wp {o : Oper} {a : Act} {w : World} {K : Act → World → Prop} (l : Nat) (hnd : ∀ c, o.op ≠ .defer c) (h : o.wp P a w K Q) : o.wpIn (Fence.wide.inRound l) n P a w K Q := by
  refine ⟨fun _ _ => trivial, ?_⟩
  rw [Fence.inRound_round, Oper.semAt_some l _ _ hnd]
  exact upon_round l h

def noDefer (ops : Array Oper) : Bool := ops.all fun o => match o.op with | .defer _ => false | _ => true

theorem noDefer_spec (h : noDefer ops = true) {i : Nat} {o : Oper} (ho : ops[i]? = some o) : ∀ c, o.op ≠ .defer c := by
  intro c hc
  obtain ⟨hi, rfl⟩ := Array.getElem?_eq_some_iff.1 ho
  have h' := Array.all_eq_true.1 h i hi
  rw [hc] at h'
  cases h'

theorem wpOpIn_round {i : Nat} {a : Act} {K : Act → Prop} {K' : Act → World → Prop} {w : World} (l : Nat) (hnd : noDefer ops = true) (hC : C w) (h : ∀ a w', C w' → K a → K' a w') (hh : qOp P ops C i K a) : wpOpIn (Fence.wide.inRound l) n P ops Q i K' a w := by
  unfold qOp at hh
  unfold wpOpIn
  split
  · rename_i ho; simp only [ho] at hh; exact h _ _ hC hh
  · rename_i o ho
    simp only [ho] at hh
    split
    · rename_i hw; simp only [hw, if_true] at hh; exact wpIn_round_of_wp l (noDefer_spec hnd ho) (Oper.wp_of_quiet hC h hh)
    · rename_i hw; simp only [hw] at hh; exact ⟨fun _ _ => trivial, h _ _ hC hh⟩

theorem wpAnyIn_round {K : Act → Prop} (l : Nat) (hnd : noDefer ops = true) (hQ : ∀ a w, C w → K a → Q .normal a w) : ∀ (fuel : Nat) (listed : Array Bool) (a : Act) (w : World), C w →
    wpAnyQ P .any ops C K fuel listed a → wpAnyIn (Fence.wide.inRound l) n P .any ops Q fuel listed a w
  | 0, _, _, _, hw, h => ⟨h.1, hQ _ _ hw h.2⟩
  | fuel + 1, _, _, _, hw, h => ⟨fun h0 => hQ _ _ hw (h.1 h0), fun i hi => wpOpIn_round l hnd hw (fun a' w' hw' => wpAnyIn_round l hnd hQ fuel _ a' w' hw') (h.2 i hi)⟩

/-- The region, at a class of one's own. -/
theorem wpIn_region_quiet_round {id : Nat} {a : Act} {w : World} {ol : List Oper} (C : World → Prop) {l : Nat} (hm : P.follows .mixedOrders = true) (hB : Region.lexB .any ol.toArray = true) (hnd : noDefer ol.toArray = true) (hC : C w.drew)
    (h : wpQuiet P ol.toArray C (fun a' => ∀ w', C w' → Q .normal a' w') ol a) : (Code.region id ol.toArray true).wpIn (Fence.wide.inRound l) n P Q a w := by
  simp only [Region.lexB, Bool.and_eq_true] at hB
  refine wpIn_region_any hm (wpAnyIn_round (C := C) (K := fun a' => ∀ w', C w' → Q .normal a' w') l hnd (fun _ w' hw' h => h w' hw') _ _ _ _ hC ?_)
  have := wpAnyQ_lex (C := C) (md := .any) hB.1 ol.toArray.toList 0 (Array.replicate ol.toArray.size false) a (by simp) (by simpa using hB.2) (by simpa using h)
  simpa using this
end

end Go.Proofs.Ytihjmipmjogpoaa

/- BrandTables: the law's walk of a table: what it needs. -/
namespace Go.Proofs.Ytihjmipmjogpoaa
open Go.RowKit
attribute [local go_sem] Oper.semAt_some

/-- What the document's table says of the program's: the same pairs, in the order in which the keys came. -/
def Rel (l : List Ent) (R : List (T × T)) : Prop := ∃ ds, Srt ds ∧ ds.Perm (l.map Ent.d) ∧ R.map (fun x => (x.1.v, x.2.v)) = ds.map pr

theorem rows_at {R : List (T × T)} {XS pre : List (V × V)} {x : V × V} (hL : R.map (fun x => (x.1.v, x.2.v)) = XS) (h : pre ++ [x] <+: XS) : ∃ a b, R[pre.length]? = some (a, b) ∧ a.v = x.1 ∧ b.v = x.2 ∧ pre.length < R.length := by
  obtain ⟨z, hz⟩ := h
  have hx : XS[pre.length]? = some x := by rw [← hz]; simp
  rw [← hL, List.getElem?_map, Option.map_eq_some_iff] at hx
  obtain ⟨⟨a, b⟩, h1, h2⟩ := hx
  exact ⟨a, b, h1, by rw [← h2], by rw [← h2], (List.getElem?_eq_some_iff.1 h1).1⟩

/-- Between two rounds: how many have come. -/
structure EIg {α : Type} (W0 : World) (g9 : Nat) (pre : List α) (M : Nat → Prop) (W : World) : Prop where
  fr : Fr (fun i => i = g9) W0 W
  n : Blk W g9 3 #[.int .i64 (pre.length : Int)]
  m : ∀ i, M i ↔ i = g9

theorem EIg.stay {α : Type} {W0 : World} {g9 : Nat} {pre : List α} {M : Nat → Prop} {W W' : World} {S : Nat → Prop} (hn : g9 < W0.heap.size) (h : EIg W0 g9 pre M W) (f : Fr S W W') (hs : ∀ i, i < W.heap.size → S i → W0.heap.size ≤ i ∧ ¬ M i) : EIg W0 g9 pre M W' := by
  have hsz := h.fr.size
  exact ⟨h.fr.trans' f fun i hi hS => by have := (hs i (by omega) hS).1; omega, h.n.fr f (fun hS => by have := (hs g9 (by omega) hS).1; omega), h.m⟩

/-- Where the loop is left. -/
structure EXg {α : Type} (W0 : World) (g9 : Nat) (id : Nat) (lv : Int) (c : Code) (pre : List α) (M : Nat → Prop) (W : World) : Prop where
  i : EIg W0 g9 pre M W
  c : c = .exit id
  f : (pre.length : Int) = lv

/-- What a round leaves that has counted one more. -/
theorem eg_end {α : Type} {W0 W1 W2 Wa Wc wx : World} {g9 lp : Nat} {pre : List α} {x : α} {M B : Nat → Prop} (hI : EIg W0 g9 pre M W1) (fa : Fr No W1 Wa) (f2 : Fr (fun i => i = lp) Wa W2) (f3 : Fr No W2 Wc) (fx : Fr B Wc wx) (hl : lp < W1.heap.size) (hMl : ¬ M lp) (hBl : ∀ i, B i → ¬ i = lp) (hwl : W0.heap.size ≤ lp) (hB : ∀ i, B i → W0.heap.size ≤ i ∧ i < W1.heap.size ∧ ¬ M i) (hg : g9 < W0.heap.size) :
    RK lp M B W1 W2 (wx.setCell ⟨g9, 0, none⟩ (.int .i64 ((pre.length : Int) + 1))) ∧ EIg W0 g9 (pre ++ [x]) M (wx.setCell ⟨g9, 0, none⟩ (.int .i64 ((pre.length : Int) + 1))) := by
  have h0 := hI.fr.size
  have ha := fa.size
  have h2 := f2.size
  have h3 := f3.size
  have f12 : Fr (fun i => i = lp) W1 W2 := (fa.no (S := fun i => i = lp)).trans f2
  have fx' : Fr (fun i => B i ∨ i = g9) Wc (wx.setCell ⟨g9, 0, none⟩ (.int .i64 ((pre.length : Int) + 1))) := (fx.mono fun i _ h => .inl h).set (fun _ => .inr rfl) _
  have hne : ¬ (B lp ∨ lp = g9) := by
    rintro (h | h)
    · exact hBl lp h rfl
    · omega
  have fr : Fr (fun i => M i ∨ B i ∨ i = lp) W1 (wx.setCell ⟨g9, 0, none⟩ (.int .i64 ((pre.length : Int) + 1))) :=
    ((f12.mono (S' := fun i => M i ∨ B i ∨ i = lp) fun i _ h => .inr (.inr h)).thenNo f3).trans' fx' fun i hi h => by
      rcases h with h | h
      · exact .inr (.inl h)
      · exact .inl ((hI.m i).2 h)
  refine ⟨⟨(fx'.block lp (by omega) hne).trans (f3.block lp (by omega) (fun h => h)), fr⟩, hI.fr.trans' fr fun i hi h => ?_, ?_, hI.m⟩
  · rcases h with h | h | h
    · exact (hI.m i).1 h
    · have := (hB i h).1
      omega
    · omega
  · have hb : Blk wx g9 3 #[.int .i64 (pre.length : Int)] := (((hI.n.fr fa fun h => h).fr f2 (fun h => by have h' : g9 = lp := h; omega)).fr f3 fun h => h).fr fx (fun h => by
      have := (hB g9 h).1
      omega)
    have := hb.set_ 0 (.int .i64 ((pre.length : Int) + 1))
    simpa using this

/-- A world behind another in which no old block has turned. -/
structure Clg (W : World) where
  w : World
  fr : Fr No W w

theorem All_any (w : World) (tb : Nat) : Calls Try.prog 36 #[.pointer (some ⟨tb, 0, none⟩)] w fun e w' => e = .returned (.func (.func 100) #[] #[.pointer (some ⟨w.heap.size, 0, none⟩)]) ∧ Blk w' w.heap.size 39 #[.pointer (some ⟨tb, 0, none⟩)] ∧ Fr No w w' := by
  go_enter Try.func36, Try.ntmps36
  go_wp2
  go_ret
  exact ⟨rfl, Blk.new w 39 _, (Fr.refl No w).alloc _⟩

theorem func100_eql (w : World) (g : Nat) : (binOp .eql 68 (.func (.func 100) #[] #[.pointer (some ⟨g, 0, none⟩)]) .nilFunc).run Try.prog w = .ok (.bool false) w := by kernel_rfl

/-- Where a round's variables lie. -/
def EA2 (a0 : Act) (s1 s2 t1 t2 : Nat) (args : Array Value) (W1 : World) (a' : Act) (Wa : World) : Prop :=
  ∃ ck cv : Array Value, args = #[.agg ck, .agg cv] ∧ a' = ((({ a0 with defers := [] }.put (some s1) (.agg ck)).put (some s2) (.agg cv)).put (some t1) (.pointer (some ⟨W1.heap.size, 0, none⟩))).put (some t2) (.pointer (some ⟨W1.heap.size + 1, 0, none⟩)) ∧ Blk Wa W1.heap.size 27 ck ∧ Blk Wa (W1.heap.size + 1) 27 cv

end Go.Proofs.Ytihjmipmjogpoaa

/- BrandTables: the document's table and the program's: each call answers alike (plain). -/
namespace Go.Proofs.Ytihjmipmjogpoaa
open Go.RowKit

theorem perm_at {α : Type} : ∀ {l : List α} {i : Nat} {x : α}, l[i]? = some x → l.Perm (x :: l.eraseIdx i)
  | [], i, x, h => by simp at h
  | a :: l, 0, x, h => by simp at h; subst h; simp
  | a :: l, i + 1, x, h => by
    have := perm_at (l := l) (i := i) (x := x) (by simpa using h)
    rw [List.eraseIdx_cons_succ]
    exact (List.Perm.cons a this).trans (List.Perm.swap x a _)

theorem set_perm_at {α : Type} : ∀ {l : List α} {i : Nat} {x y : α}, l[i]? = some x → (l.set i y).Perm (y :: l.eraseIdx i)
  | [], i, x, y, h => by simp at h
  | a :: l, 0, x, y, h => by simp
  | a :: l, i + 1, x, y, h => by
    have := set_perm_at (l := l) (i := i) (x := x) (y := y) (by simpa using h)
    rw [List.eraseIdx_cons_succ, List.set_cons_succ]
    exact (List.Perm.cons a this).trans (List.Perm.swap y a _)

theorem map_erase {α β : Type} (f : α → β) : ∀ (l : List α) (j : Nat), (l.eraseIdx j).map f = (l.map f).eraseIdx j
  | [], _ => by simp
  | _ :: _, 0 => by simp
  | a :: l, j + 1 => by simp [map_erase f l j]

/-- What the laws ask of a table's entries. -/
structure Fine (l : List Ent) : Prop where
  may : ∀ e ∈ l, e.k.v.may = true ∧ e.k.v.keys = true ∧ e.v.v.may = true
  dist : l.Pairwise fun a b => a.k.v ≠ b.k.v

/-- A row of the document's table is an entry of the program's. -/
theorem rel_at {l : List Ent} {R : List (T × T)} {ds : List (V × V × Nat)} (hp : ds.Perm (l.map Ent.d)) (hm : R.map (fun x => (x.1.v, x.2.v)) = ds.map pr) (hf : Fine l) {i : Nat} {x : T × T} (hx : R[i]? = some x) :
    ∃ (j : Nat) (e : Ent), l[j]? = some e ∧ e.k.v = x.1.v ∧ e.v.v = x.2.v ∧ ds[i]? = some e.d ∧ pos x.1.v (l.map fun e => e.k.v) = some j := by
  have h1 : (R.map fun x => (x.1.v, x.2.v))[i]? = some (x.1.v, x.2.v) := by rw [List.getElem?_map, hx]; rfl
  rw [hm, List.getElem?_map, Option.map_eq_some_iff] at h1
  obtain ⟨d, hd, hpd⟩ := h1
  obtain ⟨e, he, rfl⟩ := List.mem_map.1 (hp.mem_iff.1 (List.mem_of_getElem? hd))
  obtain ⟨j, hj, rfl⟩ := List.mem_iff_getElem.1 he
  have hj' : l[j]? = some l[j] := List.getElem?_eq_getElem hj
  simp only [pr, Ent.d, Prod.mk.injEq] at hpd
  refine ⟨j, l[j], hj', hpd.1, hpd.2, hd, ?_⟩
  rw [← hpd.1]
  exact pos_at hf.may hf.dist hj'

theorem rel_no {l : List Ent} {R : List (T × T)} {ds : List (V × V × Nat)} (hp : ds.Perm (l.map Ent.d)) (hm : R.map (fun x => (x.1.v, x.2.v)) = ds.map pr) (hf : Fine l) {u : V} (hu : u.may = true) (hk : u.keys = true) (hx : ∀ x ∈ R, x.1.v ≠ u) : pos u (l.map fun e => e.k.v) = none := by
  cases hpo : pos u (l.map fun e => e.k.v) with
  | none => rfl
  | some j =>
    have h := pos_some hu hk (fun v hv => by obtain ⟨e, he, rfl⟩ := List.mem_map.1 hv; exact (hf.may e he).1) hpo
    obtain ⟨e, he, hku⟩ := List.mem_map.1 (List.mem_of_getElem? h)
    have h1 : pr e.d ∈ ds.map pr := List.mem_map_of_mem (hp.mem_iff.2 (List.mem_map_of_mem he))
    rw [← hm] at h1
    obtain ⟨x, hxm, hxe⟩ := List.mem_map.1 h1
    simp only [pr, Ent.d, Prod.mk.injEq] at hxe
    exact absurd (hxe.1.trans hku) (hx x hxm)

/-- Get. -/
theorem rel_get {l : List Ent} {R : List (T × T)} (h : Rel l R) (hf : Fine l) {u : V} (hu : u.may = true) (hk : u.keys = true) {t : T} {had : Bool} (hg : DGet u R t had) :
    (pos u (l.map fun e => e.k.v)).isSome = had ∧ (match pos u (l.map fun e => e.k.v) with | some i => ((l[i]?.map fun x => x.v.v).getD V.zero) | none => V.zero) = t.v := by
  obtain ⟨ds, hs, hp, hm⟩ := h
  rcases hg with ⟨i, x, hx, rfl, rfl, rfl⟩ | ⟨hn, rfl, rfl⟩
  · obtain ⟨j, e, he, -, h2, -, h4⟩ := rel_at hp hm hf hx
    rw [h4]
    simp [he, h2]
  · rw [rel_no hp hm hf hu hk hn]
    exact ⟨rfl, T.zero_v.symm⟩

/-- Put. -/
theorem rel_put {l l' : List Ent} {R R' : List (T × T)} (h : Rel l R) (hf : Fine l) {came came' : Nat} (hc : ∀ e ∈ l, e.c ≤ came) {a b t : T} {old : V} {had had' : Bool} (he : putErr a.v b.v = 0) (hs : PutSays a.v b.v l came l' came' old had) (hd : DPut a b R R' t had') :
    had = had' ∧ old = t.v ∧ Rel l' R' := by
  obtain ⟨ds, hsr, hp, hm⟩ := h
  obtain ⟨hma, hmb, hka⟩ := putErr_zero he
  rcases hd with ⟨i, x, hx, hxa, rfl, rfl, rfl⟩ | ⟨hn, rfl, rfl, rfl⟩
  · obtain ⟨j, e, hej, h1, h2, h3, h4⟩ := rel_at hp hm hf hx
    rw [hxa] at h4
    cases hs with
    | err h => exact absurd he h
    | new y _ hp' _ _ _ => rw [h4] at hp'; cases hp'
    | old j' y v' _ hp' hy hv' =>
      rw [h4] at hp'
      obtain rfl : j = j' := by simpa using hp'
      rw [hej] at hy
      obtain rfl : e = y := by simpa using hy
      refine ⟨rfl, h2, ds.set i (Ent.d ⟨e.k, v', e.c⟩), ?_, ?_, ?_⟩
      · have hcc : (ds.set i (Ent.d ⟨e.k, v', e.c⟩)).map (fun d => d.2.2) = ds.map fun d => d.2.2 := by
          rw [List.map_set]
          refine List.ext_getElem? fun q => ?_
          rw [List.getElem?_set]
          split
          · rename_i hq
            subst hq
            obtain ⟨hil, hie⟩ := List.getElem?_eq_some_iff.1 h3
            simp [hil, hie, Ent.d]
          · rfl
        have h5 := (List.pairwise_map (f := fun d : V × V × Nat => d.2.2) (R := fun a b : Nat => a < b)).2 hsr
        rw [← hcc] at h5
        exact List.pairwise_map.1 h5
      · rw [List.map_set]
        have hl : (l.map Ent.d)[j]? = some e.d := by rw [List.getElem?_map, hej]; rfl
        have p1 := perm_at h3
        have p2 := perm_at hl
        have p3 := List.Perm.cons_inv ((p1.symm.trans hp).trans p2)
        exact ((set_perm_at h3).trans (List.Perm.cons _ p3)).trans (set_perm_at hl).symm
      · rw [List.map_set, List.map_set, hm]
        simp only [pr, Ent.d, h1, hv']
  · have h4 := rel_no hp hm hf hma hka hn
    cases hs with
    | err h => exact absurd he h
    | old j' y v' _ hp' hy hv' => rw [h4] at hp'; cases hp'
    | new y _ hp' hk hv hcn =>
      refine ⟨rfl, T.zero_v.symm, ds ++ [y.d], ?_, ?_, ?_⟩
      · refine List.pairwise_append.2 ⟨hsr, by simp, fun d hd d2 hd2 => ?_⟩
        simp at hd2
        subst hd2
        obtain ⟨e, hel, rfl⟩ := List.mem_map.1 (hp.mem_iff.1 hd)
        have := hc e hel
        show e.c < y.c
        omega
      · rw [List.map_append]
        exact List.Perm.append_right _ hp
      · rw [List.map_append, List.map_append, hm]
        simp [pr, Ent.d, hk, hv]

/-- Drop. -/
theorem rel_drop {l l' : List Ent} {R R' : List (T × T)} (h : Rel l R) (hf : Fine l) {u : V} (hu : u.may = true) (hk : u.keys = true) {had had' : Bool}
    (hs : (pos u (l.map fun e => e.k.v) = none ∧ l' = l ∧ had = false) ∨ ∃ i, pos u (l.map fun e => e.k.v) = some i ∧ l' = l.eraseIdx i ∧ had = true) (hd : DDrop u R R' had') : had = had' ∧ Rel l' R' := by
  obtain ⟨ds, hsr, hp, hm⟩ := h
  rcases hd with ⟨i, x, hx, rfl, rfl, rfl⟩ | ⟨hn, rfl, rfl⟩
  · obtain ⟨j, e, hej, h1, h2, h3, h4⟩ := rel_at hp hm hf hx
    rcases hs with ⟨h5, -, -⟩ | ⟨j', h5, rfl, rfl⟩
    · rw [h4] at h5; cases h5
    · rw [h4] at h5
      obtain rfl : j = j' := by simpa using h5
      have hl : (l.map Ent.d)[j]? = some e.d := by rw [List.getElem?_map, hej]; rfl
      refine ⟨rfl, ds.eraseIdx i, hsr.sublist (List.eraseIdx_sublist _ _), ?_, ?_⟩
      · have p1 := perm_at h3
        have p2 := perm_at hl
        have p3 := List.Perm.cons_inv ((p1.symm.trans hp).trans p2)
        rw [map_erase]
        exact p3
      · rw [map_erase, map_erase, hm]
  · rcases hs with ⟨-, rfl, rfl⟩ | ⟨j', h5, -, -⟩
    · exact ⟨rfl, ds, hsr, hp, hm⟩
    · rw [rel_no hp hm hf hu hk hn] at h5; cases h5

end Go.Proofs.Ytihjmipmjogpoaa

/- Chapter 2: the document's answer: Own: in rows of its own. -/
namespace Go.Proofs.Ytihjmipmjogpoaa
open Go.RowKit

/-- What the document's Own gives. -/
def ROwnP2 (v : V) (w : World) (e : Ending) (w' : World) : Prop :=
  ∃ t' : T, e = .returned t'.val ∧ t'.v = v ∧ t'.Sh w' w.heap.size w'.heap.size ∧ Fr No w w'

/-- Where its loop stands. -/
structure ROInv2 (w : World) (X : Array Value) (k n : Int) (s : ByteArray) (r : Int) (l : List T) (j : Nat) (A : Option Addr) (cap : Nat) (l' : List T) (wr : World) : Prop where
  len : l'.length = j
  vs : l'.map T.v = (l.take j).map T.v
  fr : Fr No w wr
  b0 : Blk wr w.heap.size 27 X
  b1 : Blk wr (w.heap.size + 1) 27 #[.int .u8 0, .int .i64 0, .string ⟨#[]⟩, .slice none 0 0, .int .i64 0]
  b2 : Blk wr (w.heap.size + 1 + 1) 27 #[.int .u8 k, .int .i64 n, .string s, .slice A j cap, .int .i64 r]
  own : wr.ownsRow (w.heap.size + 3) 27 5 (.slice A j cap) j (rowCells l')
  sp : ∀ x ∈ l', x.Sp wr (w.heap.size + 3) wr.heap.size
  nd : ((l'.map T.blocks).flatten).Nodup
  nil : l' = [] → A = none ∧ cap = 0
  sep : ∀ x ∈ l', ∀ b ∈ x.blocks, (Value.slice A j cap).ownBlock ≠ some b
  big : w.heap.size + 3 ≤ wr.heap.size

theorem ro_push2 {w wr w2 w3 : World} {X : Array Value} {k n : Int} {s : ByteArray} {r : Int} {l : List T} {j : Nat} {A2 : Option Addr} {cap2 : Nat} {l' : List T} {t' : T} {g cp : Nat} (inv : ROInv2 w X k n s r l j A2 cap2 l' wr) (hlt : j < l.length) (hv : t'.v = l[j].v)
    (hsh : t'.Sh w2 wr.heap.size w2.heap.size) (f1 : Fr No wr.drew w2) (hown : w3.ownsRow (w.heap.size + 3) 27 5 (.slice (some ⟨g, 0, none⟩) (j + 1) cp) (j + 1) (rowCells l' ++ t'.cells))
    (hgrow : (w2.alloc (.cells t'.cells.toArray 27)).grownBy w3 (Value.slice A2 j cap2).ownBlock) (hat : (Value.slice A2 j cap2).ownBlock = some g ∨ g = w2.heap.size + 1) :
    ROInv2 w X k n s r l (j + 1) (some ⟨g, 0, none⟩) cp (l' ++ [t']) (w3.setCell ⟨w.heap.size + 1 + 1, 3, none⟩ (.slice (some ⟨g, 0, none⟩) (j + 1) cp)) := by
  have big := inv.big
  have hin := hsh.inn
  have hinn : ∀ x ∈ l', x.In wr (w.heap.size + 3) wr.heap.size := fun x hx => T.Sp.inn x (inv.sp x hx)
  have hol := inv.own.lt
  have hs2 : wr.heap.size ≤ w2.heap.size := f1.size
  have hs3 : w2.heap.size + 1 ≤ w3.heap.size := by have := hgrow.size; simpa using this
  have F2 : Fr (fun i => some i = (Value.slice A2 j cap2).ownBlock ∨ i = w.heap.size + 1 + 1) w2 (w3.setCell ⟨w.heap.size + 1 + 1, 3, none⟩ (.slice (some ⟨g, 0, none⟩) (j + 1) cp)) :=
    ((((Fr.refl No w2).alloc (.cells t'.cells.toArray 27)).no).trans' (fr_grown hgrow) (fun i _ h => .inl h)).set (fun _ => .inr rfl) _
  have F1 : Fr (fun i => some i = (Value.slice A2 j cap2).ownBlock ∨ i = w.heap.size + 1 + 1) wr (w3.setCell ⟨w.heap.size + 1 + 1, 3, none⟩ (.slice (some ⟨g, 0, none⟩) (j + 1) cp)) :=
    ((Fr.refl _ wr).drew.thenNo f1).trans F2
  have hgl := (owns_lt hown g rfl)
  have hn0 : ∀ i, i < w.heap.size + 3 → ¬ some i = (Value.slice A2 j cap2).ownBlock := fun i hi h => by have := hol i h.symm; omega
  refine ⟨by simp [inv.len], ?_, inv.fr.trans' F1 (fun i hi h => ?_), inv.b0.fr F1 ?_, inv.b1.fr F1 ?_, ?_, ?_, ?_, ?_, (fun h => absurd h (by simp)), ?_, ?_⟩
  · rw [List.map_append, inv.vs, List.take_succ_eq_append_getElem hlt, List.map_append, List.map_singleton, List.map_singleton, hv]
  · rcases h with h | h
    · exact hn0 i (by omega) h
    · omega
  · rintro (h | h)
    · exact hn0 _ (by omega) h
    · omega
  · rintro (h | h)
    · exact hn0 _ (by omega) h
    · omega
  · have F3 : Fr (fun i => some i = (Value.slice A2 j cap2).ownBlock) wr w3 :=
      ((((Fr.refl _ wr).drew.thenNo f1).alloc (.cells t'.cells.toArray 27))).trans' (fr_grown hgrow) (fun i _ h => h)
    have := (inv.b2.fr F3 (hn0 _ (by omega))).set_ 3 (.slice (some ⟨g, 0, none⟩) (j + 1) cp)
    simpa using this
  · rw [rowCells_snoc]
    exact owns_fr hown ((Fr.refl (fun i => i = w.heap.size + 1 + 1) w3).set (fun _ => rfl) _) (fun i hi h => by
      simp [Value.ownBlock] at hi
      have h' : i = w.heap.size + 1 + 1 := h
      omega)
  · intro x hx
    have hsz := F1.size
    have hsz2 := F2.size
    rcases List.mem_append.1 hx with hx | hx
    · have h1 := hinn x hx
      have hb : ∀ b ∈ x.blocks, ¬ (some b = (Value.slice A2 j cap2).ownBlock ∨ b = w.heap.size + 1 + 1) := fun b hb h => by
        rcases h with h | h
        · exact inv.sep x hx b hb h.symm
        · have := T.In.blocks x h1 b hb; omega
      exact T.Sp.more (Nat.le_refl _) hsz x (T.Sp.fr F1 x hb (inv.sp x hx))
    · simp at hx; subst hx
      have hb : ∀ b ∈ x.blocks, ¬ (some b = (Value.slice A2 j cap2).ownBlock ∨ b = w.heap.size + 1 + 1) := fun b hb h => by
        have h3 := T.In.blocks x hin b hb
        rcases h with h | h
        · have := hol b h.symm; omega
        · omega
      exact T.Sp.more (by omega) hsz2 x (T.Sp.fr F2 x hb hsh.sp)
  · rw [List.map_append, List.flatten_append, List.nodup_append]
    refine ⟨inv.nd, by simpa using hsh.nodup, fun a ha b hb e => ?_⟩
    subst e
    obtain ⟨L, hL, ha⟩ := List.mem_flatten.1 ha
    obtain ⟨x, hx, rfl⟩ := List.mem_map.1 hL
    have h1 := T.In.blocks x (hinn x hx) a ha
    have h2 := T.In.blocks t' hin a (by simpa using hb)
    omega
  · intro x hx b hb h
    simp [Value.ownBlock] at h
    subst h
    rcases List.mem_append.1 hx with hx | hx
    · rcases hat with h | h
      · exact inv.sep x hx _ hb h
      · have := T.In.blocks x (hinn x hx) _ hb; omega
    · simp at hx; subst hx
      have h3 := T.In.blocks x hin _ hb
      rcases hat with h | h
      · have := hol _ h; omega
      · omega
  · have := F1.size; omega

set_option maxRecDepth 100000 in
set_option maxHeartbeats 8000000 in
theorem refOwn2_any (t : T) : ∀ (w : World) (lo hi : Nat), t.In w lo hi → hi ≤ w.heap.size → Calls Try.prog 125 #[t.val] w (ROwnP2 t.v w) := by
  induction t using T.ind with
  | h k n s A cap l r ih =>
    intro w lo hi ht hh
    rw [T.val_mk]
    have fit := (T.in_mk.1 ht).1
    have hlen := fit.len1
    obtain ⟨i0, hi0, hz0, hz1, hz2⟩ := info_parts value_info
    go_enter Try.func125, Try.ntmps125
    go_wp2_with fail
    go_loopw [4] (fun i wr => ∃ (j : Nat) (A2 : Option Addr) (cap2 : Nat) (l' : List T), j ≤ l.length ∧ i = .int .i64 j ∧
        ROInv2 w #[.int .u8 k, .int .i64 n, .string s, .slice A l.length cap, .int .i64 r] k n s r l j A2 cap2 l' wr)
      (fun i _ => l.length - (intOf i).toNat)
    case atStart =>
      exact ⟨0, none, 0, [], Nat.zero_le _, rfl, rfl, by simp, ((((Fr.refl No w).alloc _).alloc _).alloc _), ((Blk.new' w 27 _ rfl).alloc _).alloc _, (Blk.new' (w.alloc _) 27 _ (by simp)).alloc _,
        Blk.new' ((w.alloc _).alloc _) 27 _ (by simp), World.ownsRow_nil _ _ _ _, by simp, by simp, fun _ => ⟨rfl, rfl⟩, by simp, by simp⟩
    case round =>
      obtain ⟨j, A2, cap2, l', hj, rfl, inv⟩ := hrel
      have fr := inv.fr
      have big := inv.big
      have own := inv.own
      have hsep0 : (Value.slice A2 j cap2).ownBlock ≠ some (w.heap.size + 1 + 1) := fun h => by have := own.lt _ h; omega
      obtain ⟨c0, c1, c2, c3, c4, cf⟩ := inv.b2.cells5
      obtain ⟨d0, d1, d2, d3, d4, df⟩ := inv.b0.cells5
      by_cases hlt : j < l.length
      · obtain ⟨b, o, k1, n1, s1, A1, cap1, l1, r1, rfl, hb0, hb1, hx, hin, e0, e1, e2, e3, e4⟩ := T.elem (ht.no fr hh) hlt
        have IH := ih l[j] (List.getElem_mem hlt)
        rw [hx] at IH
        have HX := hide hx
        rw [T.val_mk] at IH
        have hh0 : hi ≤ wr.heap.size := by omega
        have IH2 := IH wr.drew lo hi (hin.no ((Fr.refl No wr).drew) hh0) hh0
        have HIH := hide IH2
        have HI := hide inv
        have HB2 := hide inv.b2
        have HO := hide own
        have g0 : b < wr.heap.size := by omega
        have g1 : w.heap.size < wr.heap.size := by omega
        have g2 : w.heap.size + 1 + 1 < wr.heap.size := by omega
        have hv0' : some (w.heap.size + 1 + 1) ≠ (Value.slice A2 j cap2).ownBlock := Ne.symm hsep0
        have HH := hide hh
        clear hx ih inv ht IH IH2 fr own hin hh
        go_wp2_with fail
        go_region_law (first
          | ((refine step_append_lies _ (by rfl) _ _ _ (by rfl) (w.heap.size + 3) 27 i0 _ 5 64 Try.underlying24 hi0 hz0 hz1 hz2 rfl (by omega) (.slice A2 j cap2) j (rowCells l') (by rfl) ownD ⟨w2.heap.size, 0, none⟩ 1 1 [.int .u8 k5, .int .i64 n5, .string s5, .slice A5 l5.length cap5, .int .i64 r5] (by rfl) (by rfl) (World.news_of_block (Blk.new w2 27 _)) (by simp [Value.oneCell']) (by omega) (by unfold maxLen; omega) (by omega) (by simp; omega) _ rfl ?_); intro g cp w3 hown3 hgrow hat hlt3; obtain ⟨c5, f5⟩ := lent_grown hgrow c4D f4D (by simp; omega) hv0')
          | (go_simp; go_at_call 125; (with_reducible refine HIH.out.mono ?_); rintro e w2 ⟨⟨k5, n5, s5, A5, cap5, l5, r5⟩, rfl, hv5, hin5, fr1⟩; rw [T.val_mk]; obtain ⟨ownD, bD, c3D, c4D, f4D, hsz2, hlt2⟩ := lent_after (m := #[.int .u8 k5, .int .i64 n5, .string s5, .slice A5 l5.length cap5, .int .i64 r5]) HB2.out HO.out fr1))
        all_goals
          go_wp2
          go_roundw
          case rel =>
            exact ⟨j + 1, _, _, _, hlt, by go_num, ro_push2 HI.out hlt (hv5.trans (congrArg T.v HX.out).symm) hin5 fr1 hown3 hgrow (by simpa using hat)⟩
          case measure => simp [intOf]; omega
      · obtain rfl : l.length = j := by omega
        obtain ⟨y0, y1, y2, y3, y4, yf⟩ := inv.b1.cells5
        have q1 := inv.b1.lt
        have q2 := inv.b2.lt
        have hil := inv.len
        have HI := hide inv
        have hb : ∀ x ∈ l', ∀ b ∈ x.blocks, w.heap.size + 3 ≤ b ∧ b < wr.heap.size := fun x hx b hb => T.In.blocks x (T.Sp.inn x (inv.sp x hx)) b hb
        have HBL := hide hb
        clear ih inv ht fr own hh hb
        go_wp2_with fail
        refine bodyPost_ret (v := .agg #[.int .u8 k, .int .i64 n, .string s, .slice A2 l.length cap2, .int .i64 r]) (by simp [results, Try.results125, go_sem, *]) rfl ?_
        generalize hW : World.setCell _ _ _ = W
        have hfr : Fr (fun i => i = w.heap.size + 1) wr W := by
          rw [← hW]
          repeat (first | with_reducible exact Fr.refl _ wr | with_reducible refine Fr.set ?_ (by simp) _)
        have inv := HI.out
        have hol := inv.own.lt
        have own2 := owns_fr inv.own hfr (fun g hg h => by have := hol g hg; have h' : g = w.heap.size + 1 := h; omega)
        have hle := owns_le own2
        have hspW : ∀ x ∈ l', x.Sp W w.heap.size W.heap.size := fun x hx => T.Sp.more (by omega) hfr.size x (T.Sp.fr hfr x (fun b hb h => by have := HBL.out x hx b hb; have h' : b = w.heap.size + 1 := h; omega) (inv.sp x hx))
        refine ⟨T.mk k n s A2 cap2 l' r, by rw [T.val_mk, hil], ?_, ⟨T.sp_mk.2 ⟨⟨fit.k0, fit.k1, fit.n0, fit.n1, fit.s1, by rw [hil]; exact hlen, by rw [hil]; exact hle, fit.r0, fit.r1⟩, inv.nil, fun hne => ?_, hspW⟩, ?_⟩, inv.fr.trans' hfr (fun i hi h => by have h' : i = w.heap.size + 1 := h; omega)⟩
        · rw [T.v_mk, T.v_mk, inv.vs, List.take_of_length_le (Nat.le_refl _)]
        · have hpos : 0 < l.length := by
            cases l' with
            | nil => exact absurd rfl hne
            | cons x l' => simp at hil; omega
          obtain ⟨g, c, hA, hg0, hg1⟩ := own2.form hpos
          simp only [Value.slice.injEq, true_and] at hA
          obtain ⟨rfl, rfl⟩ := hA
          rw [hil]
          exact ⟨owns_mono own2 (by omega), g, rfl, hg1⟩
        · rw [T.blocks_mk]
          cases hl0 : l' with
          | nil => simp
          | cons x l2 =>
            have hie : l'.isEmpty = false := by rw [hl0]; rfl
            rw [← hl0]
            have hpos : 0 < l.length := by rw [hl0] at hil; simp at hil; omega
            obtain ⟨g, c, hA, hg0, hg1⟩ := own2.form hpos
            simp only [Value.slice.injEq, true_and] at hA
            obtain ⟨rfl, rfl⟩ := hA
            simp only [hie, Bool.false_eq_true, if_false, Option.map_some, Option.toList_some, List.singleton_append, List.nodup_cons]
            refine ⟨fun h => ?_, inv.nd⟩
            obtain ⟨L, hL, ha⟩ := List.mem_flatten.1 h
            obtain ⟨y, hy, rfl⟩ := List.mem_map.1 hL
            exact inv.sep y hy g ha rfl

end Go.Proofs.Ytihjmipmjogpoaa

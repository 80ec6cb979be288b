/- Chapter 2: Refs. -/
import Derived.Test.YtihjmipmjogpoaaE8
import Derived.Test.YtihjmipmjogpoaaU1
namespace Go.Proofs.Ytihjmipmjogpoaa
open Go.RowKit

/-- The references among some parts. -/
def refsOf : List (List Int × V) → List Int
  | [] => []
  | (_, .mk k _ _ _ r) :: l => if k = 4 then r :: refsOf l else refsOf l

theorem refsOf_append (a b : List (List Int × V)) : refsOf (a ++ b) = refsOf a ++ refsOf b := by
  induction a with
  | nil => rfl
  | cons x a ih =>
    obtain ⟨p, k, n, s, l, r⟩ := x
    simp only [List.cons_append, refsOf]
    split <;> simp [ih]

theorem refsOf_length (a : List (List Int × V)) : (refsOf a).length ≤ a.length := by
  induction a with
  | nil => simp [refsOf]
  | cons x a ih =>
    obtain ⟨p, k, n, s, l, r⟩ := x
    simp only [refsOf]
    split <;> simp <;> omega

theorem ref_info : (Try.prog.info? 25).map (fun i => (i.zero, i.size, i.bytes)) = some (some (.int .i64 0), 1, 8) := by kernel_rfl

/-- What has been collected. -/
def RefsJ (g base : Nat) (pre : List (List Int × V)) (M : Nat → Prop) (W : World) : Prop :=
  g < base ∧ base ≤ W.heap.size ∧ ∃ v, Blk W g 100 #[v] ∧ W.ownsRow base 25 1 v (refsOf pre).length ((refsOf pre).map fun r => Value.int .i64 r) ∧ ∀ i, M i ↔ (i = g ∨ v.ownBlock = some i)

theorem refs_stay {g base : Nat} {pre : List (List Int × V)} {M : Nat → Prop} {W W' : World} {S : Nat → Prop} (h : RefsJ g base pre M W) (hf : Fr S W W') (hs : ∀ i, i < W.heap.size → S i → ¬ M i) : RefsJ g base pre M W' := by
  obtain ⟨h0, h1, v, hb, ho, hM⟩ := h
  exact ⟨h0, Nat.le_trans h1 hf.size, v, hb.fr hf (fun h => hs g hb.lt h ((hM g).2 (.inl rfl))), owns_fr ho hf (fun i hi h => hs i (owns_lt ho i hi).2 h ((hM i).2 (.inr hi))), hM⟩

set_option maxRecDepth 100000 in
set_option maxHeartbeats 2000000 in
theorem refs1_any (g base : Nat) (pre : List (List Int × V)) (M : Nat → Prop) (W : World) (x : T) (A : Option Addr) (n cap : Nat) (p : List Int) (hJ : RefsJ g base pre M W) (hp : pre.length < 1000000) :
    Calls Try.prog 121 #[.slice A n cap, x.val, .pointer (some ⟨g, 0, none⟩)] W fun e W' => e = .returned (.bool true) ∧ ∃ M' : Nat → Prop, Fr M W W' ∧ (∀ i, M' i → i < W.heap.size → M i) ∧ RefsJ g base (pre ++ [(p, x.v)]) M' W' := by
  obtain ⟨h0, h1, v, hb, ho, hM⟩ := hJ
  have hlen := refsOf_length pre
  cases x with
  | mk k nn s A1 cap1 l r =>
    rw [T.val_mk]
    have fr1 := (Fr.refl No W).alloc (.cells #[.int .u8 k, .int .i64 nn, .string s, .slice A1 l.length cap1, .int .i64 r] 27)
    have hb1 := hb.alloc (.cells #[.int .u8 k, .int .i64 nn, .string s, .slice A1 l.length cap1, .int .i64 r] 27)
    have hbx := Blk.new W 27 #[.int .u8 k, .int .i64 nn, .string s, .slice A1 l.length cap1, .int .i64 r]
    have ho1 := ho.alloc (.cells #[.int .u8 k, .int .i64 nn, .string s, .slice A1 l.length cap1, .int .i64 r] 27)
    have q0 := hb.lt
    by_cases hk : k = 4
    · subst hk
      have hr : refsOf (pre ++ [(p, (T.mk 4 nn s A1 cap1 l r).v)]) = refsOf pre ++ [r] := by rw [refsOf_append, T.v_mk]; rfl
      obtain ⟨i0, hi0, hz0, hz1, hz2⟩ := info_parts ref_info
      have hol := owns_lt ho
      have HR := hide hr
      have HOL := hide hol
      have HM := hide hM
      have HO := hide ho1
      have HB := hide hb
      have HF := hide fr1
      have c0 := hb1.cell 0
      have f0 := hb1.frozen 0
      simp only [List.getElem?_toArray, List.getElem?_cons_zero] at c0
      obtain ⟨x0, x1, x2, x3, x4, xf⟩ := hbx.cells5
      have q1 := hbx.lt
      have q2 := hb1.lt
      generalize hL : refsOf pre = L at *
      have HL := hide hL
      have hownA := ho1.alloc (.cells #[.int .i64 r] 25)
      have hBW : ∀ w1, ((W.alloc (.cells #[.int .u8 4, .int .i64 nn, .string s, .slice A1 l.length cap1, .int .i64 r] 27)).alloc (.cells #[.int .i64 r] 25)).grownBy w1 v.ownBlock → Blk w1 g 100 #[v] := fun w1 hg =>
        (hg.block g (by simp; omega) (fun h => by have := hol g h.symm; omega)).trans (hb1.alloc (.cells #[.int .i64 r] 25))
      have HBW := hide hBW
      clear hr hol hM ho1 hb fr1 hb1 hbx ho hL hBW
      go_enter Try.func121, Try.ntmps121
      go_wp2_with (at_builtin; refine wpList_append_lies _ (by rfl) _ _ _ (by rfl) base 25 i0 _ 1 8 Try.underlying100 hi0 hz0 hz1 hz2 (by rfl) (by omega) v L.length (L.map fun r => Value.int .i64 r) (by rfl) hownA ⟨W.heap.size + 1, 0, none⟩ 1 1 [.int .i64 r] (by rfl) (by rfl) (World.news_of_block (Blk.new' _ 25 #[.int .i64 r] (by simp))) (by simp [Value.oneCell']) (by omega) (by unfold maxLen; omega) (by omega) (by simp; omega) (W.heap.size + 1 + 1) (by simp) ?_; intro g2 cap2 w1 hown1 hgrow hat hlt1; have hbw := HBW.out w1 hgrow; have c1 := hbw.cell 0; have f1 := hbw.frozen 0; have q5 := hbw.lt; have HBW1 := hide hbw; simp only [List.getElem?_toArray, List.getElem?_cons_zero] at c1; clear hbw)
      go_ret
      have fA : Fr M W ((W.alloc (.cells #[.int .u8 4, .int .i64 nn, .string s, .slice A1 l.length cap1, .int .i64 r] 27)).alloc (.cells #[.int .i64 r] 25)) := (HF.out.alloc _).no
      have fB : Fr M W w1 := fA.grown hgrow fun i hi hlt => (HM.out i).2 (.inr hi)
      have fC : Fr M W (w1.setCell ⟨g, 0, none⟩ (.slice (some ⟨g2, 0, none⟩) (L.length + 1) cap2)) := fB.set (fun _ => (HM.out g).2 (.inl rfl)) _
      have hg2 : base ≤ g2 := (owns_lt hown1 g2 rfl).1
      refine ⟨rfl, fun i => i = g ∨ i = g2, fC, fun i hi hlt => ?_, h0, Nat.le_trans h1 fC.size, .slice (some ⟨g2, 0, none⟩) (L.length + 1) cap2, HBW1.out.set_ 0 _, ?_, fun i => ?_⟩
      · rcases hi with rfl | rfl
        · exact (HM.out _).2 (.inl rfl)
        · rcases hat with h | h
          · exact (HM.out _).2 (.inr h)
          · omega
      · rw [HR.out, List.length_append, List.map_append]
        exact owns_fr hown1 ((Fr.refl (fun i => i = g) w1).set (fun _ => rfl) _) (fun i hi h => by simp [Value.ownBlock] at hi; have h' : i = g := h; omega)
      · simp [Value.ownBlock, eq_comm]
    · have hk' : (k == 4) = false := by simpa using hk
      have hr : refsOf (pre ++ [(p, (T.mk k nn s A1 cap1 l r).v)]) = refsOf pre := by rw [refsOf_append, T.v_mk]; simp [refsOf, hk]
      have hpost : ∃ M' : Nat → Prop, Fr M W (W.alloc (.cells #[.int .u8 k, .int .i64 nn, .string s, .slice A1 l.length cap1, .int .i64 r] 27)) ∧ (∀ i, M' i → i < W.heap.size → M i) ∧ RefsJ g base (pre ++ [(p, (T.mk k nn s A1 cap1 l r).v)]) M' (W.alloc (.cells #[.int .u8 k, .int .i64 nn, .string s, .slice A1 l.length cap1, .int .i64 r] 27)) := by
        refine ⟨M, fr1.no, fun i h _ => h, h0, Nat.le_trans h1 fr1.size, v, hb1, ?_, hM⟩
        rw [hr]; exact ho1
      have HP := hide hpost
      clear hpost hr hb hb1 hbx ho ho1 hM fr1
      go_enter Try.func121, Try.ntmps121
      go_wp2
      go_ret
      exact ⟨rfl, HP.out⟩

theorem enters_fn2 {P : Program} {f : FuncId} {fn : Func} {c : Code} (hf : P.funcs[f]? = some fn) (hname : (fn.name == "runtime.NumGoroutine") = false) (hb : fn.body = some c) : ∀ args w, (callFunc f args).run P w = .ok (.enter f args) w := by
  intro args w
  have h1 : fn.name ≠ "runtime.NumGoroutine" := by simpa using hname
  simp [callFunc, hf, h1, hb, mark]

theorem refs_yields (g base : Nat) : Yields 1000000 121 #[.pointer (some ⟨g, 0, none⟩)] (RefsJ g base) (fun _ _ _ => False) where
  enters := enters_fn2 Try.func121 (by kernel_rfl) rfl
  call := fun pre M W x lo hi A cap p lo' hi' hl hJ _ _ _ _ _ _ => (refs1_any g base pre M W x A p.length cap p hJ hl).mono fun e W' ⟨he, M', h1, h2, h3⟩ => ⟨M', h1, h2, .inl ⟨he, h3⟩⟩
  stay := fun pre M W W' S h hf hs => refs_stay h hf hs
  lt := fun pre M W h i hi => by
    obtain ⟨h0, h1, v, hb, ho, hM⟩ := h
    rcases (hM i).1 hi with rfl | h
    · exact hb.lt
    · exact (owns_lt ho i h).2

/-- The references of a value, in the order of the walk. -/
def V.refs (v : V) : List Int := if v.may = true then refsOf (v.walk []) else []

def RefsP (L : List Int) (w : World) (e : Ending) (w' : World) : Prop := ∃ v, e = .returned v ∧ w'.ownsRow w.heap.size 25 1 v L.length (L.map fun r => Value.int .i64 r) ∧ Fr No w w'

theorem ints_nil (w : World) : Ints w 0 0 none 0 [] := ⟨by simp, Nat.le_refl _, fun h => absurd rfl h, by simp⟩

set_option maxRecDepth 100000 in
set_option maxHeartbeats 4000000 in
theorem Refs_any (t : T) (w : World) (lo hi : Nat) (ht : t.In w lo hi) (hh : hi ≤ w.heap.size) : Calls Try.prog 59 #[t.val] w (RefsP t.v.refs w) := by
  have hM := fun w' h h' => may_any t w' lo hi h h'
  have hW := fun pre M W hJ h h' h2 h3 => walk_any (refs_yields (w.heap.size + 1) (w.heap.size + 1 + 1)) t pre M W lo hi none 0 [] 0 0 hJ h h' h2 (ints_nil W) (Nat.zero_le _) (fun i h0 h1 => by omega) h3
  have hst : RefsJ (w.heap.size + 1) (w.heap.size + 1 + 1) [] (fun i => i = w.heap.size + 1) ((w.alloc (.cells #[.int .u8 0] 27)).alloc (.cells #[.slice none 0 0] 100)) := ⟨by omega, by simp, .slice none 0 0, Blk.new' (w.alloc _) 100 _ (by simp), World.ownsRow_nil _ _ _ _, fun i => by simp [Value.ownBlock]⟩
  clear hst
  cases t with
  | mk k n s A cap l r =>
    rw [T.val_mk] at *
    have hst : RefsJ (w.heap.size + 1) (w.heap.size + 1 + 1) [] (fun i => i = w.heap.size + 1) ((w.alloc (.cells #[.int .u8 k, .int .i64 n, .string s, .slice A l.length cap, .int .i64 r] 27)).alloc (.cells #[.slice none 0 0] 100)) := ⟨by omega, by simp, .slice none 0 0, Blk.new' (w.alloc _) 100 _ (by simp), World.ownsRow_nil _ _ _ _, fun i => by simp [Value.ownBlock]⟩
    have fr1 : Fr No w ((w.alloc (.cells #[.int .u8 k, .int .i64 n, .string s, .slice A l.length cap, .int .i64 r] 27)).alloc (.cells #[.slice none 0 0] 100)) := ((Fr.refl No w).alloc _).alloc _
    have hK : Blk ((w.alloc (.cells #[.int .u8 k, .int .i64 n, .string s, .slice A l.length cap, .int .i64 r] 27)).alloc (.cells #[.slice none 0 0] 100)) w.heap.size 27 #[.int .u8 k, .int .i64 n, .string s, .slice A l.length cap, .int .i64 r] := (Blk.new' w 27 _ rfl).alloc _
    have hs1 : w.heap.size + 1 + 1 ≤ ((w.alloc (.cells #[.int .u8 k, .int .i64 n, .string s, .slice A l.length cap, .int .i64 r] 27)).alloc (.cells #[.slice none 0 0] 100)).heap.size := by simp
    have ht1 := ht.no fr1 hh
    generalize hu : (T.mk k n s A cap l r).v = u at *
    have HU := hide hu
    clear hu ht
    cases hm : u.may with
    | false =>
      have e1 : u.refs = [] := by simp [V.refs, hm]
      rw [e1]
      rw [hm] at hM
      clear hm e1 hW
      go_enter Try.func59, Try.ntmps59
      go_wp2_with fail
      generalize World.alloc _ (.cells #[.slice none 0 0] 100) = W0 at *
      refine (hM _ ht1 (by omega)).mono ?_
      rintro e w2 ⟨rfl, fr2⟩
      obtain ⟨h0, h1, v, hb, ho, hMM⟩ := refs_stay hst fr2 (fun _ _ h => h.elim)
      have c0 := hb.cell 0
      simp only [List.getElem?_toArray, List.getElem?_cons_zero] at c0
      have q0 := hb.lt
      have HO := hide ho
      have HF := hide (fr1.trans fr2)
      clear hst hK hM hb ho hMM fr1 fr2
      go_wp2
      go_ret
      refine ⟨v, rfl, ?_, HF.out⟩
      have h := HO.out
      exact ⟨h.1, h.2.imp id fun ⟨g, cp, cur, a, b, c⟩ => ⟨g, cp, cur, a, by omega, c⟩⟩
    | true =>
      have e1 : u.refs = refsOf (u.walk []) := by simp [V.refs, hm]
      have hsz : u.size ≤ 512 := by simp [V.may, V.fits] at hm; omega
      have hht : u.ht ≤ 16 := by
        have := ht_le_dep u (may_ok hm)
        simp [V.may, V.fits] at hm; omega
      rw [e1]
      rw [hm] at hM
      clear hm e1
      go_enter Try.func59, Try.ntmps59
      go_wp2_with fail
      generalize World.alloc _ (.cells #[.slice none 0 0] 100) = W0 at *
      refine (hM _ ht1 (by omega)).mono ?_
      rintro e w2 ⟨rfl, fr2⟩
      have hst2 := refs_stay hst fr2 (fun _ _ h => h.elim)
      obtain ⟨k0, k1, k2, k3, k4, -⟩ := (hK.fr fr2 fun h => h).cells5
      have q1 := (hK.fr fr2 fun h => h).lt
      have hs2 := fr2.size
      have hw := hW [] _ w2 hst2 (ht1.no fr2 (by omega)) (by omega) (fun i h0 h1 h2 => by have h' : i = w.heap.size + 1 := h2; omega) (by simp; omega) (by simp; omega)
      have HW := hide hw
      have HF := hide (fr1.trans fr2)
      clear hst hst2 hK hM hW hw fr1 fr2
      go_wp2_with fail
      refine HW.out.mono ?_
      rintro e w3 hq
      obtain ⟨M', f3, hs3, rfl, hJ⟩ : ∃ M' : Nat → Prop, Fr (fun i => i = w.heap.size + 1) w2 w3 ∧ (∀ i, M' i → i < w2.heap.size → i = w.heap.size + 1) ∧ e = .returned (.bool true) ∧ RefsJ (w.heap.size + 1) (w.heap.size + 1 + 1) (u.walk []) M' w3 := by
        obtain ⟨M', h1, h2, ⟨h3, h4⟩ | ⟨_, q, _, h⟩⟩ := hq
        · exact ⟨M', h1, h2, h3, by simpa using h4⟩
        · exact h.elim
      obtain ⟨h0, h1, v, hb, ho, hMM⟩ := hJ
      have c0 := hb.cell 0
      simp only [List.getElem?_toArray, List.getElem?_cons_zero] at c0
      have q0 := hb.lt
      have HO := hide ho
      have HF3 := hide (HF.out.trans' f3 (fun i hi h => by have h' : i = w.heap.size + 1 := h; omega))
      clear hb ho hMM f3 hs3 hq k0 k1 k2 k3 k4
      go_wp2
      go_ret
      refine ⟨v, rfl, ?_, HF3.out⟩
      have h := HO.out
      exact ⟨h.1, h.2.imp id fun ⟨g, cp, cur, a, b, c⟩ => ⟨g, cp, cur, a, by omega, c⟩⟩

end Go.Proofs.Ytihjmipmjogpoaa

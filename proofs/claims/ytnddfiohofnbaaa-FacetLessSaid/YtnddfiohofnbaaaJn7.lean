/- Texts joined: E9, Wo5, Wo6, Wo8, Wo9, Wo10, Wo11. -/
import Derived.Test.YtnddfiohofnbaaaJn2
import Derived.Test.YtnddfiohofnbaaaJn6
import Derived.LoopN
import Derived.Deep.Quiet
import Derived.BigQuiet
/- Chapter 2: Refs. -/
namespace Go.Proofs.Ytnddfiohofnbaaa
open Go.RowKit

/-- The references among some parts. -/
def refsOf : List (List Int × V) → List Int
  | [] => []
  | (_, .mk k _ _ _ r) :: l => if k = 4 then r :: refsOf l else refsOf l

theorem refsOf_append (a b : List (List Int × V)) : refsOf (a ++ b) = refsOf a ++ refsOf b := by
  induction a with
  | nil => rfl
  | cons x a ih =>
    obtain ⟨p, k, n, s, l, r⟩ := x
    simp only [List.cons_append, refsOf]
    split <;> simp [ih]

theorem refsOf_length (a : List (List Int × V)) : (refsOf a).length ≤ a.length := by
  induction a with
  | nil => simp [refsOf]
  | cons x a ih =>
    obtain ⟨p, k, n, s, l, r⟩ := x
    simp only [refsOf]
    split <;> simp <;> omega

theorem ref_info : (Try.prog.info? 28).map (fun i => (i.zero, i.size, i.bytes)) = some (some (.int .i64 0), 1, 8) := by kernel_rfl

/-- What has been collected. -/
def RefsJ (g base : Nat) (pre : List (List Int × V)) (M : Nat → Prop) (W : World) : Prop :=
  g < base ∧ base ≤ W.heap.size ∧ ∃ v, Blk W g 40 #[v] ∧ W.ownsRow base 28 1 v (refsOf pre).length ((refsOf pre).map fun r => Value.int .i64 r) ∧ ∀ i, M i ↔ (i = g ∨ v.ownBlock = some i)

theorem refs_stay {g base : Nat} {pre : List (List Int × V)} {M : Nat → Prop} {W W' : World} {S : Nat → Prop} (h : RefsJ g base pre M W) (hf : Fr S W W') (hs : ∀ i, i < W.heap.size → S i → ¬ M i) : RefsJ g base pre M W' := by
  obtain ⟨h0, h1, v, hb, ho, hM⟩ := h
  exact ⟨h0, Nat.le_trans h1 hf.size, v, hb.fr hf (fun h => hs g hb.lt h ((hM g).2 (.inl rfl))), owns_fr ho hf (fun i hi h => hs i (owns_lt ho i hi).2 h ((hM i).2 (.inr hi))), hM⟩

set_option maxRecDepth 100000 in
set_option maxHeartbeats 2000000 in
theorem refs1_any (g base : Nat) (pre : List (List Int × V)) (M : Nat → Prop) (W : World) (x : T) (A : Option Addr) (n cap : Nat) (p : List Int) (hJ : RefsJ g base pre M W) (hp : pre.length < 1000000) :
    Calls Try.prog 108 #[.slice A n cap, x.val, .pointer (some ⟨g, 0, none⟩)] W fun e W' => e = .returned (.bool true) ∧ ∃ M' : Nat → Prop, Fr M W W' ∧ (∀ i, M' i → i < W.heap.size → M i) ∧ RefsJ g base (pre ++ [(p, x.v)]) M' W' := by
  obtain ⟨h0, h1, v, hb, ho, hM⟩ := hJ
  have hlen := refsOf_length pre
  cases x with
  | mk k nn s A1 cap1 l r =>
    rw [T.val_mk]
    have fr1 := (Fr.refl No W).alloc (.cells #[.int .u8 k, .int .i64 nn, .string s, .slice A1 l.length cap1, .int .i64 r] 37)
    have hb1 := hb.alloc (.cells #[.int .u8 k, .int .i64 nn, .string s, .slice A1 l.length cap1, .int .i64 r] 37)
    have hbx := Blk.new W 37 #[.int .u8 k, .int .i64 nn, .string s, .slice A1 l.length cap1, .int .i64 r]
    have ho1 := ho.alloc (.cells #[.int .u8 k, .int .i64 nn, .string s, .slice A1 l.length cap1, .int .i64 r] 37)
    have q0 := hb.lt
    by_cases hk : k = 4
    · subst hk
      have hr : refsOf (pre ++ [(p, (T.mk 4 nn s A1 cap1 l r).v)]) = refsOf pre ++ [r] := by rw [refsOf_append, T.v_mk]; rfl
      obtain ⟨i0, hi0, hz0, hz1, hz2⟩ := info_parts ref_info
      have hol := owns_lt ho
      have HR := hide hr
      have HOL := hide hol
      have HM := hide hM
      have HO := hide ho1
      have HB := hide hb
      have HF := hide fr1
      have c0 := hb1.cell 0
      have f0 := hb1.frozen 0
      simp only [List.getElem?_toArray, List.getElem?_cons_zero] at c0
      obtain ⟨x0, x1, x2, x3, x4, xf⟩ := hbx.cells5
      have q1 := hbx.lt
      have q2 := hb1.lt
      generalize hL : refsOf pre = L at *
      have HL := hide hL
      have hownA := ho1.alloc (.cells #[.int .i64 r] 28)
      have hBW : ∀ w1, ((W.alloc (.cells #[.int .u8 4, .int .i64 nn, .string s, .slice A1 l.length cap1, .int .i64 r] 37)).alloc (.cells #[.int .i64 r] 28)).grownBy w1 v.ownBlock → Blk w1 g 40 #[v] := fun w1 hg =>
        (hg.block g (by simp; omega) (fun h => by have := hol g h.symm; omega)).trans (hb1.alloc (.cells #[.int .i64 r] 28))
      have HBW := hide hBW
      clear hr hol hM ho1 hb fr1 hb1 hbx ho hL hBW
      go_enter Try.func108, Try.ntmps108
      go_wp2_with (at_builtin; refine wpList_append_lies _ (by rfl) _ _ _ (by rfl) base 28 i0 _ 1 8 Try.underlying40 hi0 hz0 hz1 hz2 (by rfl) (by omega) v L.length (L.map fun r => Value.int .i64 r) (by rfl) hownA ⟨W.heap.size + 1, 0, none⟩ 1 1 [.int .i64 r] (by rfl) (by rfl) (World.news_of_block (Blk.new' _ 28 #[.int .i64 r] (by simp))) (by simp [Value.oneCell']) (by omega) (by unfold maxLen; omega) (by omega) (by simp; omega) (W.heap.size + 1 + 1) (by simp) ?_; intro g2 cap2 w1 hown1 hgrow hat hlt1; have hbw := HBW.out w1 hgrow; have c1 := hbw.cell 0; have f1 := hbw.frozen 0; have q5 := hbw.lt; have HBW1 := hide hbw; simp only [List.getElem?_toArray, List.getElem?_cons_zero] at c1; clear hbw)
      go_ret
      have fA : Fr M W ((W.alloc (.cells #[.int .u8 4, .int .i64 nn, .string s, .slice A1 l.length cap1, .int .i64 r] 37)).alloc (.cells #[.int .i64 r] 28)) := (HF.out.alloc _).no
      have fB : Fr M W w1 := fA.grown hgrow fun i hi hlt => (HM.out i).2 (.inr hi)
      have fC : Fr M W (w1.setCell ⟨g, 0, none⟩ (.slice (some ⟨g2, 0, none⟩) (L.length + 1) cap2)) := fB.set (fun _ => (HM.out g).2 (.inl rfl)) _
      have hg2 : base ≤ g2 := (owns_lt hown1 g2 rfl).1
      refine ⟨rfl, fun i => i = g ∨ i = g2, fC, fun i hi hlt => ?_, h0, Nat.le_trans h1 fC.size, .slice (some ⟨g2, 0, none⟩) (L.length + 1) cap2, HBW1.out.set_ 0 _, ?_, fun i => ?_⟩
      · rcases hi with rfl | rfl
        · exact (HM.out _).2 (.inl rfl)
        · rcases hat with h | h
          · exact (HM.out _).2 (.inr h)
          · omega
      · rw [HR.out, List.length_append, List.map_append]
        exact owns_fr hown1 ((Fr.refl (fun i => i = g) w1).set (fun _ => rfl) _) (fun i hi h => by simp [Value.ownBlock] at hi; have h' : i = g := h; omega)
      · simp [Value.ownBlock, eq_comm]
    · have hk' : (k == 4) = false := by simpa using hk
      have hr : refsOf (pre ++ [(p, (T.mk k nn s A1 cap1 l r).v)]) = refsOf pre := by rw [refsOf_append, T.v_mk]; simp [refsOf, hk]
      have hpost : ∃ M' : Nat → Prop, Fr M W (W.alloc (.cells #[.int .u8 k, .int .i64 nn, .string s, .slice A1 l.length cap1, .int .i64 r] 37)) ∧ (∀ i, M' i → i < W.heap.size → M i) ∧ RefsJ g base (pre ++ [(p, (T.mk k nn s A1 cap1 l r).v)]) M' (W.alloc (.cells #[.int .u8 k, .int .i64 nn, .string s, .slice A1 l.length cap1, .int .i64 r] 37)) := by
        refine ⟨M, fr1.no, fun i h _ => h, h0, Nat.le_trans h1 fr1.size, v, hb1, ?_, hM⟩
        rw [hr]; exact ho1
      have HP := hide hpost
      clear hpost hr hb hb1 hbx ho ho1 hM fr1
      go_enter Try.func108, Try.ntmps108
      go_wp2
      go_ret
      exact ⟨rfl, HP.out⟩

theorem enters_fn2 {P : Program} {f : FuncId} {fn : Func} {c : Code} (hf : P.funcs[f]? = some fn) (hname : (fn.name == "runtime.NumGoroutine") = false) (hb : fn.body = some c) : ∀ args w, (callFunc f args).run P w = .ok (.enter f args) w := by
  intro args w
  have h1 : fn.name ≠ "runtime.NumGoroutine" := by simpa using hname
  simp [callFunc, hf, h1, hb, mark]

theorem refs_yields (g base : Nat) : Yields 1000000 108 #[.pointer (some ⟨g, 0, none⟩)] (RefsJ g base) (fun _ _ _ => False) where
  enters := enters_fn2 Try.func108 (by kernel_rfl) rfl
  call := fun pre M W x lo hi A cap p lo' hi' hl hJ _ _ _ _ _ _ => (refs1_any g base pre M W x A p.length cap p hJ hl).mono fun e W' ⟨he, M', h1, h2, h3⟩ => ⟨M', h1, h2, .inl ⟨he, h3⟩⟩
  stay := fun pre M W W' S h hf hs => refs_stay h hf hs
  lt := fun pre M W h i hi => by
    obtain ⟨h0, h1, v, hb, ho, hM⟩ := h
    rcases (hM i).1 hi with rfl | h
    · exact hb.lt
    · exact (owns_lt ho i h).2

/-- The references of a value, in the order of the walk. -/
def V.refs (v : V) : List Int := if v.may = true then refsOf (v.walk []) else []

def RefsP (L : List Int) (w : World) (e : Ending) (w' : World) : Prop := ∃ v, e = .returned v ∧ w'.ownsRow w.heap.size 28 1 v L.length (L.map fun r => Value.int .i64 r) ∧ Fr No w w'

theorem ints_nil (w : World) : Ints w 0 0 none 0 [] := ⟨by simp, Nat.le_refl _, fun h => absurd rfl h, by simp⟩

set_option maxRecDepth 100000 in
set_option maxHeartbeats 4000000 in
theorem Refs_any (t : T) (w : World) (lo hi : Nat) (ht : t.In w lo hi) (hh : hi ≤ w.heap.size) : Calls Try.prog 73 #[t.val] w (RefsP t.v.refs w) := by
  have hM := fun w' h h' => may_any t w' lo hi h h'
  have hW := fun pre M W hJ h h' h2 h3 => walk_any (refs_yields (w.heap.size + 1) (w.heap.size + 1 + 1)) t pre M W lo hi none 0 [] 0 0 hJ h h' h2 (ints_nil W) (Nat.zero_le _) (fun i h0 h1 => by omega) h3
  have hst : RefsJ (w.heap.size + 1) (w.heap.size + 1 + 1) [] (fun i => i = w.heap.size + 1) ((w.alloc (.cells #[.int .u8 0] 37)).alloc (.cells #[.slice none 0 0] 40)) := ⟨by omega, by simp, .slice none 0 0, Blk.new' (w.alloc _) 40 _ (by simp), World.ownsRow_nil _ _ _ _, fun i => by simp [Value.ownBlock]⟩
  clear hst
  cases t with
  | mk k n s A cap l r =>
    rw [T.val_mk] at *
    have hst : RefsJ (w.heap.size + 1) (w.heap.size + 1 + 1) [] (fun i => i = w.heap.size + 1) ((w.alloc (.cells #[.int .u8 k, .int .i64 n, .string s, .slice A l.length cap, .int .i64 r] 37)).alloc (.cells #[.slice none 0 0] 40)) := ⟨by omega, by simp, .slice none 0 0, Blk.new' (w.alloc _) 40 _ (by simp), World.ownsRow_nil _ _ _ _, fun i => by simp [Value.ownBlock]⟩
    have fr1 : Fr No w ((w.alloc (.cells #[.int .u8 k, .int .i64 n, .string s, .slice A l.length cap, .int .i64 r] 37)).alloc (.cells #[.slice none 0 0] 40)) := ((Fr.refl No w).alloc _).alloc _
    have hK : Blk ((w.alloc (.cells #[.int .u8 k, .int .i64 n, .string s, .slice A l.length cap, .int .i64 r] 37)).alloc (.cells #[.slice none 0 0] 40)) w.heap.size 37 #[.int .u8 k, .int .i64 n, .string s, .slice A l.length cap, .int .i64 r] := (Blk.new' w 37 _ rfl).alloc _
    have hs1 : w.heap.size + 1 + 1 ≤ ((w.alloc (.cells #[.int .u8 k, .int .i64 n, .string s, .slice A l.length cap, .int .i64 r] 37)).alloc (.cells #[.slice none 0 0] 40)).heap.size := by simp
    have ht1 := ht.no fr1 hh
    generalize hu : (T.mk k n s A cap l r).v = u at *
    have HU := hide hu
    clear hu ht
    cases hm : u.may with
    | false =>
      have e1 : u.refs = [] := by simp [V.refs, hm]
      rw [e1]
      rw [hm] at hM
      clear hm e1 hW
      go_enter Try.func73, Try.ntmps73
      go_wp2_with fail
      generalize World.alloc _ (.cells #[.slice none 0 0] 40) = W0 at *
      refine (hM _ ht1 (by omega)).mono ?_
      rintro e w2 ⟨rfl, fr2⟩
      obtain ⟨h0, h1, v, hb, ho, hMM⟩ := refs_stay hst fr2 (fun _ _ h => h.elim)
      have c0 := hb.cell 0
      simp only [List.getElem?_toArray, List.getElem?_cons_zero] at c0
      have q0 := hb.lt
      have HO := hide ho
      have HF := hide (fr1.trans fr2)
      clear hst hK hM hb ho hMM fr1 fr2
      go_wp2
      go_ret
      refine ⟨v, rfl, ?_, HF.out⟩
      have h := HO.out
      exact ⟨h.1, h.2.imp id fun ⟨g, cp, cur, a, b, c⟩ => ⟨g, cp, cur, a, by omega, c⟩⟩
    | true =>
      have e1 : u.refs = refsOf (u.walk []) := by simp [V.refs, hm]
      have hsz : u.size ≤ 512 := by simp [V.may, V.fits] at hm; omega
      have hht : u.ht ≤ 16 := by
        have := ht_le_dep u (may_ok hm)
        simp [V.may, V.fits] at hm; omega
      rw [e1]
      rw [hm] at hM
      clear hm e1
      go_enter Try.func73, Try.ntmps73
      go_wp2_with fail
      generalize World.alloc _ (.cells #[.slice none 0 0] 40) = W0 at *
      refine (hM _ ht1 (by omega)).mono ?_
      rintro e w2 ⟨rfl, fr2⟩
      have hst2 := refs_stay hst fr2 (fun _ _ h => h.elim)
      obtain ⟨k0, k1, k2, k3, k4, -⟩ := (hK.fr fr2 fun h => h).cells5
      have q1 := (hK.fr fr2 fun h => h).lt
      have hs2 := fr2.size
      have hw := hW [] _ w2 hst2 (ht1.no fr2 (by omega)) (by omega) (fun i h0 h1 h2 => by have h' : i = w.heap.size + 1 := h2; omega) (by simp; omega) (by simp; omega)
      have HW := hide hw
      have HF := hide (fr1.trans fr2)
      clear hst hst2 hK hM hW hw fr1 fr2
      go_wp2_with fail
      refine HW.out.mono ?_
      rintro e w3 hq
      obtain ⟨M', f3, hs3, rfl, hJ⟩ : ∃ M' : Nat → Prop, Fr (fun i => i = w.heap.size + 1) w2 w3 ∧ (∀ i, M' i → i < w2.heap.size → i = w.heap.size + 1) ∧ e = .returned (.bool true) ∧ RefsJ (w.heap.size + 1) (w.heap.size + 1 + 1) (u.walk []) M' w3 := by
        obtain ⟨M', h1, h2, ⟨h3, h4⟩ | ⟨_, q, _, h⟩⟩ := hq
        · exact ⟨M', h1, h2, h3, by simpa using h4⟩
        · exact h.elim
      obtain ⟨h0, h1, v, hb, ho, hMM⟩ := hJ
      have c0 := hb.cell 0
      simp only [List.getElem?_toArray, List.getElem?_cons_zero] at c0
      have q0 := hb.lt
      have HO := hide ho
      have HF3 := hide (HF.out.trans' f3 (fun i hi h => by have h' : i = w.heap.size + 1 := h; omega))
      clear hb ho hMM f3 hs3 hq k0 k1 k2 k3 k4
      go_wp2
      go_ret
      refine ⟨v, rfl, ?_, HF3.out⟩
      have h := HO.out
      exact ⟨h.1, h.2.imp id fun ⟨g, cp, cur, a, b, c⟩ => ⟨g, cp, cur, a, by omega, c⟩⟩

end Go.Proofs.Ytnddfiohofnbaaa

/- Worlds: names: are the references of what a thing has things? -/
namespace Go.Proofs.Ytnddfiohofnbaaa
open Go.RowKit

section
variable {m : Wm} {lo : Nat} {W : World}

/-- Are all of some numbers things? -/
def Wm.are (m : Wm) (L : List Int) : Bool := L.all fun r => (m.get r).isSome

theorem names1_w (h : m.Ok lo W) {g : Nat} (hb : Blk W g 23 #[.pointer (some ⟨m.wb, 0, none⟩)]) (r : Int) : Calls Try.prog 97 #[.int .i64 r, .pointer (some ⟨g, 0, none⟩)] W fun e w' => e = .returned (.bool (!(m.get r).isSome)) ∧ w' = W := by
  have hI := Is_w h r
  have c0 : W.cell? ⟨g, 0, none⟩ = some (.pointer (some ⟨m.wb, 0, none⟩)) := hb.cell 0
  have q0 := hb.lt
  clear h hb
  generalize (m.get r).isSome = q at *
  cases q
  all_goals
    go_enter Try.func97, Try.ntmps97
    go_wp2_with fail
    refine hI.mono ?_
    rintro e w2 ⟨rfl, rfl⟩
    go_wp2
    go_ret
    exact ⟨rfl, rfl⟩

/-- A row of numbers, one of them. -/
theorem row_at {w : World} {base : Nat} {A : Option Addr} {cap : Nat} {L : List Int} (h : w.ownsRow base 28 1 (.slice A L.length cap) L.length (L.map fun r => Value.int .i64 r)) {j : Nat} (hj : j < L.length) : ∃ g, A = some ⟨g, 0, none⟩ ∧ g < w.heap.size ∧ w.cell? ⟨g, j, none⟩ = some (.int .i64 L[j]) := by
  obtain ⟨g, c, hA, hg0, hg1⟩ := h.form (by omega)
  simp only [Value.slice.injEq, true_and] at hA
  obtain ⟨rfl, rfl⟩ := hA
  have := World.ownsRow.cells h (g := g) rfl j (.int .i64 L[j]) (by simp [hj])
  rw [add_at, Nat.zero_add] at this
  exact ⟨g, rfl, hg1, this⟩

set_option maxRecDepth 100000 in
set_option maxHeartbeats 4000000 in
theorem indexR_w (h : m.Ok lo W) {g base : Nat} (hb : Blk W g 23 #[.pointer (some ⟨m.wb, 0, none⟩)]) (A : Option Addr) (cap : Nat) (L : List Int) (hr : W.ownsRow base 28 1 (.slice A L.length cap) L.length (L.map fun r => Value.int .i64 r)) (hlen : L.length ≤ 140737488351232) :
    Calls Try.prog 118 #[.slice A L.length cap, .func (.func 97) #[] #[.pointer (some ⟨g, 0, none⟩)]] W fun e w' => (∃ z : Int, e = .returned (.int .i64 z) ∧ ((0 ≤ z ∧ m.are L = false) ∨ (z = -1 ∧ m.are L = true))) ∧ w' = W := by
  have HB := hide (names1_w h hb)
  have HR := hide hr
  clear h hb hr
  go_enter Try.func118, Try.ntmps118
  go_wp2_with fail
  go_loopw [8] (fun i wr => ∃ j : Nat, j ≤ L.length ∧ i = .int .i64 j ∧ wr = W ∧ ∀ v ∈ L.take j, (m.get v).isSome = true) (fun i _ => L.length - (intOf i).toNat)
  case atStart => exact ⟨0, Nat.zero_le _, rfl, rfl, by simp⟩
  case round =>
    obtain ⟨j, hj, rfl, rfl, hall⟩ := hrel
    have HA := hide hall
    clear hall
    by_cases hlt : j < L.length
    · obtain ⟨b, rfl, hb1, e0⟩ := row_at HR.out hlt
      have hc := HB.out L[j]
      have htk : L.take (j + 1) = L.take j ++ [L[j]] := by rw [List.take_succ_eq_append_getElem hlt]
      have hmem : L[j] ∈ L := List.getElem_mem hlt
      generalize L[j] = u at *
      have HT := hide htk
      have HM := hide hmem
      clear htk hmem
      cases hm : (m.get u).isSome with
      | false =>
        rw [hm] at hc
        have HC := hide hc
        have hno : m.are L = false := by
          rw [Bool.eq_false_iff]
          intro h
          have := List.all_eq_true.1 h u HM.out
          rw [hm] at this
          cases this
        have HN := hide hno
        clear hc hno hm
        go_wp2_with fail
        refine HC.out.mono ?_
        rintro e w2 ⟨rfl, rfl⟩
        go_wp2
        go_ret
        exact ⟨⟨_, rfl, .inl ⟨by omega, HN.out⟩⟩, rfl⟩
      | true =>
        rw [hm] at hc
        have HC := hide hc
        have HMM := hide hm
        clear hc hm
        go_wp2_with fail
        refine HC.out.mono ?_
        rintro e w2 ⟨rfl, rfl⟩
        go_wp2
        go_roundw
        case rel =>
          refine ⟨j + 1, hlt, by go_num, trivial, fun v hv => ?_⟩
          rw [HT.out] at hv
          rcases List.mem_append.1 hv with hv | hv
          · exact HA.out v hv
          · simp at hv; subst hv; exact HMM.out
        case measure => simp [intOf]; omega
    · obtain rfl : L.length = j := by omega
      have hyes : m.are L = true := List.all_eq_true.2 fun v hv => HA.out v (by rw [List.take_of_length_le (Nat.le_refl _)]; exact hv)
      have HY := hide hyes
      clear hyes
      go_wp2
      go_ret
      exact ⟨⟨-1, rfl, .inr ⟨rfl, HY.out⟩⟩, rfl⟩

theorem containsR_w (h : m.Ok lo W) {g base : Nat} (hb : Blk W g 23 #[.pointer (some ⟨m.wb, 0, none⟩)]) (A : Option Addr) (cap : Nat) (L : List Int) (hr : W.ownsRow base 28 1 (.slice A L.length cap) L.length (L.map fun r => Value.int .i64 r)) (hlen : L.length ≤ 140737488351232) :
    Calls Try.prog 95 #[.slice A L.length cap, .func (.func 97) #[] #[.pointer (some ⟨g, 0, none⟩)]] W fun e w' => e = .returned (.bool (!m.are L)) ∧ w' = W := by
  have hI := indexR_w h hb A cap L hr hlen
  generalize m.are L = q at *
  clear h hb hr
  go_enter Try.func95, Try.ntmps95
  go_wp2_with fail
  refine hI.mono ?_
  rintro e w2 ⟨⟨z, rfl, hz⟩, rfl⟩
  rcases hz with ⟨h0, rfl⟩ | ⟨rfl, rfl⟩
  · have h1 : decide ((0 : Int) ≤ z) = true := by simpa using h0
    go_wp2
    go_ret
    exact ⟨rfl, rfl⟩
  · go_wp2
    go_ret
    exact ⟨rfl, rfl⟩
end

/-- held: the references of what a thing has. -/
theorem held_w (kind home k n : Int) (s : ByteArray) (A : Option Addr) (cap : Nat) (l : List T) (r n1 lost ofr byr set : Int) (full : Bool) (W : World) (hi : Nat) (ht : (T.mk k n s A cap l r).In W 0 hi) (hhi : hi ≤ W.heap.size) :
    Calls Try.prog 96 #[.agg (th16 kind home k n s A l.length cap r n1 lost ofr byr set full)] W (RefsP (T.mk k n s A cap l r).v.refs W) := by
  have hR := Refs_any (T.mk k n s A cap l r) (W.alloc (.cells (th16 kind home k n s A l.length cap r n1 lost ofr byr set full) 83)) 0 hi (ht.no ((Fr.refl No W).alloc _) hhi) (by simp; omega)
  rw [T.val_mk] at hR
  generalize (T.mk k n s A cap l r).v.refs = L at *
  have hb0 := Blk.new W 83 (th16 kind home k n s A l.length cap r n1 lost ofr byr set full)
  have hf0 := (Fr.refl No W).alloc (.cells (th16 kind home k n s A l.length cap r n1 lost ofr byr set full) 83)
  unfold th16 at hR hb0 hf0 ⊢
  have HR := hide hR
  have HB0 := hide hb0
  have HF0 := hide hf0
  obtain ⟨d0, d1, d2, d3, d4, d5, d6, d7, d8, d9, d10, d11, d12, d13, d14, d15⟩ := hb0.cells16
  have dq := hb0.lt
  clear ht hhi hR hb0 hf0
  go_enter Try.func96, Try.ntmps96
  go_wp2_with fail
  generalize World.alloc W _ = W0 at *
  refine HR.out.mono ?_
  rintro e w1 ⟨v, rfl, hrow, f1⟩
  have hb := HB0.out.fr f1 fun h => h
  clear d0 d1 d2 d3 d4 d5 d6 d7 d8 d9 d10 d11 d12 d13 d14 d15 dq
  obtain ⟨d0, d1, d2, d3, d4, d5, d6, d7, d8, d9, d10, d11, d12, d13, d14, d15⟩ := hb.cells16
  have dq := hb.lt
  have HROW := hide hrow
  have HF1 := hide (HF0.out.trans f1)
  have HS := hide HF0.out.size
  clear hb hrow f1
  go_wp2_with fail
  refine wp_loop_rounds 1 ?_
  rw [rounds_succ]
  go_wp2_with fail
  refine wp_loop_rounds 1 ?_
  rw [rounds_succ]
  go_wp2_with fail
  go_ret
  exact ⟨v, rfl, owns_mono HROW.out HS.out, HF1.out⟩

end Go.Proofs.Ytnddfiohofnbaaa

/- Worlds: fits' closure; other. -/
namespace Go.Proofs.Ytnddfiohofnbaaa
open Go.RowKit

/-- A world behind W, in which nothing old has turned. -/
structure ClN (W : World) where
  w : World
  fr : Fr No W w

/-- A region that draws its order, quiet in a class of one's own. -/
theorem wp_region_quiet_cl {P : Program} {id : Nat} {Q : Exit → Act → World → Prop} {a : Act} {w : World} {l : List Oper} (C : World → Prop) (hm : P.follows .mixedOrders = true) (hB : Region.lexB .any l.toArray = true) (hC : C { w with drawn := w.drawn + 1 })
    (h : wpQuiet P l.toArray C (fun a' => ∀ w', C w' → Q .normal a' w') l a) : (Code.region id l.toArray true).wp P Q a w :=
  wp_region_quiet (C := C) hm hB hC (by simpa using h)

section
variable {m : Wm} {lo : Nat} {W : World}

theorem map_cell (h : m.Ok lo W) : W.cell? ⟨m.wb, 2, none⟩ = some (.map (some m.M)) := by
  have c0 := h.blk.cell 2
  simpa only [Wm.cells, List.getElem?_toArray, List.getElem?_cons_zero, List.getElem?_cons_succ] using c0

set_option maxRecDepth 100000 in
theorem fits1_yes (h : m.Ok lo W) {g gx : Nat} (hb : Blk W g 23 #[.pointer (some ⟨m.wb, 0, none⟩)]) {r k home : Int} {x : Nat × Th} (hg : m.get r = some x) (hk : x.2.kind = k) (hh : x.2.home = home) (hxc : W.cell? ⟨gx, 1, none⟩ = some (.int .i64 home)) (hgx : gx < W.heap.size) :
    Calls Try.prog 99 #[.int .i64 r, .int .u8 k, .pointer (some ⟨g, 0, none⟩), .pointer (some ⟨gx, 0, none⟩)] W fun e w' => e = .returned (.bool true) ∧ Fr No W w' := by
  have hx := Wm.get_mem hg
  have b0 : ∀ q : ClN W, q.w.cell? ⟨g, 0, none⟩ = some (.pointer (some ⟨m.wb, 0, none⟩)) := fun q => (hb.fr q.fr fun h => h).cell 0
  have bx : ∀ q : ClN W, q.w.cell? ⟨gx, 1, none⟩ = some (.int .i64 home) := fun q => (q.fr.cell hgx fun h => h).trans hxc
  have c0 : ∀ q : ClN W, q.w.cell? ⟨m.wb, 2, none⟩ = some (.map (some m.M)) := fun q => map_cell (h.no q.fr)
  have hl : ∀ q : ClN W, (Instr.lookup 73 (.map (some m.M)) (.int .i64 r) false).run Try.prog q.w = .ok (.pointer (some ⟨x.1, 0, none⟩)) q.w := fun q => by
    have := look_thing (h.no q.fr) r
    rw [hg] at this
    exact this
  have d1 : ∀ q : ClN W, q.w.cell? ⟨x.1, 1, none⟩ = some (.int .i64 home) := fun q => by
    rw [← hh]
    exact ((h.no q.fr).box x hx).cell 1
  have HK : Hid (∀ q : ClN W, Calls Try.prog 43 #[.pointer (some ⟨m.wb, 0, none⟩), .int .i64 r] q.w fun e w'' => e = .returned (.int .u8 k) ∧ ∃ q' : ClN W, w'' = q'.w) := hide fun q => by
    refine (Kind_w (h.no q.fr) r).mono ?_
    rintro e w'' ⟨rfl, rfl⟩
    exact ⟨by unfold Wm.kind; rw [hg, ← hk]; rfl, q, rfl⟩
  clear h hb hg hk hh hxc hgx hx
  go_enter Try.func99, Try.ntmps99
  go_wp2_with fail
  have hinst : Nonempty (ClN W) := ⟨⟨W, Fr.refl No W⟩⟩
  refine wp_region_quiet_cl (fun W' => ∃ q : ClN W, W' = q.w) (by kernel_rfl) (by kernel_rfl) ⟨⟨_, (Fr.refl No W).drew⟩, rfl⟩ ?_
  repeat (go_big_quiet_step ((go_at_call 43; exact HK.out _)))
  refine wpQuiet_nil ?_
  rintro Wc ⟨⟨_, f3⟩, rfl⟩
  clear b0 bx c0 hl d1 HK hinst
  go_wp2_with fail
  go_ret
  exact ⟨rfl, f3⟩

/-- Where the range over the things stands. -/
structure OI (W : World) (M cl rI : Nat) (v : List Nat) (wr : World) : Prop where
  fr : Fr No W wr
  it : wr.heap[rI]? = some (.mapIter (some M) cl v.toArray cl)
  r0 : W.heap.size ≤ rI

theorem fr_setBlock (W : World) (r : Nat) (o : Obj) : Fr (fun i => i = r) W (ChangeMaps.setBlock W r o) :=
  ⟨rfl, rfl, rfl, by simp [ChangeMaps.setBlock], fun b hb hn => by simp [ChangeMaps.setBlock, Array.getElem?_setIfInBounds]; intro h; exact absurd h.symm hn⟩

theorem setBlock_at {W : World} {r : Nat} (o : Obj) (h : r < W.heap.size) : (ChangeMaps.setBlock W r o).heap[r]? = some o := by
  simp [ChangeMaps.setBlock, h]

theorem iterSeen_of {W : World} {r : Nat} {m : Option Nat} {a c : Nat} {s : Array Nat} (h : W.heap[r]? = some (.mapIter m a s c)) : W.iterSeen r = s := by
  simp [World.iterSeen, h]

set_option maxRecDepth 100000 in
set_option maxHeartbeats 4000000 in
theorem other_no (h : m.Ok lo W) {k of_ : Int} (hno : ∀ x ∈ m.th, ¬ (x.2.kind = k ∧ x.2.ofr = of_)) :
    Calls Try.prog 100 #[.pointer (some ⟨m.wb, 0, none⟩), .int .i64 0, .int .u8 k, .int .i64 of_] W fun e w' => e = .returned (.bool false) ∧ Fr No W w' := by
  obtain ⟨es, cl, hm, hes, hst⟩ := h.things
  have c0 := map_cell h
  have q0 := h.blk.lt
  have hrg := run_range_map (P := Try.prog) W 73 28 100 m.M es cl Try.underlying73 hm
  have hM := lt_of_heap hm
  have HINV : Hid (OI W m.M cl W.heap.size [] (W.alloc (.mapIter (some m.M) cl #[] cl))) := ⟨(Fr.refl No W).alloc _, World.alloc_heap_new _ _, Nat.le_refl _⟩
  have HES := hide hes
  have HST := hide hst
  have HOK := hide h
  clear hes hst h
  generalize hrI : W.heap.size = rI at *
  go_enter Try.func100, Try.ntmps100
  go_wp2_with fail
  go_loopw [8] (fun _ wr => ∃ v, OI W m.M cl rI v wr) (fun _ wr => (leftOf es (wr.iterSeen rI)).size)
  case atStart => exact ⟨[], HINV.out⟩
  case round =>
    obtain ⟨v, inv⟩ := hrel
    have hnx := run_next_at (P := Try.prog) wr 0 rI m.M cl cl v.toArray es cl inv.it ((inv.fr.block m.M (by omega) (fun h => h)).trans hm) HST.out.1 (Nat.le_refl _)
    rcases hnx with ⟨h0, hnx⟩ | ⟨e, he, w3, hw3, hnx⟩
    · have HI := hide inv
      clear inv h0 hrg HINV
      go_wp2
      go_ret
      exact ⟨rfl, HI.out.fr⟩
    · obtain ⟨hem, hns⟩ := mem_left he
      have hshr := left_shrinks es _ e he
      obtain ⟨i, hi, hei⟩ := List.mem_iff_getElem.1 hem
      have hit : i < m.th.length := by rw [← HES.out.1]; exact hi
      obtain ⟨hkey, hval⟩ := HES.out.2 i e m.th[i] (by rw [← hei]; exact List.getElem?_eq_getElem hi) (List.getElem?_eq_getElem hit)
      have hxm : m.th[i] ∈ m.th := List.getElem_mem hit
      have hnx0 := hno _ hxm
      have F3 : Fr (fun i => i = rI) wr (ChangeMaps.setBlock w3 rI (.mapIter (some m.M) cl (v.toArray.push e.born) cl)) := by
        rcases hw3 with rfl | rfl
        · exact fr_setBlock _ _ _
        · exact ((Fr.refl _ wr).drew).trans (fr_setBlock _ _ _)
      have hil := lt_of_heap inv.it
      have hit3 : (ChangeMaps.setBlock w3 rI (.mapIter (some m.M) cl (v.toArray.push e.born) cl)).heap[rI]? = some (.mapIter (some m.M) cl (v.toArray.push e.born) cl) := by
        rcases hw3 with rfl | rfl
        · exact setBlock_at _ hil
        · exact setBlock_at _ hil
      generalize ChangeMaps.setBlock w3 rI _ = W3 at *
      have hr0 := inv.r0
      have F3' : Fr No W W3 := inv.fr.trans' F3 fun q hq h => by have h' : q = rI := h; omega
      have hm3 : W3.heap[m.M]? = some (.map es cl) := (F3'.block m.M (by omega) fun h => h).trans hm
      have hent := run_entry_at (P := Try.prog) W3 rI m.M cl _ es cl e hit3 hm3 hem HST.out.2
      have bx := (HOK.out.box _ hxm).fr F3' fun h => h
      rw [hkey, hval] at hnx hent
      have HSH := hide hshr
      have HIT3 := hide hit3
      have HIN := hide inv
      have HF3 := hide F3'
      generalize m.th[i] = x at *
      obtain ⟨gx, kind, home, ⟨k1, n1, s1, A1, c1, l1, r1⟩, n2, lost, ofr, byr, set, full⟩ := x
      have d0 : W3.cell? ⟨gx, 0, none⟩ = some (.int .u8 kind) := bx.cell 0
      have d10 : W3.cell? ⟨gx, 10, none⟩ = some (.int .i64 ofr) := bx.cell 10
      have dq : gx < W3.heap.size := bx.lt
      simp only at hnx0 hnx hent
      have hne : ((i : Int) + 1 != 0) = true := by simp; omega
      clear hem hns hshr hi hei hit hkey hval hxm F3 hil hit3 hr0 hm3 bx inv he hw3 hrg HINV F3'
      by_cases hk : kind = k
      · have hof : (ofr == of_) = false := by
          have : ofr ≠ of_ := fun h => hnx0 ⟨hk, h⟩
          simpa using this
        subst hk
        clear hnx0
        go_wp2_with fail
        go_roundw
        case rel => exact ⟨v ++ [e.born], HF3.out, by simpa using HIT3.out, HIN.out.r0⟩
        case measure =>
          rw [iterSeen_of HIT3.out, iterSeen_of HIN.out.it]
          exact HSH.out
      · have hkb : (kind == k) = false := by simpa using hk
        clear hnx0 hk
        go_wp2_with fail
        go_roundw
        case rel => exact ⟨v ++ [e.born], HF3.out, by simpa using HIT3.out, HIN.out.r0⟩
        case measure =>
          rw [iterSeen_of HIT3.out, iterSeen_of HIN.out.it]
          exact HSH.out
end

end Go.Proofs.Ytnddfiohofnbaaa

/- Worlds: names, fits, asksOf, asksBy. -/
namespace Go.Proofs.Ytnddfiohofnbaaa
open Go.RowKit

section
variable {m : Wm} {lo : Nat} {W : World}

set_option maxRecDepth 100000 in
set_option maxHeartbeats 4000000 in
theorem names_w (h : m.Ok lo W) (kind home k n : Int) (s : ByteArray) (A : Option Addr) (cap : Nat) (l : List T) (r n1 lost ofr byr set : Int) (full : Bool) (hi : Nat) (ht : (T.mk k n s A cap l r).In W 0 hi) (hhi : hi ≤ W.heap.size) (hln : (T.mk k n s A cap l r).v.refs.length ≤ 140737488351232) :
    Calls Try.prog 66 #[.pointer (some ⟨m.wb, 0, none⟩), .agg (th16 kind home k n s A l.length cap r n1 lost ofr byr set full)] W fun e w' => e = .returned (.bool (m.are (T.mk k n s A cap l r).v.refs)) ∧ Fr No W w' := by
  have hb0 := (Blk.new W 23 #[.pointer (some ⟨m.wb, 0, none⟩)]).alloc (.cells (th16 kind home k n s A l.length cap r n1 lost ofr byr set full) 83)
  have hb1 := Blk.new' (W.alloc (.cells #[.pointer (some ⟨m.wb, 0, none⟩)] 23)) 83 (th16 kind home k n s A l.length cap r n1 lost ofr byr set full) (g := W.heap.size + 1) (by simp)
  have hf0 := ((Fr.refl No W).alloc (.cells #[.pointer (some ⟨m.wb, 0, none⟩)] 23)).alloc (.cells (th16 kind home k n s A l.length cap r n1 lost ofr byr set full) 83)
  have hH := fun W' (f : Fr No W W') => held_w kind home k n s A cap l r n1 lost ofr byr set full W' hi (ht.no f hhi) (Nat.le_trans hhi f.size)
  generalize (T.mk k n s A cap l r).v.refs = L at *
  have HB0 := hide hb0
  have HF0 := hide hf0
  have HOK := hide h
  unfold th16 at hb1 hH HF0 HB0 ⊢
  have HH := hide hH
  obtain ⟨q, hq⟩ : ∃ q, m.are L = q := ⟨_, rfl⟩
  rw [hq]
  have HQ := hide hq
  clear hq
  obtain ⟨d0, d1, d2, d3, d4, d5, d6, d7, d8, d9, d10, d11, d12, d13, d14, d15⟩ := hb1.cells16
  have dq := hb1.lt
  clear ht hhi hb0 hb1 hf0 hH h
  go_enter Try.func66, Try.ntmps66
  go_wp2_with fail
  generalize World.alloc (World.alloc W _) _ = W0 at *
  refine (HH.out W0 HF0.out).mono ?_
  rintro e w1 ⟨v, rfl, hrow, f1⟩
  obtain ⟨A1, c1, rfl⟩ := owns_form hrow
  have hc := containsR_w ((HOK.out.no HF0.out).no f1) (HB0.out.fr f1 fun h => h) A1 c1 L hrow hln
  rw [HQ.out] at hc
  have HC := hide hc
  have HF1 := hide (HF0.out.trans f1)
  clear d0 d1 d2 d3 d4 d5 d6 d7 d8 d9 d10 d11 d12 d13 d14 d15 dq hrow f1 hc HQ
  cases q
  all_goals
    go_wp2_with fail
    refine HC.out.mono ?_
    rintro e w2 ⟨rfl, rfl⟩
    go_wp2
    go_ret
    exact ⟨rfl, HF1.out⟩

set_option maxRecDepth 100000 in
set_option maxHeartbeats 4000000 in
theorem fits5 (home k n : Int) (s : ByteArray) (A : Option Addr) (len cap : Nat) (r n1 lost ofr byr set : Int) (full : Bool) (b : Nat) :
    Calls Try.prog 69 #[.pointer (some ⟨b, 0, none⟩), .int .i64 0, .agg (th16 5 home k n s A len cap r n1 lost ofr byr set full)] W fun e w' => e = .returned (.bool true) ∧ Fr No W w' := by
  unfold th16
  go_enter Try.func69, Try.ntmps69
  go_wp2
  go_ret
  exact ⟨rfl, ((Fr.refl No W).alloc _).alloc _⟩

set_option maxRecDepth 100000 in
set_option maxHeartbeats 4000000 in
theorem fits7 (h : m.Ok lo W) (home k n : Int) (s : ByteArray) (A : Option Addr) (len cap : Nat) (r n1 lost ofr byr set : Int) (full : Bool) {x : Nat × Th} (hg : m.get ofr = some x) (hk : x.2.kind = 5) (hh : x.2.home = home) :
    Calls Try.prog 69 #[.pointer (some ⟨m.wb, 0, none⟩), .int .i64 0, .agg (th16 7 home k n s A len cap r n1 lost ofr byr set full)] W fun e w' => e = .returned (.bool true) ∧ Fr No W w' := by
  have hb0 := (Blk.new W 23 #[.pointer (some ⟨m.wb, 0, none⟩)]).alloc (.cells (th16 7 home k n s A len cap r n1 lost ofr byr set full) 83)
  have hb1 := Blk.new' (W.alloc (.cells #[.pointer (some ⟨m.wb, 0, none⟩)] 23)) 83 (th16 7 home k n s A len cap r n1 lost ofr byr set full) (g := W.heap.size + 1) (by simp)
  have hf0 := ((Fr.refl No W).alloc (.cells #[.pointer (some ⟨m.wb, 0, none⟩)] 23)).alloc (.cells (th16 7 home k n s A len cap r n1 lost ofr byr set full) 83)
  have hc := fits1_yes (h.no hf0) hb0 hg hk hh (gx := W.heap.size + 1) (hb1.cell 1) hb1.lt
  unfold th16 at hb1 hc ⊢
  have HC := hide hc
  have HF0 := hide hf0
  unfold th16 at HF0
  obtain ⟨d0, d1, d2, d3, d4, d5, d6, d7, d8, d9, d10, d11, d12, d13, d14, d15⟩ := hb1.cells16
  have dq := hb1.lt
  clear hb0 hb1 hf0 hc h hg hk hh
  go_enter Try.func69, Try.ntmps69
  go_wp2_with fail
  generalize World.alloc (World.alloc W _) _ = W0 at *
  refine HC.out.mono ?_
  rintro e w1 ⟨rfl, f1⟩
  clear d0 d1 d2 d3 d4 d5 d6 d7 d8 d9 d10 d11 d12 d13 d14 d15 dq
  go_wp2
  go_ret
  exact ⟨rfl, HF0.out.trans f1⟩

set_option maxRecDepth 100000 in
set_option maxHeartbeats 4000000 in
theorem fits6 (h : m.Ok lo W) (home k n : Int) (s : ByteArray) (A : Option Addr) (len cap : Nat) (r n1 lost ofr byr set : Int) (full : Bool) {x : Nat × Th} (hg : m.get ofr = some x) (hk : x.2.kind = 5) (hh : x.2.home = home) (hno : ∀ x ∈ m.th, ¬ (x.2.kind = 6 ∧ x.2.ofr = ofr)) :
    Calls Try.prog 69 #[.pointer (some ⟨m.wb, 0, none⟩), .int .i64 0, .agg (th16 6 home k n s A len cap r n1 lost ofr byr set full)] W fun e w' => e = .returned (.bool true) ∧ Fr No W w' := by
  have hb0 := (Blk.new W 23 #[.pointer (some ⟨m.wb, 0, none⟩)]).alloc (.cells (th16 6 home k n s A len cap r n1 lost ofr byr set full) 83)
  have hb1 := Blk.new' (W.alloc (.cells #[.pointer (some ⟨m.wb, 0, none⟩)] 23)) 83 (th16 6 home k n s A len cap r n1 lost ofr byr set full) (g := W.heap.size + 1) (by simp)
  have hf0 := ((Fr.refl No W).alloc (.cells #[.pointer (some ⟨m.wb, 0, none⟩)] 23)).alloc (.cells (th16 6 home k n s A len cap r n1 lost ofr byr set full) 83)
  have hc := fits1_yes (h.no hf0) hb0 hg hk hh (gx := W.heap.size + 1) (hb1.cell 1) hb1.lt
  have HN := hide fun W' (f : Fr No W W') => other_no (h.no f) hno
  unfold th16 at hb1 hc ⊢
  have HC := hide hc
  have HB0 := hide hb0
  have HB1 := hide hb1
  have HF0 := hide hf0
  unfold th16 at HF0 HB0
  obtain ⟨d0, d1, d2, d3, d4, d5, d6, d7, d8, d9, d10, d11, d12, d13, d14, d15⟩ := hb1.cells16
  have dq := hb1.lt
  clear hb0 hb1 hf0 hc h hg hk hh hno
  go_enter Try.func69, Try.ntmps69
  go_wp2_with fail
  generalize World.alloc (World.alloc W _) _ = W0 at *
  refine HC.out.mono ?_
  rintro e w1 ⟨rfl, f1⟩
  have hb := HB1.out.fr f1 fun h => h
  have hb2 := HB0.out.fr f1 fun h => h
  have HF1 := hide (HF0.out.trans f1)
  clear d0 d1 d2 d3 d4 d5 d6 d7 d8 d9 d10 d11 d12 d13 d14 d15 dq f1
  obtain ⟨d0, d1, d2, d3, d4, d5, d6, d7, d8, d9, d10, d11, d12, d13, d14, d15⟩ := hb.cells16
  have dq := hb.lt
  have e0 : w1.cell? ⟨W.heap.size, 0, none⟩ = some (.pointer (some ⟨m.wb, 0, none⟩)) := hb2.cell 0
  have eq_ := hb2.lt
  clear hb hb2
  go_wp2_with fail
  refine (HN.out w1 HF1.out).mono ?_
  rintro e w2 ⟨rfl, f2⟩
  clear d0 d1 d2 d3 d4 d5 d6 d7 d8 d9 d10 d11 d12 d13 d14 d15 dq e0 eq_
  go_wp2
  go_ret
  exact ⟨rfl, HF1.out.trans f2⟩
end

/-- asksOf, asksBy of the kinds that are made here. -/
theorem asks5 (W : World) : Calls Try.prog 67 #[.int .u8 5] W fun e w' => e = .returned (.bool false) ∧ w' = W := by
  have hw : Calls Try.prog 98 #[.int .u8 5] W fun e w' => e = .returned (.bool false) ∧ w' = W := by
    go_enter Try.func98, Try.ntmps98
    go_wp2
    go_ret
    exact ⟨rfl, rfl⟩
  go_enter Try.func67, Try.ntmps67
  go_wp2_with fail
  refine hw.mono ?_
  rintro e w' ⟨rfl, rfl⟩
  go_wp2
  go_ret
  exact ⟨rfl, rfl⟩

theorem asks6 (W : World) : Calls Try.prog 67 #[.int .u8 6] W fun e w' => e = .returned (.bool true) ∧ w' = W := by
  go_enter Try.func67, Try.ntmps67
  go_wp2
  go_ret
  exact ⟨rfl, rfl⟩

theorem asks7 (W : World) : Calls Try.prog 67 #[.int .u8 7] W fun e w' => e = .returned (.bool true) ∧ w' = W := by
  go_enter Try.func67, Try.ntmps67
  go_wp2
  go_ret
  exact ⟨rfl, rfl⟩

theorem by5 (k : Int) (hk : k = 5 ∨ k = 6 ∨ k = 7) (W : World) : Calls Try.prog 68 #[.int .u8 k] W fun e w' => e = .returned (.bool false) ∧ w' = W := by
  rcases hk with rfl | rfl | rfl
  all_goals
    go_enter Try.func68, Try.ntmps68
    go_wp2
    go_ret
    exact ⟨rfl, rfl⟩

end Go.Proofs.Ytnddfiohofnbaaa

/- Worlds: lay: a new thing put down. -/
namespace Go.Proofs.Ytnddfiohofnbaaa
open Go.RowKit

/-- A world with one thing more. -/
def Wm.add (m : Wm) (g : Nat) (x : Th) (s : Nat) : Wm := { m with th := m.th ++ [(g, x)], made := m.made.set s (m.made.getD s 0 + 1) }

theorem things_new {m : Wm} {lo : Nat} {W : World} (_ : m.Ok lo W) : ∀ es cl, W.heap[m.M]? = some (.map es cl) → ThsAre es.toList m.th → ∀ e ∈ es.toList, ∃ c : Int, e.key = .int .i64 c ∧ ((m.th.length : Int) + 1) ≠ c := by
  intro es cl hm he e hem
  obtain ⟨i, hi, rfl⟩ := List.mem_iff_getElem.1 hem
  have hi' : i < m.th.length := by rw [← he.1]; exact hi
  refine ⟨_, (he.2 i _ _ (List.getElem?_eq_getElem hi) (List.getElem?_eq_getElem hi')).1, ?_⟩
  omega

theorem fr_putObj (W : World) (r : Nat) (o : Obj) : Fr (fun i => i = r) W (W.putObj r o) :=
  ⟨rfl, rfl, rfl, by simp [World.putObj], fun b hb hn => by simp [World.putObj, Array.getElem?_setIfInBounds]; intro h; exact absurd h.symm hn⟩

/-- index, of a thing that is no facet: nothing. -/
theorem index_w {W : World} {wb M g : Nat} {kind r : Int} (hl : (Instr.lookup 73 (.map (some M)) (.int .i64 r) false).run Try.prog W = .ok (.pointer (some ⟨g, 0, none⟩)) W) (c0 : W.cell? ⟨wb, 2, none⟩ = some (.map (some M))) (d0 : W.cell? ⟨g, 0, none⟩ = some (.int .u8 kind)) (hk : kind ≠ 14) :
    Calls Try.prog 101 #[.pointer (some ⟨wb, 0, none⟩), .int .i64 r] W fun e w' => (∃ v, e = .returned v) ∧ w' = W := by
  have hkb : (kind == 14) = false := by simpa using hk
  clear hk
  go_enter Try.func101, Try.ntmps101
  go_wp2_with fail
  go_end0
  exact ⟨⟨_, rfl⟩, rfl⟩

end Go.Proofs.Ytnddfiohofnbaaa

/- Worlds: lay, plain: what holds behind each of its steps. -/
namespace Go.Proofs.Ytnddfiohofnbaaa
open Go.RowKit

/-- A value's own rows are rows of values. -/
theorem T.Sp.typed {w : World} {lo hi : Nat} (t : T) : t.Sp w lo hi → ∀ b ∈ t.blocks, ∃ cs, Blk w b 37 cs := by
  induction t using T.ind with
  | h k n s A cap l r ih =>
    rw [T.sp_mk, T.blocks_mk]
    rintro ⟨h1, _, h3, h4⟩ b hb
    rcases List.mem_append.1 hb with hb | hb
    · cases l with
      | nil => simp at hb
      | cons x l =>
        obtain ⟨ho, g, rfl, hg⟩ := h3 (by simp)
        simp at hb
        subst hb
        rcases ho.2 with ⟨h, _⟩ | ⟨g, cap, cur, h, _, hh, _⟩
        · cases h
        · simp at h
          obtain ⟨rfl, -⟩ := h
          exact ⟨cur, hh⟩
    · obtain ⟨bs, hbs, hb⟩ := List.mem_flatten.1 hb
      obtain ⟨x, hx, rfl⟩ := List.mem_map.1 hbs
      exact ih x hx (h4 x hx) b hb

theorem owns_typed {w : World} {base : Nat} {e : TypeId} {size : Nat} {v : Value} {n : Nat} {xs : List Value} (h : w.ownsRow base e size v n xs) {g : Nat} (hg : v.ownBlock = some g) : ∃ cs, Blk w g e cs := by
  rcases h.2 with ⟨rfl, h0⟩ | ⟨g', cap', cur, rfl, hb, hh, _⟩
  · cases hg
  · simp [Value.ownBlock] at hg
    subst hg
    exact ⟨cur, hh⟩

theorem owns_put1 {w : World} {base e size g n cap i : Nat} {xs : List Value} {u : Value} (h : w.ownsRow base e size (.slice (some ⟨g, 0, none⟩) n cap) n xs) : (w.setCell ⟨g, i, none⟩ u).ownsRow base e size (.slice (some ⟨g, 0, none⟩) n cap) n (xs.set i u) := by
  refine ⟨by simp [h.1], ?_⟩
  rcases h.2 with ⟨h1, _⟩ | ⟨g', cap', cur, h1, hb, hg, hc, hm, hsz, hx⟩
  · cases h1
  · simp only [Value.slice.injEq, Option.some.injEq, Addr.mk.injEq, and_true, true_and] at h1
    obtain ⟨rfl, rfl⟩ := h1
    refine .inr ⟨g, cap, cur.setIfInBounds i u, rfl, hb, ?_, hc, hm, by simp [hsz], ?_⟩
    · have : Blk (w.setCell ⟨g, i, none⟩ u) g e (cur.setIfInBounds i u) := Blk.set_ hg i u
      exact this
    · rw [← hx, Array.toList_setIfInBounds, List.take_set]

theorem map_ne_blk {w : World} {M g cl : Nat} {es : Array MapEntry} {t : TypeId} {cs : Array Value} (hm : w.heap[M]? = some (.map es cl)) (hb : Blk w g t cs) : g ≠ M := by
  rintro rfl
  unfold Blk at hb
  rw [hm] at hb
  cases hb

section
variable {m : Wm} {lo : Nat} {W : World}

/-- Which of a world's blocks are its own block and the map. -/
theorem Wm.Ok.apart (h : m.Ok lo W) : m.wb ≠ m.M ∧ m.wb ≠ m.F ∧ (∀ g, (Value.slice m.D m.made.length m.dc).ownBlock = some g → g ≠ m.wb ∧ g ≠ m.M) ∧ (∀ x ∈ m.th, x.1 ≠ m.wb ∧ x.1 ≠ m.M ∧ ∀ b ∈ x.2.v.blocks, b ≠ m.wb ∧ b ≠ m.M) ∧
    ∀ g, (Value.slice m.D m.made.length m.dc).ownBlock = some g → g ≠ m.F ∧ ∀ x ∈ m.th, x.1 ≠ g ∧ ∀ b ∈ x.2.v.blocks, b ≠ g := by
  obtain ⟨es, cl, hm, -⟩ := h.things
  obtain ⟨ef, cf, hf, -⟩ := h.facets
  refine ⟨map_ne_blk hm h.blk, map_ne_blk hf h.blk, fun g hg => ?_, fun x hx => ⟨Blk.ne_ (h.box x hx) h.blk (by decide), map_ne_blk hm (h.box x hx), fun b hb => ?_⟩, fun g hg => ?_⟩
  · obtain ⟨cs, hb⟩ := owns_typed h.made hg
    exact ⟨Blk.ne_ hb h.blk (by decide), map_ne_blk hm hb⟩
  · obtain ⟨cs, hb'⟩ := T.Sp.typed _ (h.vals x hx).sp b hb
    exact ⟨Blk.ne_ hb' h.blk (by decide), map_ne_blk hm hb'⟩
  · obtain ⟨cs, hb⟩ := owns_typed h.made hg
    refine ⟨map_ne_blk hf hb, fun x hx => ⟨Blk.ne_ (h.box x hx) hb (by decide), fun b hbb => ?_⟩⟩
    obtain ⟨cs', hb'⟩ := T.Sp.typed _ (h.vals x hx).sp b hbb
    exact Blk.ne_ hb' hb (by decide)

/-- Behind the map's turn. -/
theorem ok_lay1 (h : m.Ok lo W) {g : Nat} {x : Th} {W2 : World} (f : Fr (fun i => i = m.wb ∨ i = m.M) W W2) (hg : W.heap.size ≤ g) (hlo : lo ≤ W.heap.size) (hx : Blk W2 g 83 x.cells.toArray) (hv : x.v.Sh W2 lo W2.heap.size) (hlen : m.th.length < 100000)
    (hb : Blk W2 m.wb 76 ({ m with th := m.th ++ [(g, x)] } : Wm).cells) {es : Array MapEntry} {cl b : Nat} (hm0 : W.heap[m.M]? = some (.map es cl)) (hm : W2.heap[m.M]? = some (.map (es.push { key := .int .i64 ((m.th.length : Int) + 1), val := .pointer (some ⟨g, 0, none⟩), born := b }) (cl + 1))) (hbc : b = cl) :
    ({ m with th := m.th ++ [(g, x)] } : Wm).Ok lo W2 := by
  obtain ⟨es', cl', hm', he, hst⟩ := h.things
  rw [hm0] at hm'
  injection hm' with hm'
  injection hm' with e1 e2
  subst e1 e2 hbc
  obtain ⟨ef, cf, hf, hfe⟩ := h.facets
  obtain ⟨a1, a2, a3, a4, a5⟩ := h.apart
  refine ⟨hb, ⟨_, _, hm, ⟨by simp [he.1], fun i e y hei hyi => ?_⟩, ?_, ?_⟩, ⟨ef, cf, (f.block _ (lt_of_heap hf) fun hh => ?_).trans hf, hfe⟩, owns_fr h.made f fun q hq hh => ?_, fun y hy => ?_, fun y hy => ?_, ⟨h.lo0.1, h.lo0.2.1, h.lo0.2.2.1, fun y hy => ?_⟩, h.mf, ?_, by simp; omega, h.mades, h.sides⟩
  · simp only [Array.toList_push] at hei
    rcases Nat.lt_trichotomy i m.th.length with hi | rfl | hi
    · rw [List.getElem?_append_left (by rw [he.1]; exact hi)] at hei
      simp only [List.getElem?_append_left hi] at hyi
      exact he.2 i e y hei hyi
    · rw [← he.1, List.getElem?_append_right (Nat.le_refl _), Nat.sub_self] at hei
      simp at hei hyi
      subst hei hyi
      refine ⟨?_, rfl⟩
      have h1 := he.1
      rw [Array.length_toList] at h1
      rw [h1]
    · simp only at hyi
      rw [List.getElem?_eq_none (by simp; omega)] at hyi
      cases hyi
  · intro y hy
    simp only [Array.toList_push, List.mem_append, List.mem_singleton] at hy
    rcases hy with hy | rfl
    · have := hst.1 y hy; omega
    · exact Nat.lt_succ_self _
  · simp only [Array.toList_push, List.map_append, List.map_cons, List.map_nil]
    refine List.nodup_append.2 ⟨hst.2, by simp, fun a ha b' hb' => ?_⟩
    simp only [List.mem_singleton] at hb'
    subst hb'
    obtain ⟨y, hy, rfl⟩ := List.mem_map.1 ha
    have := hst.1 y hy
    omega
  · rcases hh with hh | hh
    · exact a2 hh.symm
    · exact h.mf hh.symm
  · have := a3 q hq
    rcases hh with hh | hh
    · exact this.1 hh
    · exact this.2 hh
  · simp only [List.mem_append, List.mem_singleton] at hy
    rcases hy with hy | rfl
    · exact (h.box y hy).fr f fun hh => by
        have := a4 y hy
        rcases hh with hh | hh
        · exact this.1 hh
        · exact this.2.1 hh
    · exact hx
  · simp only [List.mem_append, List.mem_singleton] at hy
    rcases hy with hy | rfl
    · exact ((h.vals y hy).fr f fun b hb hh => by
        have := (a4 y hy).2.2 b hb
        rcases hh with hh | hh
        · exact this.1 hh
        · exact this.2 hh).more (Nat.le_refl _) f.size
    · exact hv
  · simp only [List.mem_append, List.mem_singleton] at hy
    rcases hy with hy | rfl
    · exact h.lo0.2.2.2 y hy
    · show lo ≤ g
      omega
  · refine List.pairwise_append.2 ⟨h.dist, by simp, fun a ha b' hb' => ?_⟩
    simp only [List.mem_singleton] at hb'
    subst hb'
    have := (h.box a ha).lt
    show a.1 ≠ g
    omega

/-- Behind one more made. -/
theorem ok_lay2 (h : m.Ok lo W) {s g : Nat} (hs : s < m.made.length) (h512 : m.made[s] < 512) (hD : (Value.slice m.D m.made.length m.dc).ownBlock = some g) :
    ({ m with made := m.made.set s (m.made[s] + 1) } : Wm).Ok lo (W.setCell ⟨g, s, none⟩ (.int .i64 ((m.made[s] : Int) + 1))) := by
  have f : Fr (fun i => i = g) W (W.setCell ⟨g, s, none⟩ (.int .i64 ((m.made[s] : Int) + 1))) := (Fr.refl (fun i => i = g) W).set (fun _ => rfl) _
  obtain ⟨es, cl, hm, he⟩ := h.things
  obtain ⟨ef, cf, hf, hfe⟩ := h.facets
  obtain ⟨a1, a2, a3, a4, a5⟩ := h.apart
  have hg3 := a3 g hD
  have hg5 := a5 g hD
  have hz : 0 < m.made.length := by omega
  obtain ⟨g', c, hA2, hg0, hg1⟩ := h.made.form hz
  simp only [Value.slice.injEq, true_and] at hA2
  have hgg : g' = g := by
    rw [hA2.1] at hD
    simpa [Value.ownBlock] using hD
  subst hgg
  have hmd : (W.setCell ⟨g', s, none⟩ (.int .i64 ((m.made[s] : Int) + 1))).ownsRow lo 3 1 (.slice m.D m.made.length m.dc) m.made.length ((m.made.set s (m.made[s] + 1)).map fun (n : Nat) => Value.int .i64 (n : Int)) := by
    have h0 := h.made
    rw [hA2.1, hA2.2] at h0 ⊢
    have := owns_put1 (i := s) (u := .int .i64 ((m.made[s] : Int) + 1)) h0
    rw [List.map_set]
    exact this
  have hcells : ({ m with made := m.made.set s (m.made[s] + 1) } : Wm).cells = m.cells := by simp [Wm.cells]
  refine ⟨by rw [hcells]; exact h.blk.fr f fun hh => hg3.1 hh.symm, ⟨es, cl, (f.block _ (lt_of_heap hm) fun hh => hg3.2 hh.symm).trans hm, he⟩, ⟨ef, cf, (f.block _ (lt_of_heap hf) fun hh => hg5.1 hh.symm).trans hf, hfe⟩, by simpa using hmd,
    fun y hy => (h.box y hy).fr f fun hh => (hg5.2 y hy).1 hh, fun y hy => ((h.vals y hy).fr f fun b hb hh => (hg5.2 y hy).2 b hb hh).more (Nat.le_refl _) f.size, h.lo0, h.mf, h.dist, h.len, fun n hn => ?_, by simpa using h.sides⟩
  rcases List.mem_or_eq_of_mem_set hn with hn | rfl
  · exact h.mades n hn
  · omega
end

end Go.Proofs.Ytnddfiohofnbaaa

/- Worlds: lay. -/
namespace Go.Proofs.Ytnddfiohofnbaaa
open Go.RowKit

/-- What lay leaves. -/
def LayRes (m : Wm) (x : Th) (s lo : Nat) (W : World) (e : Ending) (w' : World) : Prop :=
  e = .returned (.int .i64 ((m.th.length : Int) + 1)) ∧ (m.add W.heap.size x s).Ok lo w' ∧ Fr m.B W w'

set_option maxRecDepth 100000 in
set_option maxHeartbeats 4000000 in
theorem lay_w {m : Wm} {lo : Nat} {W : World} (h : m.Ok lo W) (hlo : lo ≤ W.heap.size) (kind k n : Int) (s : ByteArray) (A : Option Addr) (cap : Nat) (l : List T) (r n1 lost ofr byr set : Int) (full : Bool) (home : Nat) (hs : home < m.made.length) (h512 : m.made[home] < 512) (hk : kind ≠ 14) (hlen : m.th.length < 100000)
    (hv : (T.mk k n s A cap l r).Sh W lo W.heap.size) :
    Calls Try.prog 70 #[.pointer (some ⟨m.wb, 0, none⟩), .agg (th16 kind (home : Int) k n s A l.length cap r n1 lost ofr byr set full)] W (LayRes m ⟨kind, home, .mk k n s A cap l r, n1, lost, ofr, byr, set, full⟩ home lo W) := by
  obtain ⟨es, cl, hm, hes, hst⟩ := h.things
  have hb0 := Blk.new W 83 (th16 kind (home : Int) k n s A l.length cap r n1 lost ofr byr set full)
  have hf0 := (Fr.refl No W).alloc (.cells (th16 kind (home : Int) k n s A l.length cap r n1 lost ofr byr set full) 83)
  have hwb := h.blk.fr hf0 fun h => h
  have c4 := hwb.cell 4
  have z4 := hwb.frozen 4
  have q4 := hwb.lt
  simp only [Wm.cells, List.getElem?_toArray, List.getElem?_cons_zero, List.getElem?_cons_succ] at c4
  have hw1 : IntKind.i64.wrap ((m.th.length : Int) + 1) = (m.th.length : Int) + 1 := IntWalk.i64_in _ (by omega)
  have HOK := hide h
  have HB0 := hide hb0
  have HF0 := hide hf0
  have HWB := hide hwb
  have HM := hide hm
  have HES := hide hes
  have HV := hide hv
  unfold th16 at HB0 HF0 HWB c4 z4 q4 ⊢
  clear hb0 hf0 hwb hm hes hst hv h
  go_enter Try.func70, Try.ntmps70
  go_upto_region 2 with (fail)
  have hap := HOK.out.apart
  have f1 : Fr (fun i => i = m.wb) W ((W.alloc (.cells #[.int .u8 kind, .int .i64 (home : Int), .int .u8 k, .int .i64 n, .string s, .slice A l.length cap, .int .i64 r, .slice none 0 0, .int .i64 n1, .int .i64 lost, .int .i64 ofr, .int .i64 byr, .int .u8 set, .bool full, .slice none 0 0, .slice none 0 0] 83)).setCell ⟨m.wb, 4, none⟩ (.int .i64 ((m.th.length : Int) + 1))) := (HF0.out.no (S := fun i => i = m.wb)).set (fun _ => rfl) _
  have hb1 := HB0.out.far (p := ⟨m.wb, 4, none⟩) (by have := HOK.out.blk.lt; simp; omega) (.int .i64 ((m.th.length : Int) + 1))
  have hw := HWB.out.set_ 4 (.int .i64 ((m.th.length : Int) + 1))
  generalize hW1 : World.setCell (World.alloc W _) _ _ = W1 at *
  have hm1 : W1.heap[m.M]? = some (.map es cl) := (f1.block _ (lt_of_heap HM.out) fun hh => hap.1 hh.symm).trans HM.out
  have hu : (Instr.mapUpdate 73 (.map (some m.M)) (.int .i64 ((m.th.length : Int) + 1)) (.pointer (some ⟨W.heap.size, 0, none⟩))).run Try.prog W1.drew = .ok () (W1.drew.putObj m.M (.map (es.push { key := .int .i64 ((m.th.length : Int) + 1), val := .pointer (some ⟨W.heap.size, 0, none⟩), born := cl }) (cl + 1))) :=
    update_num Try.underlying28 Try.underlying73 _ _ (show W1.drew.heap[m.M]? = some (.map es cl) from hm1) (things_new HOK.out es cl HM.out HES.out)
  have c2 := hw.cell 2
  have c5 := hw.cell 4
  have q5 := hw.lt
  simp only [Wm.cells, List.setIfInBounds_toArray, List.set_cons_zero, List.set_cons_succ, List.getElem?_toArray, List.getElem?_cons_zero, List.getElem?_cons_succ] at c2 c5
  have HF1 := hide f1
  have HB1 := hide hb1
  have HW1 := hide hw
  have HM1 := hide hm1
  have HAP := hide hap
  clear c4 z4 q4 f1 hb1 hw hm1 hap hW1 HB0 HF0 HWB
  go_region
  all_goals
    go_simp
    go_upto_region 3 with (fail)
    generalize hW2 : World.putObj W1.drew _ _ = W2 at *
    have f2 : Fr (fun i => i = m.M) W1 W2 := by
      rw [← hW2]
      exact ((Fr.refl _ W1).drew).trans (fr_putObj _ _ _)
    have hlM := lt_of_heap HM1.out
    have hm2 : W2.heap[m.M]? = some (.map (es.push { key := .int .i64 ((m.th.length : Int) + 1), val := .pointer (some ⟨W.heap.size, 0, none⟩), born := cl }) (cl + 1)) := by
      rw [← hW2]
      have hlM' : m.M < W1.drew.heap.size := hlM
      show (W1.drew.heap.setIfInBounds m.M _)[m.M]? = _
      rw [Array.getElem?_setIfInBounds, if_pos rfl, if_pos hlM']
    have hMg : W.heap.size ≠ m.M := by have := lt_of_heap HM.out; omega
    have hb2 := HB1.out.fr f2 hMg
    have hw2 := HW1.out.fr f2 HAP.out.1
    have f02 : Fr (fun i => i = m.wb ∨ i = m.M) W W2 := (HF1.out.mono fun i _ h => .inl h).trans' f2 fun i _ h => .inr h
    have hvs := (HV.out.fr f02 fun b hb hh => by
      have h1 := (T.In.blocks _ HV.out.inn b hb)
      obtain ⟨cs, hb'⟩ := T.Sp.typed _ HV.out.sp b hb
      rcases hh with hh | hh
      · exact Blk.ne_ hb' HOK.out.blk (by decide) hh
      · exact map_ne_blk HM.out hb' hh).more (Nat.le_refl _) f02.size
    have hok := ok_lay1 (x := ⟨kind, home, .mk k n s A cap l r, n1, lost, ofr, byr, set, full⟩) HOK.out f02 (Nat.le_refl _) hlo hb2 hvs hlen (by simpa [Wm.cells] using hw2) HM.out hm2 rfl
    have hlk := look_thing hok ((m.th.length : Int) + 1)
    have hget : ({ m with th := m.th ++ [(W.heap.size, ⟨kind, home, .mk k n s A cap l r, n1, lost, ofr, byr, set, full⟩)] } : Wm).get ((m.th.length : Int) + 1) = some (W.heap.size, ⟨kind, home, .mk k n s A cap l r, n1, lost, ofr, byr, set, full⟩) := by
      unfold Wm.get Wm.at_
      simp only [List.length_append, List.length_cons, List.length_nil]
      rw [if_pos (by omega)]
      simp
    rw [hget] at hlk
    have d0 : W2.cell? ⟨W.heap.size, 0, none⟩ = some (.int .u8 kind) := hb2.cell 0
    have d1 : W2.cell? ⟨W.heap.size, 1, none⟩ = some (.int .i64 (home : Int)) := hb2.cell 1
    have dq := hb2.lt
    have hix := index_w hlk (map_cell hok) d0 hk
    have x4 : W2.cell? ⟨m.wb, 4, none⟩ = some (.int .i64 ((m.th.length : Int) + 1)) := by
      have := hw2.cell 4
      simpa [Wm.cells] using this
    have x5 : W2.cell? ⟨m.wb, 5, none⟩ = some (.slice m.D m.made.length m.dc) := by
      have := hw2.cell 5
      simpa [Wm.cells] using this
    have xq := hw2.lt
    have HIX := hide hix
    have HOK2 := hide hok
    have HF2 := hide f02
    have hkb : (kind != 14) = true := by simpa using hk
    clear hu c2 c5 q5 hW2 f2 hlM hm2 hMg hb2 hw2 f02 hvs hok hlk hget hix HB1 HW1 HM1 HF1 HV
    go_wp2_with fail
    refine HIX.out.mono ?_
    rintro e w' ⟨⟨v, rfl⟩, rfl⟩
    have hz : 0 < m.made.length := by omega
    obtain ⟨gD, c, hA2, hg0, hg1⟩ := HOK2.out.made.form hz
    simp only [Value.slice.injEq, true_and] at hA2
    have hcell : w'.cell? ⟨gD, home, none⟩ = some (.int .i64 (m.made[home] : Int)) := by
      have := World.ownsRow.cells HOK2.out.made (g := gD) (by show (Value.slice m.D _ _).ownBlock = _; rw [hA2.1]; rfl) home (.int .i64 (m.made[home] : Int)) (by simp [hs])
      rwa [add_at, Nat.zero_add] at this
    have hfz : w'.frozen? ⟨gD, home, none⟩ = false := by
      obtain ⟨cs, hb⟩ := owns_typed HOK2.out.made (g := gD) (by show (Value.slice m.D _ _).ownBlock = _; rw [hA2.1]; rfl)
      exact hb.frozen _
    have hDb : (Value.slice m.D m.made.length m.dc).ownBlock = some gD := by rw [hA2.1]; rfl
    rw [hA2.1] at x5
    have hw3 : IntKind.i64.wrap ((m.made[home] : Int) + 1) = (m.made[home] : Int) + 1 := IntWalk.i64_in _ (by omega)
    have hne : m.wb ≠ gD := (HAP.out.2.2.1 gD hDb).1.symm
    have hl2 := ok_lay2 HOK2.out hs h512 hDb
    have HL2 := hide hl2
    have HDb := hide hDb
    generalize hmd : m.made[home] = mv at *
    clear hz hA2 hDb hl2 HIX
    go_upto_region 5 with (fail)
    go_region
    all_goals
      go_simp
      go_upto_region 6 with (fail)
      have fD : Fr (fun i => i = gD) w' (w'.setCell ⟨gD, home, none⟩ (.int .i64 ((mv : Int) + 1))).drew := ((Fr.refl (fun i => i = gD) w').set (fun _ => rfl) _).drew
      have x6 : (w'.setCell ⟨gD, home, none⟩ (.int .i64 ((mv : Int) + 1))).drew.cell? ⟨m.wb, 4, none⟩ = some (.int .i64 ((m.th.length : Int) + 1)) := (fD.cell xq hne).trans x4
      have x7 : m.wb < (w'.setCell ⟨gD, home, none⟩ (.int .i64 ((mv : Int) + 1))).drew.heap.size := Nat.lt_of_lt_of_le xq fD.size
      have hok3 : (m.add W.heap.size ⟨kind, home, .mk k n s A cap l r, n1, lost, ofr, byr, set, full⟩ home).Ok lo (w'.setCell ⟨gD, home, none⟩ (.int .i64 ((mv : Int) + 1))).drew := by
        have hq : m.made.getD home 0 = mv := by rw [List.getD_eq_getElem?_getD, List.getElem?_eq_getElem hs, hmd]; rfl
        unfold Wm.add
        rw [hq]
        exact HL2.out.no ((Fr.refl No _).drew)
      have hfr : Fr m.B W (w'.setCell ⟨gD, home, none⟩ (.int .i64 ((mv : Int) + 1))).drew := by
        refine (HF2.out.mono fun i _ h => ?_).trans' fD fun i _ h => ?_
        · rcases h with rfl | rfl
          · exact .inl rfl
          · exact .inr (.inl rfl)
        · have h' : i = gD := h
          subst h'
          exact .inr (.inr (.inr (.inl HDb.out)))
      have HOK3 := hide hok3
      have HFR := hide hfr
      clear hok3 hfr fD x4 x5 xq
      generalize World.drew (World.setCell w' _ _) = W3 at *
      go_wp2_with fail
      go_ret
      exact ⟨rfl, HOK3.out, HFR.out⟩

end Go.Proofs.Ytnddfiohofnbaaa

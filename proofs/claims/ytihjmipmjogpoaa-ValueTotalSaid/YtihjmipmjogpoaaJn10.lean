/- Texts joined: S5, Tab, Tab2, T2, S7, S8, S9, S10. -/
import Derived.Test.YtihjmipmjogpoaaJn9
import Derived.StillTailTactics
import Derived.IntWalk
import Derived.BigQuiet
import Derived.Deep.QuietTactic
/- Chapter 2: slices.rotateCmpFunc on a row of values: the walk. -/
namespace Go.Proofs.Ytihjmipmjogpoaa
open Go.RowKit

set_option maxRecDepth 100000 in
set_option maxHeartbeats 4000000 in
theorem rotate_any (fv : Value) (X A B Z : List T) (hA : 0 < A.length) (hB : 0 < B.length) (w : World) (lo g cap : Nat) (N : Nat) (hN : (X ++ A ++ B ++ Z).length = N) (hN2 : N ≤ 1000000) (h : Rw w lo g cap (X ++ A ++ B ++ Z)) :
    Calls Try.prog 161 #[.slice (some ⟨g, 0, none⟩) N cap, .int .i64 (X.length : Int), .int .i64 ((X.length + A.length : Nat) : Int), .int .i64 ((X.length + A.length + B.length : Nat) : Int), fv] w fun e w' => (∃ v, e = .returned v) ∧ Rw w' lo g cap (X ++ B ++ A ++ Z) ∧ Fr (fun i => i = g) w w' := by
  have hsum : X.length + A.length + B.length ≤ N := by simp at hN; omega
  have H := hide h
  have HNN := hide hN
  generalize hm : X.length + A.length = m at *
  have e1 : ((m : Nat) : Int) - (X.length : Int) = (A.length : Int) := by omega
  have e2 : ((m + B.length : Nat) : Int) - (m : Int) = (B.length : Int) := by omega
  have hbi : ((m + B.length : Nat) : Int) ≤ 1000000 := by omega
  clear h hN
  go_enter Try.func161, Try.ntmps161
  go_wp2_with fail
  go_loopw [10, 11] (fun iv jv wr => ∃ X1 P Q Z1 : List T, iv = .int .i64 (P.length : Int) ∧ jv = .int .i64 (Q.length : Int) ∧ X1.length + P.length = m ∧ 0 < P.length ∧ 0 < Q.length ∧ X1 ++ Q ++ P ++ Z1 = X ++ B ++ A ++ Z ∧ Rw wr lo g cap (X1 ++ P ++ Q ++ Z1) ∧ Fr (fun i => i = g) w wr) (fun iv jv _ => (intOf iv).toNat + (intOf jv).toNat)
  case atStart => exact ⟨X, A, B, Z, by go_num, by go_num, hm, hA, hB, rfl, H.out, Fr.refl _ _⟩
  case round =>
    obtain ⟨X1, P, Q, Z1, rfl, rfl, hx, hp, hq, ht, hr, fr⟩ := hrel
    have hlen : (X1 ++ P ++ Q ++ Z1).length = N := by
      have h1 := congrArg List.length ht
      have h2 := HNN.out
      simp at h1 h2 ⊢
      omega
    have hl2 : X1.length + P.length + Q.length ≤ N := by simp at hlen; omega
    have ex1 : (m : Int) - (P.length : Int) = (X1.length : Int) := by omega
    have hpi : (P.length : Int) ≤ 1000000 := by omega
    have hqi : (Q.length : Int) ≤ 1000000 := by omega
    have HR := hide hr
    have HF := hide fr
    have HTT := hide ht
    have HLL := hide hlen
    clear hr fr ht hlen
    rcases Nat.lt_trichotomy P.length Q.length with hlt | heq | hgt
    · obtain ⟨Q1, Q2, rfl, h2⟩ : ∃ Q1 Q2, Q = Q1 ++ Q2 ∧ Q2.length = P.length := ⟨Q.take (Q.length - P.length), Q.drop (Q.length - P.length), (List.take_append_drop _ _).symm, by simp; omega⟩
      have hl : (Q1 ++ Q2).length = Q1.length + P.length := by simp [h2]
      rw [hl] at hlt hqi hl2 ⊢
      have hcall := swapRange_any fv X1 P Q1 Q2 Z1 P.length rfl h2 wr lo g cap N (by have := HLL.out; simp at this ⊢; omega) hN2 (by have := HR.out; simpa using this)
      have HC := hide hcall
      have hne : ¬ P.length = Q1.length + P.length := by omega
      have hng : ¬ Q1.length + P.length < P.length := by omega
      have ex2 : (m : Int) + ((Q1.length : Int) + (P.length : Int)) - (P.length : Int) = ((X1.length + P.length + Q1.length : Nat) : Int) := by omega
      have HE2 := hide ex2
      clear hcall ex2
      go_wp2_with fail
      rw [HE2.out]
      refine HC.out.mono ?_
      rintro e w2 ⟨⟨v2, rfl⟩, hr2, f2⟩
      have HR2 := hide hr2
      have HF2 := hide (HF.out.trans f2)
      clear hr2 f2
      go_wp2
      go_roundw
      case rel =>
        (repeat apply Exists.intro)
        refine ⟨?_, rfl⟩
        refine ⟨X1, Q2, Q1, P ++ Z1, by rw [h2], by go_num, by rw [h2]; exact hx, by rw [h2]; exact hp, by omega, by rw [← HTT.out]; simp, by have := HR2.out; simpa using this, HF2.out⟩
      case measure => simp [intOf]; omega
    · have hcall := swapRange_any fv X1 P [] Q Z1 P.length rfl heq.symm wr lo g cap N (by have := HLL.out; simp at this ⊢; omega) hN2 (by have := HR.out; simpa using this)
      have hz : ((X1.length + P.length + ([] : List T).length : Nat) : Int) = (m : Int) := by simp; omega
      rw [hz] at hcall
      have HC := hide hcall
      have hne : ((P.length : Int) != (Q.length : Int)) = false := by simp; omega
      clear hcall hz heq
      go_wp2_with fail
      refine HC.out.mono ?_
      rintro e w2 ⟨⟨v2, rfl⟩, hr2, f2⟩
      have HR2 := hide hr2
      have HF2 := hide (HF.out.trans f2)
      clear hr2 f2
      go_wp2
      go_end0
      exact ⟨⟨_, rfl⟩, by rw [← HTT.out]; have := HR2.out; simpa using this, HF2.out⟩
    · obtain ⟨P1, P2, rfl, h2⟩ : ∃ P1 P2, P = P1 ++ P2 ∧ P1.length = Q.length := ⟨P.take Q.length, P.drop Q.length, (List.take_append_drop _ _).symm, by simp; omega⟩
      have hl : (P1 ++ P2).length = Q.length + P2.length := by simp [h2]
      rw [hl] at hgt hpi hl2 ex1 hx ⊢
      have hcall := swapRange_any fv X1 P1 P2 Q Z1 Q.length h2 rfl wr lo g cap N (by have := HLL.out; simp at this ⊢; omega) hN2 (by have := HR.out; simpa using this)
      have hz : ((X1.length + Q.length + P2.length : Nat) : Int) = (m : Int) := by omega
      rw [hz] at hcall
      have HC := hide hcall
      have hne : ¬ Q.length + P2.length = Q.length := by omega
      push_cast at ex1
      have HE1 := hide ex1
      clear hcall hz ex1
      go_wp2_with fail
      rw [HE1.out]
      refine HC.out.mono ?_
      rintro e w2 ⟨⟨v2, rfl⟩, hr2, f2⟩
      have HR2 := hide hr2
      have HF2 := hide (HF.out.trans f2)
      clear hr2 f2
      go_wp2
      go_roundw
      case rel =>
        (repeat apply Exists.intro)
        refine ⟨?_, rfl⟩
        refine ⟨X1 ++ Q, P2, P1, Z1, by go_num, by rw [h2], by simp; omega, by omega, by rw [h2]; exact hq, by rw [← HTT.out]; simp, by have := HR2.out; simpa using this, HF2.out⟩
      case measure => simp [intOf]; omega

end Go.Proofs.Ytihjmipmjogpoaa

/- A table of brand: what it holds, as it lies in memory. -/
namespace Go.Proofs.Ytihjmipmjogpoaa
open Go.RowKit

/-- An entry: a key, a value, which one came. -/
structure Ent where
  k : T
  v : T
  c : Nat

/-- An entry as the program handles it. -/
def Ent.val (e : Ent) : Value := .agg (e.k.cells ++ (e.v.cells ++ [Value.int .i64 (e.c : Int)])).toArray

/-- The trees of some entries. -/
def trees (l : List Ent) : List T := l.flatMap fun e => [e.k, e.v]

/-- The entries of the table's map. -/
def EntsAre (es : List MapEntry) (l : List Ent) : Prop :=
  es.length = l.length ∧ ∀ (i : Nat) (e : MapEntry) (x : Ent), es[i]? = some e → l[i]? = some x → IsMk x.k.v e.key ∧ e.val = x.val

/-- The entries of the map that says in which order they came. -/
def OrdsAre (es : List MapEntry) (l : List Ent) : Prop :=
  es.length = l.length ∧ ∀ (i : Nat) (e : MapEntry) (x : Ent), es[i]? = some e → l[i]? = some x → e.key = .int .i64 (x.c : Int) ∧ IsMk x.k.v e.val

/-- A table in the blocks from lo on, below hi. -/
structure Tab (w : World) (lo hi tb M O : Nat) (l : List Ent) (came : Nat) : Prop where
  blk : Blk w tb 66 #[.map (some M), .map (some O), .int .i64 (came : Int)]
  m : ∃ es cl, w.heap[M]? = some (.map es cl) ∧ EntsAre es.toList l
  o : ∃ es cl, w.heap[O]? = some (.map es cl) ∧ OrdsAre es.toList l
  forest : Forest w lo hi (trees l)
  tb0 : lo ≤ tb ∧ tb < hi
  m0 : lo ≤ M ∧ M < hi
  o0 : lo ≤ O ∧ O < hi
  mo : M ≠ O
  out : tb ∉ ((trees l).map T.blocks).flatten
  outm : M ∉ ((trees l).map T.blocks).flatten
  outo : O ∉ ((trees l).map T.blocks).flatten
  may : ∀ e ∈ l, e.k.v.may = true ∧ e.k.v.keys = true ∧ e.v.v.may = true
  dist : l.Pairwise fun a b => a.k.v ≠ b.k.v
  cdist : l.Pairwise fun a b => a.c ≠ b.c
  cran : ∀ e ∈ l, 1 ≤ e.c ∧ e.c ≤ came
  came0 : came ≤ 1000000

theorem EntsAre.keys {es : List MapEntry} {l : List Ent} (h : EntsAre es l) : KeysAre es (l.map fun e => e.k.v) := by
  refine ⟨by rw [h.1, List.length_map], fun i e v he hv => ?_⟩
  simp at hv
  obtain ⟨x, hx, rfl⟩ := hv
  exact (h.2 i e x he hx).1

theorem Tab.fr {S : Nat → Prop} {w w' : World} {lo hi tb M O : Nat} {l : List Ent} {came : Nat} (h : Tab w lo hi tb M O l came) (hf : Fr S w w') (hh : hi ≤ w.heap.size) (hs : ∀ i, lo ≤ i → i < hi → ¬ S i) :
    Tab w' lo hi tb M O l came := by
  obtain ⟨es, cl, hm, hme⟩ := h.m
  obtain ⟨eo, co, ho, hoe⟩ := h.o
  exact ⟨h.blk.fr hf (hs _ h.tb0.1 h.tb0.2), ⟨es, cl, (hf.block M (by have := h.m0; omega) (hs _ h.m0.1 h.m0.2)).trans hm, hme⟩, ⟨eo, co, (hf.block O (by have := h.o0; omega) (hs _ h.o0.1 h.o0.2)).trans ho, hoe⟩,
    h.forest.fr hf hh hs, h.tb0, h.m0, h.o0, h.mo, h.out, h.outm, h.outo, h.may, h.dist, h.cdist, h.cran, h.came0⟩

theorem Tab.no {w w' : World} {lo hi tb M O : Nat} {l : List Ent} {came : Nat} (h : Tab w lo hi tb M O l came) (hf : Fr No w w') (hh : hi ≤ w.heap.size) : Tab w' lo hi tb M O l came := h.fr hf hh fun _ _ _ h => h

/-! ### none, find, New, Len -/

theorem map_neq_nil (w : World) (M : Nat) : (binOp .eql 63 (.map (some M)) (.map none)).run Try.prog w = .ok (.bool false) w := by
  have h := run_eql_map_nil (P := Try.prog) w 63 _ _ (some M) Try.underlying63
  simpa using h

theorem none_tab (tb M O : Nat) (c : Int) (w : World) (h : Blk w tb 66 #[.map (some M), .map (some O), .int .i64 c]) :
    Calls Try.prog 90 #[.pointer (some ⟨tb, 0, none⟩)] w fun e w' => e = .returned (.bool false) ∧ w' = w := by
  have c0 := h.cell 0
  simp only [List.getElem?_toArray, List.getElem?_cons_zero] at c0
  have hq := map_neq_nil
  go_enter Try.func90, Try.ntmps90
  go_wp2
  go_ret
  exact ⟨rfl, rfl⟩

theorem New_any (w : World) : Calls Try.prog 25 #[] w fun e w' => ∃ tb, e = .returned (.pointer (some ⟨tb, 0, none⟩)) ∧ Tab w' w.heap.size w'.heap.size tb w.heap.size (w.heap.size + 1) [] 0 ∧ Fr No w w' := by
  have hmm := @run_makeMap Try.prog
  go_enter Try.func25, Try.ntmps25
  go_wp2
  go_ret
  refine ⟨_, rfl, ?_, (((Fr.refl No w).alloc _).alloc _).alloc _⟩
  have b := Blk.new' ((w.alloc (.map #[] 0)).alloc (.map #[] 0)) 66 #[.map (some w.heap.size), .map (some (w.heap.size + 1)), .int .i64 0] (g := w.heap.size + 1 + 1) (by simp)
  refine ⟨b, ⟨#[], 0, ?_, rfl, by simp⟩, ⟨#[], 0, ?_, rfl, by simp⟩, Forest.nil _ _ _, by first | (simp; done) | (simp; omega), by first | (simp; done) | (simp; omega), by first | (simp; done) | (simp; omega), by omega, by simp [trees], by simp [trees], by simp [trees], by simp, by simp, by simp, by simp, by omega⟩
  · rw [Below.heap_alloc _ _ _ (by simp; omega), Below.heap_alloc _ _ _ (by simp)]; exact World.alloc_heap_new _ _
  · rw [Below.heap_alloc _ _ _ (by simp)]
    have := World.alloc_heap_new (w.alloc (.map #[] 0)) (.map #[] 0)
    simpa using this

theorem Len_any (w : World) (lo hi tb M O : Nat) (l : List Ent) (came : Nat) (h : Tab w lo hi tb M O l came) :
    Calls Try.prog 28 #[.pointer (some ⟨tb, 0, none⟩)] w fun e w' => e = .returned (.int .i64 (l.length : Int)) ∧ w' = w := by
  have hN := none_tab tb M O came w h.blk
  have c0 := h.blk.cell 0
  simp only [List.getElem?_toArray, List.getElem?_cons_zero] at c0
  obtain ⟨es, cl, hm, hme⟩ := h.m
  have hlen : (Builtin.len_ #[63] 3 #[.map (some M)]).run Try.prog w = .ok (.int .i64 (l.length : Int)) w := by
    have := hme.1
    simp at this
    simp [Builtin.len_, run_underlying Try.underlying63, get_map hm, goInt, this]
  clear hme h hm
  go_enter Try.func28, Try.ntmps28
  go_wp2_with fail
  refine hN.mono ?_
  rintro e w' ⟨rfl, rfl⟩
  clear hN
  go_wp2
  go_ret
  exact ⟨rfl, rfl⟩

/-- What 'find' answers: the mark of a key, or why it can't be asked for. -/
def FindP (v : V) (w : World) (e : Ending) (w' : World) : Prop :=
  (v.may = true → v.keys = true → ∃ m, e = .returned (.tuple #[m, .int .i64 0]) ∧ IsMk v m ∧ Fr No w w') ∧
  (v.may = true → v.keys = false → e = .returned (.tuple #[.nilIface, .int .i64 40]) ∧ Fr No w w') ∧
  (v.may = false → e = .returned (.tuple #[.nilIface, .int .i64 2]) ∧ Fr No w w')

set_option maxHeartbeats 1000000 in
theorem find_any (t : T) (w : World) (lo hi : Nat) (ht : t.In w lo hi) (hh : hi ≤ w.heap.size) (tb M O : Nat) (c : Int) (hb : Blk w tb 66 #[.map (some M), .map (some O), .int .i64 c]) :
    Calls Try.prog 91 #[.pointer (some ⟨tb, 0, none⟩), t.val] w (FindP t.v w) := by
  have hM := fun w' h h' => Of_any t w' lo hi h h'
  cases t with
  | mk k n s A cap l r =>
    rw [T.val_mk] at *
    have hN := none_tab tb M O c _ (hb.alloc (.cells #[.int .u8 k, .int .i64 n, .string s, .slice A l.length cap, .int .i64 r] 27))
    have ht1 := ht.no ((Fr.refl No w).alloc (.cells #[.int .u8 k, .int .i64 n, .string s, .slice A l.length cap, .int .i64 r] 27)) hh
    cases hm : (T.mk k n s A cap l r).v.may
    · have HM := hide hm
      have HT := hide ht1
      clear hm ht ht1
      go_enter Try.func91, Try.ntmps91
      go_wp2_with fail
      refine hN.mono ?_
      rintro e w' ⟨rfl, rfl⟩
      clear hN
      go_wp2_with fail
      refine (hM _ HT.out (by simp; omega)).mono ?_
      rintro e w2 ⟨-, h⟩
      obtain ⟨rfl, fr2⟩ := h HM.out
      clear h hM
      go_wp2
      go_ret2
      exact ⟨fun h => (by rw [HM.out] at h; cases h), fun h => (by rw [HM.out] at h; cases h), fun _ => ⟨rfl, ((Fr.refl No w).alloc _).trans fr2⟩⟩
    · have hd := may_dep hm
      cases hk : (T.mk k n s A cap l r).v.keys
      all_goals
        have HM := hide hm
        have HK := hide hk
        have HT := hide ht1
        clear hm ht ht1 hk
        go_enter Try.func91, Try.ntmps91
        go_wp2_with fail
        refine hN.mono ?_
        rintro e w' ⟨rfl, rfl⟩
        clear hN
        go_wp2_with fail
        refine (hM _ HT.out (by simp; omega)).mono ?_
        rintro e w2 ⟨h, -⟩
        obtain ⟨m, rfl, hmk, fr2⟩ := h HM.out
        obtain ⟨ty, x, rfl⟩ := hmk.iface
        have hky := key_any _ ty x hmk hd w2
        rw [HK.out] at hky
        clear h hM
        go_wp2_with fail
        refine hky.mono ?_
        rintro e w3 ⟨rfl, fr3⟩
        clear hky
        have HF := hide ((((Fr.refl No w).alloc _).trans fr2).trans fr3)
        clear fr2 fr3
        go_wp2
        go_ret2
      · exact ⟨fun _ h => (by rw [HK.out] at h; cases h), fun _ _ => ⟨rfl, HF.out⟩, fun h => (by rw [HM.out] at h; cases h)⟩
      · exact ⟨fun _ _ => ⟨_, rfl, hmk, HF.out⟩, fun _ h => (by rw [HK.out] at h; cases h), fun h => (by rw [HM.out] at h; cases h)⟩

end Go.Proofs.Ytihjmipmjogpoaa

/- Laws on the maps of a table: stores, deletions, look-ups by number. -/
namespace Go.Proofs.Ytihjmipmjogpoaa
open Go.RowKit

/-- The mark of a value without a row is one alone. -/
theorem mk_unique (u : V) : u.keys = true → ∀ m1 m2, IsMk u m1 → IsMk u m2 → m1 = m2 := by
  induction u using V.ind with
  | h k n s l r ih =>
    intro hk m1 m2 h1 h2
    rw [IsMk_mk] at h1 h2
    unfold mkOf at h1 h2
    by_cases k1 : k = 1
    · rw [if_pos k1] at h1 h2; rw [h1, h2]
    rw [if_neg k1] at h1 h2
    by_cases k2 : k = 2
    · rw [if_pos k2] at h1 h2; rw [h1, h2]
    rw [if_neg k2] at h1 h2
    by_cases k4 : k = 4
    · rw [if_pos k4] at h1 h2; rw [h1, h2]
    rw [if_neg k4] at h1 h2
    by_cases k3 : k = 3
    · rw [if_pos k3] at h1 h2
      rw [V.keys_mk, if_pos k3] at hk
      simp at hk
      obtain ⟨hl, hall⟩ := hk
      obtain ⟨a, b, rfl⟩ := at2 hl
      obtain ⟨x, y, rfl, hx, hy⟩ := h1
      obtain ⟨x', y', rfl, hx', hy'⟩ := h2
      rw [ih a (by simp) (hall a (by simp)) x x' hx hx', ih b (by simp) (hall b (by simp)) y y' hy hy']
    · rw [if_neg k3] at h1 h2; rw [h1, h2]

theorem same_mark (u : V) : u.keys = true → ∀ m d, 2 * u.dep + 2 ≤ d → IsMk u m → Instr.sameBits d m m = true := by
  induction u using V.ind with
  | h k n s l r ih =>
    intro hk m d hd h1
    rw [IsMk_mk] at h1
    unfold mkOf at h1
    obtain ⟨d, rfl⟩ : ∃ e, d = e + 2 := ⟨d - 2, by omega⟩
    by_cases k1 : k = 1
    · rw [if_pos k1] at h1; rw [h1]; simp [Instr.sameBits]
    rw [if_neg k1] at h1
    by_cases k2 : k = 2
    · rw [if_pos k2] at h1; rw [h1]; simp [Instr.sameBits, beq_toListBytes]
    rw [if_neg k2] at h1
    by_cases k4 : k = 4
    · rw [if_pos k4] at h1; rw [h1]; simp [Instr.sameBits]
    rw [if_neg k4] at h1
    by_cases k3 : k = 3
    · rw [if_pos k3] at h1
      rw [V.keys_mk, if_pos k3] at hk
      rw [V.dep_mk, if_pos k3] at hd
      simp at hk
      obtain ⟨hl, hall⟩ := hk
      obtain ⟨a, b, rfl⟩ := at2 hl
      obtain ⟨x, y, rfl, hx, hy⟩ := h1
      have hda : a.dep ≤ top [a.dep, b.dep] := le_top (by simp)
      have hdb : b.dep ≤ top [a.dep, b.dep] := le_top (by simp)
      simp only [List.map_cons, List.map_nil] at hd
      have e1 := ih a (by simp) (hall a (by simp)) x d (by omega) hx
      have e2 := ih b (by simp) (hall b (by simp)) y d (by omega) hy
      simp [Instr.sameBits, e1, e2]
    · rw [if_neg k3] at h1; rw [h1]; simp [Instr.sameBits]

/-- A store under a mark that isn't there. -/
theorem run_update_new {t el : TypeId} (ht : Try.prog.underlying t = some (.map 45 el)) (w : World) (u : V) (m val : Value) (hm : IsMk u m) (hd : u.dep ≤ 16) (hkey : u.keys = true)
    {B : Nat} {es : Array MapEntry} {cl : Nat} (hB : w.heap[B]? = some (.map es cl)) {vs : List V} (h : KeysAre es.toList vs) (hp : pos u vs = none) :
    (Instr.mapUpdate t (.map (some B)) m val).run Try.prog w = .ok () (w.putObj B (.map (es.push { key := m, val := val, born := cl }) (cl + 1))) := by
  have hc := run_key u 10000 m false w (by omega) hm
  have hf := run_findKey u m hm hd w es.toList vs h (fun v _ => keys_ne2 u hkey v)
  rw [hp] at hf
  rcases hc with ⟨_, hc⟩ | ⟨h0, _⟩
  · unfold Instr.mapUpdate
    simp only [Sem.run_bind, run_underlying ht, Result.andThen_ok, get_map hB, hc, hf, found, set_map _ hB]
  · rw [hkey] at h0; cases h0

/-- A store under a mark that is there. -/
theorem run_update_old {t el : TypeId} (ht : Try.prog.underlying t = some (.map 45 el)) (w : World) (u : V) (m val : Value) (hm : IsMk u m) (hd : u.dep ≤ 16) (hkey : u.keys = true)
    {B : Nat} {es : Array MapEntry} {cl : Nat} (hB : w.heap[B]? = some (.map es cl)) {vs : List V} (h : KeysAre es.toList vs) {i : Nat} (hp : pos u vs = some i) (hu : vs[i]? = some u) :
    (Instr.mapUpdate t (.map (some B)) m val).run Try.prog w = .ok () (w.putObj B (.map (es.modify i fun e => { e with key := m, val := val }) cl)) := by
  have hc := run_key u 10000 m false w (by omega) hm
  have hf := run_findKey u m hm hd w es.toList vs h (fun v _ => keys_ne2 u hkey v)
  rw [hp] at hf
  have hi : i < es.toList.length := by rw [h.1]; exact pos_lt hp
  have he : es.toList[i]? = some es.toList[i] := List.getElem?_eq_getElem hi
  have hkm : es.toList[i].key = m := mk_unique u hkey _ _ (h.2 i _ u he hu) hm
  simp only [found, he, Option.map_some, Nat.zero_add] at hf
  have he' : es[i]? = some es.toList[i] := by rw [← he]; simp
  rcases hc with ⟨_, hc⟩ | ⟨h0, _⟩
  · unfold Instr.mapUpdate
    simp only [Sem.run_bind, run_underlying ht, Result.andThen_ok, get_map hB, hc, hf, he', Option.map_some, Option.getD_some, hkm, Instr.keyThatStays, same_mark u hkey m 10000 (by omega) hm, if_pos, Sem.run_pure, set_map _ hB]
  · rw [hkey] at h0; cases h0

/-! ### Maps by number -/

theorem findNow_none {n : Int} : ∀ {es : List MapEntry} {i : Nat}, (∀ e ∈ es, ∃ c : Int, e.key = .int .i64 c ∧ n ≠ c) → Instr.findNow (.int .i64) (.int .i64 n) es i = some none
  | [], _, _ => rfl
  | e :: es, i, h => by
    obtain ⟨c, hc, hne⟩ := h e (by simp)
    unfold Instr.findNow
    have : Instr.sameNow (.int .i64) (.int .i64 n) e.key = some false := by rw [hc]; simp [Instr.sameNow]; exact hne
    rw [this]
    exact findNow_none fun e he => h e (by simp [he])

theorem findNow_some {n : Int} : ∀ {es : List MapEntry} {i j : Nat} {e : MapEntry}, (∀ e ∈ es, ∃ c : Int, e.key = .int .i64 c) → es[j]? = some e → e.key = .int .i64 n → (∀ k e', k < j → es[k]? = some e' → e'.key ≠ .int .i64 n) →
    Instr.findNow (.int .i64) (.int .i64 n) es i = some (some (i + j, e.val))
  | [], _, j, e, _, h, _, _ => by simp at h
  | e0 :: es, i, 0, e, _, h, hk, _ => by
    simp at h; subst h
    unfold Instr.findNow
    have : Instr.sameNow (.int .i64) (.int .i64 n) e0.key = some true := by rw [hk]; simp [Instr.sameNow]
    rw [this]; rfl
  | e0 :: es, i, j + 1, e, hall, h, hk, hb => by
    obtain ⟨c, hc⟩ := hall e0 (by simp)
    have hne : n ≠ c := fun h' => hb 0 e0 (by omega) rfl (by rw [hc, h'])
    unfold Instr.findNow
    have : Instr.sameNow (.int .i64) (.int .i64 n) e0.key = some false := by rw [hc]; simp [Instr.sameNow]; exact hne
    rw [this]
    have := findNow_some (n := n) (i := i + 1) (j := j) (fun e he => hall e (List.mem_cons_of_mem _ he)) (by simpa using h) hk (fun k e' hk' he' => hb (k + 1) e' (by omega) (by simpa using he'))
    rw [show i + (j + 1) = i + 1 + j from by omega]
    exact this

theorem checkKey_int' (d : Nat) (e : Bool) (n : Int) (w : World) : (Instr.checkKey e (d + 1) 3 (.int .i64 n)).run Try.prog w = .ok () w := by
  simp [Instr.checkKey, run_underlying Try.underlying3]
theorem checkKey_int (e : Bool) (n : Int) (w : World) : (Instr.checkKey e 10000 3 (.int .i64 n)).run Try.prog w = .ok () w := checkKey_int' 9999 e n w

/-- A store under a number that isn't there. -/
theorem run_update_num {t el : TypeId} (ht : Try.prog.underlying t = some (.map 3 el)) (w : World) (n : Int) (val : Value) {B : Nat} {es : Array MapEntry} {cl : Nat} (hB : w.heap[B]? = some (.map es cl))
    (h : ∀ e ∈ es.toList, ∃ c : Int, e.key = .int .i64 c ∧ n ≠ c) :
    (Instr.mapUpdate t (.map (some B)) (.int .i64 n) val).run Try.prog w = .ok () (w.putObj B (.map (es.push { key := .int .i64 n, val := val, born := cl }) (cl + 1))) := by
  unfold Instr.mapUpdate
  simp only [Sem.run_bind, run_underlying ht, Result.andThen_ok, get_map hB, checkKey_int, Instr.findKey, run_underlying Try.underlying3, findNow_none h, Sem.run_pure, set_map _ hB]

end Go.Proofs.Ytihjmipmjogpoaa

/- Trees in memory, more: what keeps them, block by block; brand.own. -/
namespace Go.Proofs.Ytihjmipmjogpoaa
open Go.RowKit

theorem T.In.keepB {w w' : World} {lo hi : Nat} (t : T) : t.In w lo hi → (∀ b ∈ t.blocks, ∀ o, w'.cell? ⟨b, o, none⟩ = w.cell? ⟨b, o, none⟩) → t.In w' lo hi := by
  induction t using T.ind with
  | h k n s A cap l r ih =>
    rw [T.in_mk, T.in_mk, T.blocks_mk]
    rintro ⟨h1, h2, h3⟩ hk
    refine ⟨h1, fun hl => ?_, fun x hx => ih x hx (h3 x hx) (fun b hb => hk b (List.mem_append_right _ (List.mem_flatten.2 ⟨_, List.mem_map_of_mem hx, hb⟩)))⟩
    obtain ⟨b, o, rfl, hb0, hb1, hc⟩ := h2 hl
    refine ⟨b, o, rfl, hb0, hb1, fun i x hx j u hu => (hk b ?_ _).trans (hc i x hx j u hu)⟩
    cases l with
    | nil => exact absurd rfl hl
    | cons x l => simp

theorem Forest.frB {S : Nat → Prop} {w w' : World} {lo hi : Nat} {l : List T} (h : Forest w lo hi l) (hf : Fr S w w') (hh : hi ≤ w.heap.size) (hs : ∀ b ∈ (l.map T.blocks).flatten, ¬ S b) : Forest w' lo hi l :=
  h.fr' hf hh hs fun x hx => T.In.keepB x (h.inn x hx) fun b hb o => hf.cell (by have := T.In.blocks x (h.inn x hx) b hb; omega) (hs b (List.mem_flatten.2 ⟨_, List.mem_map_of_mem hx, hb⟩))

theorem T.Ow.frB {S : Nat → Prop} {w w' : World} {lo hi : Nat} {t : T} (h : t.Ow w lo hi) (hf : Fr S w w') (hh : hi ≤ w.heap.size) (hs : ∀ b ∈ t.blocks, ¬ S b) : t.Ow w' lo hi :=
  ⟨T.In.keepB t h.inn fun b hb o => hf.cell (by have := T.In.blocks t h.inn b hb; omega) (hs b hb), h.nodup, fun b hb o => by
    have := T.In.blocks t h.inn b hb
    rw [hf.frozen (by omega) (hs b hb)]
    exact h.free b hb o⟩

theorem T.In.frB {S : Nat → Prop} {w w' : World} {lo hi : Nat} {t : T} (h : t.In w lo hi) (hf : Fr S w w') (hh : hi ≤ w.heap.size) (hs : ∀ b ∈ t.blocks, ¬ S b) : t.In w' lo hi :=
  T.In.keepB t h fun b hb o => hf.cell (by have := T.In.blocks t h b hb; omega) (hs b hb)

/-- The table's own blocks. -/
def tabBlocks (tb M O : Nat) (l : List Ent) (i : Nat) : Prop := i = tb ∨ i = M ∨ i = O ∨ i ∈ ((trees l).map T.blocks).flatten

theorem Tab.frB {S : Nat → Prop} {w w' : World} {lo hi tb M O : Nat} {l : List Ent} {came : Nat} (h : Tab w lo hi tb M O l came) (hf : Fr S w w') (hh : hi ≤ w.heap.size) (hs : ∀ i, tabBlocks tb M O l i → ¬ S i) :
    Tab w' lo hi tb M O l came := by
  obtain ⟨es, cl, hm, hme⟩ := h.m
  obtain ⟨eo, co, ho, hoe⟩ := h.o
  exact ⟨h.blk.fr hf (hs _ (.inl rfl)), ⟨es, cl, (hf.block M (by have := h.m0; omega) (hs _ (.inr (.inl rfl)))).trans hm, hme⟩, ⟨eo, co, (hf.block O (by have := h.o0; omega) (hs _ (.inr (.inr (.inl rfl))))).trans ho, hoe⟩,
    h.forest.frB hf hh (fun b hb => hs b (.inr (.inr (.inr hb)))), h.tb0, h.m0, h.o0, h.mo, h.out, h.outm, h.outo, h.may, h.dist, h.cdist, h.cran, h.came0⟩

theorem Tab.lt {w : World} {lo hi tb M O : Nat} {l : List Ent} {came : Nat} (h : Tab w lo hi tb M O l came) : ∀ i, tabBlocks tb M O l i → lo ≤ i ∧ i < hi := by
  rintro i (rfl | rfl | rfl | hi)
  · exact h.tb0
  · exact h.m0
  · exact h.o0
  · exact h.forest.blocks i hi

theorem Tab.more {w : World} {lo hi tb M O : Nat} {l : List Ent} {came : Nat} (h : Tab w lo hi tb M O l came) {lo' hi' : Nat} (h0 : lo' ≤ lo) (h1 : hi ≤ hi') : Tab w lo' hi' tb M O l came := by
  have a := h.tb0
  have b := h.m0
  have c := h.o0
  exact ⟨h.blk, h.m, h.o, h.forest.more h0 h1, by omega, by omega, by omega, h.mo, h.out, h.outm, h.outo, h.may, h.dist, h.cdist, h.cran, h.came0⟩

theorem Tab.ne {w : World} {lo hi tb M O : Nat} {l : List Ent} {came : Nat} (h : Tab w lo hi tb M O l came) : M ≠ tb ∧ O ≠ tb := by
  obtain ⟨es, cl, hm, _⟩ := h.m
  obtain ⟨eo, co, ho, _⟩ := h.o
  have hb := h.blk
  unfold Blk at hb
  refine ⟨?_, ?_⟩
  · rintro rfl; rw [hb] at hm; cases hm
  · rintro rfl; rw [hb] at ho; cases ho

theorem Blk.cells11 {w : World} {g : Nat} {t : TypeId} {a b c d e a' b' c' d' e' f : Value} (h : Blk w g t #[a, b, c, d, e, a', b', c', d', e', f]) :
    w.cell? ⟨g, 0, none⟩ = some a ∧ w.cell? ⟨g, 1, none⟩ = some b ∧ w.cell? ⟨g, 2, none⟩ = some c ∧ w.cell? ⟨g, 3, none⟩ = some d ∧ w.cell? ⟨g, 4, none⟩ = some e ∧ w.cell? ⟨g, 5, none⟩ = some a' ∧ w.cell? ⟨g, 6, none⟩ = some b' ∧
      w.cell? ⟨g, 7, none⟩ = some c' ∧ w.cell? ⟨g, 8, none⟩ = some d' ∧ w.cell? ⟨g, 9, none⟩ = some e' ∧ w.cell? ⟨g, 10, none⟩ = some f ∧ ∀ i, w.frozen? ⟨g, i, none⟩ = false :=
  ⟨h.cell 0, h.cell 1, h.cell 2, h.cell 3, h.cell 4, h.cell 5, h.cell 6, h.cell 7, h.cell 8, h.cell 9, h.cell 10, h.frozen⟩

set_option maxHeartbeats 1000000 in
/-- brand.own, of one that may be. -/
theorem bown_any (t : T) (w : World) (lo hi : Nat) (ht : t.In w lo hi) (hh : hi ≤ w.heap.size) (hm : t.v.may = true) : Calls Try.prog 92 #[t.val] w (OwnP t.v w) := by
  have hO := fun w' h h' => Own_any t w' lo hi h h'
  rw [if_pos hm, if_pos hm] at hO
  have HM := hide hm
  clear hm
  cases t with
  | mk k n s A cap l r =>
    rw [T.val_mk] at *
    go_enter Try.func92, Try.ntmps92
    go_wp2_with fail
    refine (hO _ (ht.no (((Fr.refl No w).alloc _).alloc _) hh) (by simp; omega)).mono ?_
    rintro e w2 ⟨t', rfl, hv, ow, fr2⟩
    have b1 := (Blk.new' (w.alloc (.cells #[.int .u8 k, .int .i64 n, .string s, .slice A l.length cap, .int .i64 r] 27)) 27 #[.int .u8 0, .int .i64 0, .string ⟨#[]⟩, .slice none 0 0, .int .i64 0] (g := w.heap.size + 1) (by simp)).fr fr2 (fun h => h)
    obtain ⟨d0, d1, d2, d3, d4, df⟩ := b1.cells5
    have hlt := b1.lt
    have hF := hide (((((Fr.refl No w).alloc _).alloc _)).trans fr2)
    have hsz := fr2.size
    simp at hsz
    have HV := hide hv
    have HO := hide ow
    clear hv ow b1 hO
    cases t' with
    | mk k2 n2 s2 A2 cap2 l2 r2 =>
      rw [T.val_mk]
      go_wp2
      refine bodyPost_ret (v := .agg #[.int .u8 k2, .int .i64 n2, .string s2, .slice A2 l2.length cap2, .int .i64 r2]) (by simp [results, Try.results92, go_sem, *]) rfl ?_
      have hF2 := hF.out
      have hO2 := HO.out
      simp only [World.size_alloc] at hO2
      refine ⟨T.mk k2 n2 s2 A2 cap2 l2 r2, rfl, HV.out, ?_, ?_⟩
      · refine ((hO2.fr (S := (· = w.heap.size + 1)) ?_ (Nat.le_refl _) (fun i h0 h1 h2 => by omega)).more (by omega) ?_)
        · repeat (first | with_reducible exact Fr.refl _ w2 | with_reducible refine Fr.alloc ?_ _ | with_reducible refine Fr.set ?_ (by simp) _)
        · simp
      · repeat (first | with_reducible exact hF2 | with_reducible refine Fr.alloc ?_ _ | with_reducible refine Fr.setNew ?_ (by simp) _)

end Go.Proofs.Ytihjmipmjogpoaa

/- Plain: rows of trees in order by pieces; what the rows' trees keep. -/
namespace Go.Proofs.Ytihjmipmjogpoaa
open Go.RowKit

/-- The trees of a row that lies in block g: none of their lists lies there. -/
structure Els (w : World) (g : Nat) (L : List T) : Prop where
  inn : ∀ x ∈ L, x.In w 0 w.heap.size
  off : ∀ x ∈ L, g ∉ x.blocks

theorem Els.fr {w w' : World} {g : Nat} {L : List T} (h : Els w g L) (f : Fr (fun i => i = g) w w') : Els w' g L :=
  ⟨fun x hx => T.In.more (Nat.le_refl _) f.size _ ((h.inn x hx).frB f (Nat.le_refl _) fun b hb e => h.off x hx (e ▸ hb)), h.off⟩

theorem Els.no {w w' : World} {g : Nat} {L : List T} (h : Els w g L) (f : Fr No w w') : Els w' g L := h.fr f.no

theorem Els.perm {w : World} {g : Nat} {L L' : List T} (h : Els w g L) (p : L'.Perm L) : Els w g L' :=
  ⟨fun x hx => h.inn x (p.mem_iff.1 hx), fun x hx => h.off x (p.mem_iff.1 hx)⟩

theorem Els.cmp {w : World} {g : Nat} {L : List T} (h : Els w g L) {x y : T} (hx : x ∈ L) (hy : y ∈ L) : Calls Try.prog 118 #[x.val, y.val] w fun e w' => e = .returned (.int .i64 (x.v.ord y.v)) ∧ Fr No w w' :=
  order_any x y w 0 w.heap.size 0 w.heap.size (h.inn x hx) (Nat.le_refl _) (h.inn y hy) (Nat.le_refl _)

/-- The k-th piece of so many is in order. -/
def Ck (bs k : Nat) (L : List T) : Prop := ((L.drop (k * bs)).take bs).Pairwise leT

theorem ck_left {bs k : Nat} {X R : List T} (h : k * bs + bs ≤ X.length) : Ck bs k (X ++ R) ↔ Ck bs k X := by
  unfold Ck
  rw [List.drop_append_of_le_length (by omega), List.take_append_of_le_length (by rw [List.length_drop]; omega)]

theorem ck_right {bs j k : Nat} {X R : List T} (h : X.length = j * bs) : Ck bs (j + k) (X ++ R) ↔ Ck bs k R := by
  unfold Ck
  rw [Nat.add_mul, ← h, List.drop_append, List.drop_of_length_le (by omega), List.nil_append, show X.length + k * bs - X.length = k * bs by omega]

theorem ck_zero {bs : Nat} {L : List T} (h : L.length ≤ bs) : Ck bs 0 L ↔ L.Pairwise leT := by
  unfold Ck
  rw [Nat.zero_mul, List.drop_zero, List.take_of_length_le h]

theorem ck_head {bs : Nat} {A R : List T} (h : A.length = bs) : Ck bs 0 (A ++ R) ↔ A.Pairwise leT := by
  unfold Ck
  rw [Nat.zero_mul, List.drop_zero, ← h, List.take_left]

theorem ck_past {bs k : Nat} {L : List T} (h : L.length ≤ k * bs) : Ck bs k L := by
  unfold Ck
  rw [List.drop_of_length_le h]
  simp

/-- A row parted at two places. -/
theorem part_at (L : List T) {lo hi : Nat} (h : lo ≤ hi) (h' : hi ≤ L.length) : ∃ X A Y : List T, L = X ++ A ++ Y ∧ X.length = lo ∧ A.length = hi - lo := by
  refine ⟨L.take lo, (L.drop lo).take (hi - lo), L.drop hi, ?_, by simp; omega, by simp; omega⟩
  rw [List.append_assoc, show L.drop hi = (L.drop lo).drop (hi - lo) by rw [List.drop_drop]; congr 1; omega, List.take_append_drop, List.take_append_drop]

/-- The first loop of stable: one piece more in order. -/
theorem ck_first {i : Nat} {X A Y C : List T} (hX : X.length = i * 20) (hC : C.length = 20) (sC : C.Pairwise leT) (hk : ∀ k, k < i → Ck 20 k (X ++ A ++ Y)) : ∀ k, k < i + 1 → Ck 20 k (X ++ C ++ Y) := by
  intro k hlt
  rw [List.append_assoc]
  rcases Nat.lt_or_ge k i with h | h
  · have h1 := hk k h
    have hle : k * 20 + 20 ≤ X.length := by omega
    rw [List.append_assoc, ck_left hle] at h1
    rw [ck_left hle]
    exact h1
  · obtain rfl : k = i := by omega
    have := (ck_right (bs := 20) (j := k) (k := 0) (X := X) (R := C ++ Y) (by omega)).2 ((ck_head hC).2 sC)
    exact this

/-- .. and the last, a shorter one. -/
theorem ck_firstLast {i : Nat} {X A C : List T} (hX : X.length = i * 20) (hC : C.length < 20) (sC : C.Pairwise leT) (hk : ∀ k, k < i → Ck 20 k (X ++ A)) : ∀ k, Ck 20 k (X ++ C) := by
  intro k
  rcases Nat.lt_or_ge k i with h | h
  · have h1 := hk k h
    have hle : k * 20 + 20 ≤ X.length := by omega
    rw [ck_left hle] at h1
    rw [ck_left hle]
    exact h1
  · rcases Nat.lt_or_ge i k with h2 | h2
    · exact ck_past (by simp; omega)
    · obtain rfl : k = i := by omega
      exact (ck_right (bs := 20) (j := k) (k := 0) (X := X) (R := C) (by omega)).2 ((ck_zero (by omega)).2 sC)

/-- A merge: one greater piece more. -/
theorem ck_merge {bs i : Nat} {X A B Y C : List T} (hX : X.length = i * (2 * bs)) (hA : A.length = bs) (hB : B.length = bs) (hC : C.length = 2 * bs) (sC : C.Pairwise leT) (hk : ∀ k, k < i → Ck (2 * bs) k (X ++ A ++ B ++ Y)) (hl : ∀ k, 2 * i ≤ k → Ck bs k (X ++ A ++ B ++ Y)) :
    (∀ k, k < i + 1 → Ck (2 * bs) k (X ++ C ++ Y)) ∧ ∀ k, 2 * (i + 1) ≤ k → Ck bs k (X ++ C ++ Y) := by
  have hX2 : X.length = (2 * i) * bs := by rw [hX, Nat.mul_comm 2 bs, ← Nat.mul_assoc, Nat.mul_comm (i * bs) 2, Nat.mul_assoc]
  refine ⟨fun k hlt => ?_, fun k hge => ?_⟩
  · rw [List.append_assoc]
    rcases Nat.lt_or_ge k i with h | h
    · have h1 := hk k h
      have hle : k * (2 * bs) + 2 * bs ≤ X.length := by
        rw [hX, ← Nat.succ_mul]
        exact Nat.mul_le_mul_right _ h
      rw [List.append_assoc, List.append_assoc, ck_left hle] at h1
      rw [ck_left hle]
      exact h1
    · obtain rfl : k = i := by omega
      exact (ck_right (bs := 2 * bs) (j := k) (k := 0) (X := X) (R := C ++ Y) hX).2 ((ck_head hC).2 sC)
  · obtain ⟨d, rfl⟩ : ∃ d, k = 2 * (i + 1) + d := ⟨k - 2 * (i + 1), by omega⟩
    have h1 := hl (2 * (i + 1) + d) (by omega)
    have e : (2 * (i + 1)) * bs = X.length + 2 * bs := by rw [hX2, Nat.mul_add, Nat.add_mul]
    rw [ck_right (by rw [List.length_append, List.length_append, hA, hB, e]; omega)] at h1
    rw [ck_right (by rw [List.length_append, hC, e])]
    exact h1

/-- .. the last one, if there are two pieces left, the second a shorter one perhaps. -/
theorem ck_mergeLast {bs i : Nat} {X A C : List T} (hX : X.length = i * (2 * bs)) (hC : C.length ≤ 2 * bs) (sC : C.Pairwise leT) (hk : ∀ k, k < i → Ck (2 * bs) k (X ++ A)) : ∀ k, Ck (2 * bs) k (X ++ C) := by
  intro k
  rcases Nat.lt_or_ge k i with h | h
  · have h1 := hk k h
    have hle : k * (2 * bs) + 2 * bs ≤ X.length := by
      rw [hX, ← Nat.succ_mul]
      exact Nat.mul_le_mul_right _ h
    rw [ck_left hle] at h1
    rw [ck_left hle]
    exact h1
  · rcases Nat.lt_or_ge i k with h2 | h2
    · refine ck_past ?_
      have : (i + 1) * (2 * bs) ≤ k * (2 * bs) := Nat.mul_le_mul_right _ h2
      rw [Nat.succ_mul] at this
      simp
      omega
    · obtain rfl : k = i := by omega
      exact (ck_right (bs := 2 * bs) (j := k) (k := 0) (X := X) (R := C) hX).2 ((ck_zero hC).2 sC)

/-- The pieces at the places 2 i and 2 i + 1. -/
theorem ck_two {bs i : Nat} {X A B Y : List T} (hX : X.length = i * (2 * bs)) (hA : A.length = bs) (hl : ∀ k, 2 * i ≤ k → Ck bs k (X ++ A ++ B ++ Y)) : A.Pairwise leT ∧ (B.length = bs ∨ (B.length ≤ bs ∧ Y = []) → B.Pairwise leT) := by
  have hX2 : X.length = (2 * i) * bs := by rw [hX, Nat.mul_comm 2 bs, ← Nat.mul_assoc, Nat.mul_comm (i * bs) 2, Nat.mul_assoc]
  have h1 := hl (2 * i + 0) (by omega)
  have h2 := hl (2 * i + 1) (by omega)
  rw [List.append_assoc, List.append_assoc] at h1
  rw [ck_right hX2, ck_head hA] at h1
  refine ⟨h1, fun hB => ?_⟩
  rw [List.append_assoc] at h2
  have h3 := (ck_right (bs := bs) (j := 2 * i + 1) (k := 0) (X := X ++ A) (R := B ++ Y) (by rw [List.length_append, hA, hX2, Nat.add_mul]; omega)).1 h2
  rcases hB with hB | ⟨hB, rfl⟩
  · exact (ck_head hB).1 h3
  · rw [List.append_nil] at h3
    exact (ck_zero hB).1 h3

/-- A last piece that is no longer than the half. -/
theorem ck_half {bs i : Nat} {X A : List T} (hX : X.length = i * (2 * bs)) (hA : A.length ≤ bs) (hl : ∀ k, 2 * i ≤ k → Ck bs k (X ++ A)) : A.Pairwise leT := by
  have hX2 : X.length = (2 * i) * bs := by rw [hX, Nat.mul_comm 2 bs, ← Nat.mul_assoc, Nat.mul_comm (i * bs) 2, Nat.mul_assoc]
  have h1 := hl (2 * i + 0) (by omega)
  rw [ck_right hX2, ck_zero hA] at h1
  exact h1

end Go.Proofs.Ytihjmipmjogpoaa

/- Plain: where a binary search stops in rows in order. -/
namespace Go.Proofs.Ytihjmipmjogpoaa
open Go.RowKit

theorem leT_refl (x : T) : leT x x := (leT_ord.total x x).elim id id

theorem sorted_at {L : List T} (h : L.Pairwise leT) {i j : Nat} {x y : T} (hx : L[i]? = some x) (hy : L[j]? = some y) (hij : i ≤ j) : leT x y := by
  obtain ⟨hi, rfl⟩ := List.getElem?_eq_some_iff.1 hx
  obtain ⟨hj, rfl⟩ := List.getElem?_eq_some_iff.1 hy
  rcases Nat.lt_or_ge i j with h' | h'
  · exact List.pairwise_iff_getElem.1 h i j hi hj h'
  · obtain rfl : i = j := by omega
    exact leT_refl _

/-- The first s of A stand ahead of all of B from e on, if the last of the one does of the first of the other. -/
theorem ahead_of {A B : List T} {s e : Nat} (hA : A.Pairwise leT) (hB : B.Pairwise leT) (h : s = 0 ∨ B.length ≤ e ∨ ∃ x y, A[s - 1]? = some x ∧ B[e]? = some y ∧ leT x y) : ∀ x ∈ A.take s, ∀ y ∈ B.drop e, leT x y := by
  intro a ha b hb
  obtain ⟨i, hi, rfl⟩ := List.mem_iff_getElem.1 ha
  obtain ⟨j, hj, rfl⟩ := List.mem_iff_getElem.1 hb
  simp only [List.length_take, List.length_drop] at hi hj
  rcases h with rfl | h | ⟨x, y, hx, hy, hxy⟩
  · omega
  · omega
  · refine leT_ord.trans _ x _ (sorted_at hA (i := i) (j := s - 1) ?_ hx (by omega)) (leT_ord.trans _ y _ hxy (sorted_at hB (i := e) (j := e + j) hy ?_ (by omega)))
    · rw [List.getElem_take]; exact List.getElem?_eq_getElem _
    · rw [List.getElem_drop]; exact List.getElem?_eq_getElem _

/-- One part in the middle of a row that is in order. -/
theorem insert_row {A : List T} {s : Nat} {x : T} (hA : A.Pairwise leT) (h1 : s = 0 ∨ ∃ y, A[s - 1]? = some y ∧ leT y x) (h2 : A.length ≤ s ∨ ∃ y, A[s]? = some y ∧ leT x y) :
    (A.take s ++ x :: A.drop s).Pairwise leT ∧ (A.take s ++ x :: A.drop s).Perm (x :: A) := by
  have q1 := ahead_of (s := s) (e := 0) hA (List.pairwise_singleton leT x) (by
    rcases h1 with h | ⟨y, hy, hl⟩
    · exact .inl h
    · exact .inr (.inr ⟨y, x, hy, rfl, hl⟩))
  have q2 := ahead_of (s := 1) (e := s) (List.pairwise_singleton leT x) hA (by
    rcases h2 with h | ⟨y, hy, hl⟩
    · exact .inr (.inl h)
    · exact .inr (.inr ⟨x, y, rfl, hy, hl⟩))
  have := insert_at leT_ord (A := A.take s) (B := A.drop s) (x := x) (by rw [List.take_append_drop]; exact hA) (fun a ha => q1 a ha x (by simp)) (fun b hb => q2 x (by simp) b hb)
  rw [List.take_append_drop] at this
  exact this

theorem at_mid {X A R : List T} {i : Nat} (h : i < A.length) : (X ++ A ++ R)[X.length + i]? = A[i]? := by
  rw [List.append_assoc, List.getElem?_append_right (by omega), List.getElem?_append_left (by omega)]
  congr 1
  omega

theorem at_mid2 {X A B R : List T} {i : Nat} (h : i < B.length) : (X ++ A ++ B ++ R)[X.length + A.length + i]? = B[i]? := by
  have := at_mid (X := X ++ A) (A := B) (R := R) h
  rw [List.length_append] at this
  exact this

/-- Where the search of symMerge stands. -/
structure Srch (L : List T) (p s0 r0 s r : Nat) : Prop where
  lo : s0 ≤ s
  mid : s ≤ r
  hi : r ≤ r0
  left : s = s0 ∨ ∃ x y, L[s - 1]? = some x ∧ L[p + 1 - s]? = some y ∧ leT x y
  right : r = r0 ∨ ∃ x y, L[p - r]? = some x ∧ L[r]? = some y ∧ leT x y

theorem Srch.up {L : List T} {p s0 r0 s r c : Nat} (h : Srch L p s0 r0 s r) (h1 : s ≤ c) (h2 : c < r) {x y : T} (hx : L[c]? = some x) (hy : L[p - c]? = some y) (hc : ¬ y.v.ord x.v < 0) (hp : c ≤ p) : Srch L p s0 r0 (c + 1) r :=
  ⟨by have := h.lo; omega, h2, h.hi, .inr ⟨x, y, by simpa using hx, by rw [show p + 1 - (c + 1) = p - c by omega]; exact hy, leT_of_not hc⟩, h.right⟩

theorem Srch.down {L : List T} {p s0 r0 s r c : Nat} (h : Srch L p s0 r0 s r) (h1 : s ≤ c) (h2 : c < r) {x y : T} (hx : L[c]? = some x) (hy : L[p - c]? = some y) (hc : y.v.ord x.v < 0) : Srch L p s0 r0 s c :=
  ⟨h.lo, h1, by have := h.hi; omega, h.left, .inr ⟨y, x, hy, hx, leT_of_lt hc⟩⟩

/-- What the search finds: A and B are parted, and what is to stand ahead stands ahead. -/
theorem Srch.done {X A B Y : List T} {mid s0 r0 s : Nat} (hA : A.Pairwise leT) (hB : B.Pairwise leT) (hm : mid = (X.length + (X.length + A.length + B.length)) / 2) (hA0 : 0 < A.length) (hB0 : 0 < B.length)
    (hs : (mid < X.length + A.length ∧ s0 = mid + (X.length + A.length) - (X.length + A.length + B.length) ∧ r0 = mid) ∨ (X.length + A.length ≤ mid ∧ s0 = X.length ∧ r0 = X.length + A.length))
    (h : Srch (X ++ A ++ B ++ Y) (mid + (X.length + A.length) - 1) s0 r0 s s) :
    ∃ i j, s = X.length + i ∧ i ≤ A.length ∧ j ≤ B.length ∧ mid + (X.length + A.length) - s = X.length + A.length + j ∧ i + j = mid - X.length ∧
      (∀ x ∈ A.take i, ∀ y ∈ B.drop j, leT x y) ∧ (∀ x ∈ B.take j, ∀ y ∈ A.drop i, leT x y) := by
  have q1 := h.lo
  have q2 := h.hi
  refine ⟨s - X.length, mid + (X.length + A.length) - s - (X.length + A.length), by omega, by omega, by omega, by omega, by omega, ahead_of hA hB ?_, ahead_of hB hA ?_⟩
  · rcases h.left with e | ⟨x, y, hx, hy, hl⟩
    · omega
    · by_cases h0 : s - X.length = 0
      · exact .inl h0
      by_cases h1 : B.length ≤ mid + (X.length + A.length) - s - (X.length + A.length)
      · exact .inr (.inl h1)
      refine .inr (.inr ⟨x, y, ?_, ?_, hl⟩)
      · have := at_mid (X := X) (A := A) (R := B ++ Y) (i := s - X.length - 1) (by omega)
        rw [show X.length + (s - X.length - 1) = s - 1 by omega, ← List.append_assoc] at this
        rw [← this]
        exact hx
      · have := at_mid2 (X := X) (A := A) (B := B) (R := Y) (i := mid + (X.length + A.length) - s - (X.length + A.length)) (by omega)
        rw [← this, ← hy]
        congr 1
        omega
  · rcases h.right with e | ⟨x, y, hx, hy, hl⟩
    · omega
    · by_cases h0 : mid + (X.length + A.length) - s - (X.length + A.length) = 0
      · exact .inl h0
      by_cases h1 : A.length ≤ s - X.length
      · exact .inr (.inl h1)
      refine .inr (.inr ⟨x, y, ?_, ?_, hl⟩)
      · have := at_mid2 (X := X) (A := A) (B := B) (R := Y) (i := mid + (X.length + A.length) - s - (X.length + A.length) - 1) (by omega)
        rw [← this, ← hx]
        congr 1
        omega
      · have := at_mid (X := X) (A := A) (R := B ++ Y) (i := s - X.length) (by omega)
        rw [show X.length + (s - X.length) = s by omega, ← List.append_assoc] at this
        rw [← this]
        exact hy

end Go.Proofs.Ytihjmipmjogpoaa

/- Chapter 2: slices.insertionSortCmpFunc on a row of values. -/
namespace Go.Proofs.Ytihjmipmjogpoaa
open Go.RowKit

theorem swap_pair {α : Type} (P Z : List α) (x y : α) : (P ++ y :: x :: Z)[P.length]? = some y ∧ (P ++ y :: x :: Z)[P.length + 1]? = some x ∧
    ((P ++ y :: x :: Z).set (P.length + 1) y).set P.length x = P ++ x :: y :: Z ∧ ((P ++ y :: x :: Z).set P.length x).set (P.length + 1) y = P ++ x :: y :: Z := by
  refine ⟨by simp, by rw [List.getElem?_append_right (by omega)]; simp, ?_, ?_⟩
  · rw [List.set_append_right _ _ (by omega), List.set_append_right _ _ (by omega), show P.length + 1 - P.length = 1 by omega, Nat.sub_self]; rfl
  · rw [List.set_append_right _ _ (by omega), List.set_append_right _ _ (by omega), show P.length + 1 - P.length = 1 by omega, Nat.sub_self]; rfl

theorem nil_or_snoc {α : Type} (l : List α) : l = [] ∨ ∃ L b, l = L ++ [b] := by
  rcases List.eq_nil_or_concat l with h | ⟨a, b, h⟩
  · exact .inl h
  · exact .inr ⟨a, b, by rw [h, List.concat_eq_append]⟩

/-- Where the outer loop stands. -/
structure InsO (w : World) (lo g cap : Nat) (X A Y C Q : List T) (i : Nat) (wr : World) : Prop where
  at_ : X.length + C.length = i
  pos : 0 < C.length
  perm : (C ++ Q).Perm A
  srt : C.Pairwise leT
  row : Rw wr lo g cap (X ++ C ++ Q ++ Y)
  fr : Fr (fun i => i = g) w wr

/-- Where the inner loop stands. -/
structure InsI (w : World) (lo g cap : Nat) (X Y C Q C1 C2 : List T) (x : T) (j : Nat) (wr : World) : Prop where
  at_ : X.length + C1.length = j
  both : C1 ++ C2 = C
  low : ∀ y ∈ C2, leT x y
  row : Rw wr lo g cap (X ++ C1 ++ x :: C2 ++ Q ++ Y)
  fr : Fr (fun i => i = g) w wr

theorem InsO.no {w : World} {lo g cap : Nat} {X A Y C Q : List T} {i : Nat} {wr w2 : World} (h : InsO w lo g cap X A Y C Q i wr) (f : Fr No wr w2) : InsO w lo g cap X A Y C Q i w2 :=
  ⟨h.at_, h.pos, h.perm, h.srt, h.row.fr f (fun h => h), h.fr.thenNo f⟩

/-- What the inner loop leaves. -/
theorem InsI.out {w : World} {lo g cap : Nat} {X A Y C Q C1 C2 : List T} {x : T} {i j : Nat} {wr wo : World} (o : InsO w lo g cap X A Y C (x :: Q) i wo) (h : InsI w lo g cap X Y C Q C1 C2 x j wr)
    (hl : C1 = [] ∨ ∃ C y, C1 = C ++ [y] ∧ leT y x) : InsO w lo g cap X A Y (C1 ++ x :: C2) Q (i + 1) wr := by
  have hb := h.both
  have hs := o.srt
  rw [← hb] at hs
  have hi := insert_at leT_ord (A := C1) (B := C2) (x := x) hs (by
    rcases hl with rfl | ⟨C, y, rfl, hy⟩
    · simp
    · intro a ha
      exact all_ahead leT_ord (A := C) (B := []) (x := y) (y := x) (List.pairwise_append.1 hs).1 (List.pairwise_singleton _ _) hy a ha x (by simp)) h.low
  refine ⟨?_, by simp; omega, ?_, hi.1, by have := h.row; simpa using this, h.fr⟩
  · have := o.at_; rw [← hb] at this; simp at this ⊢; omega
  · refine (hi.2.append_right Q).trans ?_
    refine List.Perm.trans ?_ o.perm
    rw [← hb]
    simp only [List.cons_append]
    exact (List.perm_middle).symm

set_option maxRecDepth 100000 in
set_option maxHeartbeats 4000000 in
theorem insertion_any (X A Y : List T) (hA : 0 < A.length) (w : World) (lo g cap N : Nat) (hN : (X ++ A ++ Y).length = N) (hN2 : N ≤ 1000000) (h : Rw w lo g cap (X ++ A ++ Y)) (hE : Els w g (X ++ A ++ Y)) :
    Calls Try.prog 159 #[.slice (some ⟨g, 0, none⟩) N cap, .int .i64 (X.length : Int), .int .i64 ((X.length + A.length : Nat) : Int), .func (.func 118) #[] #[]] w fun e w' => (∃ v, e = .returned v) ∧ (∃ C, C.Perm A ∧ C.Pairwise leT ∧ Rw w' lo g cap (X ++ C ++ Y)) ∧ Fr (fun i => i = g) w w' := by
  have hsum : X.length + A.length ≤ N := by simp at hN; omega
  have H := hide h
  have HE := hide hE
  have HN := hide hN
  clear h hE hN
  obtain ⟨b, hb⟩ : ∃ b, X.length + A.length = b := ⟨_, rfl⟩
  obtain ⟨a, ha⟩ : ∃ a, X.length = a := ⟨_, rfl⟩
  rw [hb, ha]
  have hbi : (b : Int) ≤ 1000000 := by omega
  have hai : (a : Int) ≤ 1000000 := by omega
  have h0 : (0 : Int) ≤ (a : Int) := by omega
  have hab : a < b := by omega
  have HAA := hide ha
  have HBB := hide hb
  clear ha hb
  go_enter Try.func159, Try.ntmps159
  go_wp2_with fail
  go_loopw [8] (fun iv wr => ∃ (i : Nat) (C Q : List T), iv = .int .i64 i ∧ InsO w lo g cap X A Y C Q i wr) (fun iv _ => b - (intOf iv).toNat)
  case atStart =>
    cases A with
    | nil => simp at hA
    | cons x A => exact ⟨a + 1, [x], A, by go_num, by have := HAA.out; simp; omega, by simp, by simp, by simp, by have := H.out; simpa using this, Fr.refl _ _⟩
  case round =>
    obtain ⟨i, C, Q, rfl, inv⟩ := hrel
    have hia : a < i := by have := inv.at_; have := inv.pos; have := HAA.out; omega
    have hlen := inv.perm.length_eq
    rw [List.length_append] at hlen
    have hat := inv.at_
    have haa := HAA.out
    have hbb := HBB.out
    cases Q with
    | nil =>
      obtain rfl : i = b := by simp at hlen; omega
      have HI := hide inv
      clear inv hlen hat haa hbb
      go_wp2
      go_end0
      exact ⟨⟨_, rfl⟩, ⟨C, by have := HI.out.perm; simpa using this, HI.out.srt, by have := HI.out.row; simpa using this⟩, HI.out.fr⟩
    | cons x Q =>
      have hlt : i < b := by simp at hlen; omega
      have hib : (i : Int) ≤ 1000000 := by omega
      have hi0 : (0 : Int) ≤ (i : Int) := by omega
      have HI := hide inv
      clear inv hlen hat haa hbb
      obtain ⟨wo, rfl⟩ : ∃ wo : World, wo = wr := ⟨_, rfl⟩
      go_wp2_with fail
      go_loopw [9] (fun jv wr => ∃ (j : Nat) (C1 C2 : List T), jv = .int .i64 j ∧ InsI w lo g cap X Y C Q C1 C2 x j wr) (fun jv _ => (intOf jv).toNat)
      case atStart => exact ⟨i, C, [], rfl, HI.out.at_, by simp, by simp, by have := HI.out.row; simpa using this, HI.out.fr⟩
      case round =>
        obtain ⟨j, C1, C2, rfl, inv⟩ := hrel
        have hji : j ≤ i := by have h1 := HI.out.at_; have h2 := inv.at_; have h3 := congrArg List.length inv.both; simp at h3; omega
        rcases nil_or_snoc C1 with rfl | ⟨C1, y, rfl⟩
        · obtain rfl : a = j := by have := inv.at_; have := HAA.out; simp at *; omega
          have HO := hide (inv.out HI.out (.inl rfl))
          clear inv
          have hgf : decide (a < a) = false := by simp
          have hd : decide ((a : Int) < (a : Int)) = false := by simp
          go_wp2_with fail
          go_quiet (fail)
          go_wp2
          go_roundw
          case rel => exact ⟨i + 1, _, _, by go_num, HO.out.no ((Fr.refl No _).drewN _)⟩
          case measure => simp [intOf]; omega
        · have hj := inv.at_
          have haa := HAA.out
          have hN := HN.out
          have hlen := congrArg List.length inv.both
          have hpl := HI.out.perm.length_eq
          have hja : a < j := by simp at hj; omega
          have hjN : j < N := by simp at hlen hpl hN; have := HI.out.at_; omega
          obtain ⟨j1, hjj⟩ : ∃ j1, j = j1 + 1 := ⟨j - 1, by omega⟩
          have hP : (X ++ C1).length = j1 := by simp at hj ⊢; omega
          have hrow : X ++ (C1 ++ [y]) ++ x :: C2 ++ Q ++ Y = (X ++ C1) ++ y :: x :: (C2 ++ Q ++ Y) := by simp
          have hr := inv.row
          rw [hrow] at hr
          obtain ⟨q1, q2, q3, q4⟩ := swap_pair (X ++ C1) (C2 ++ Q ++ Y) x y
          rw [hP] at q1 q2 q3
          rw [← hjj] at q2 q3
          have hL : ((X ++ C1) ++ y :: x :: (C2 ++ Q ++ Y)).length = N := by simp at hlen hpl hN ⊢; omega
          have hmx : x ∈ X ++ A ++ Y := by
            refine List.mem_append_left _ (List.mem_append_right _ (HI.out.perm.mem_iff.1 (by simp)))
          have hmy : y ∈ X ++ A ++ Y := by
            refine List.mem_append_left _ (List.mem_append_right _ (HI.out.perm.mem_iff.1 ?_))
            rw [← inv.both]; simp
          have hcmp := fun w2 (f : Fr No wr w2) => ((HE.out.fr inv.fr).no f).cmp hmx hmy
          generalize hLL : (X ++ C1) ++ y :: x :: (C2 ++ Q ++ Y) = L at *
          have hr1 := hr
          unfold Rw at hr1
          rw [hL] at hr1
          obtain ⟨k1, n1, s1, A1, c1, l1, r1⟩ := x
          obtain ⟨k2, n2, s2, A2, c2, l2, r2⟩ := y
          obtain ⟨p0, p1, p2, p3, p4, pf, pl⟩ := owns_five hr1 q2
          obtain ⟨u0, u1, u2, u3, u4, uf, ul⟩ := owns_five hr1 q1
          rw [T.val_mk, T.val_mk] at hcmp
          have hrange := ord_range (T.mk k1 n1 s1 A1 c1 l1 r1).v (T.mk k2 n2 s2 A2 c2 l2 r2).v
          generalize hcc : (T.mk k1 n1 s1 A1 c1 l1 r1).v.ord (T.mk k2 n2 s2 A2 c2 l2 r2).v = cc at *
          have HR := hide hr
          have HV := hide inv
          have HC := hide hcmp
          have HCC := hide hcc
          have HQ3 := hide q3
          have HQ1 := hide q1
          have HQ2 := hide q2
          have HLL := hide hLL
          have HL := hide hL
          have hg1 : ¬ N ≤ j1 := by omega
          have hg2 : ¬ N ≤ j := by omega
          have hjb : (j : Int) ≤ 1000000 := by omega
          have h1j : (1 : Int) ≤ (j : Int) := by omega
          have hj1N : j1 < N := by omega
          have hjb' : (j1 : Int) ≤ 1000000 := by omega
          have hd : decide (a < j) = true := by simpa using hja
          have e1 : (j : Int) - 1 = (j1 : Int) := by omega
          have HJJ := hide hjj
          clear hjj hr hr1 inv hcmp hcc q1 q2 q3 q4 hLL hL hj haa hN hlen hpl hP hrow hmx hmy
          go_wp2_with fail
          have hw : IntKind.i64.wrap (j1 : Int) = (j1 : Int) := IntWalk.i64_in _ (by omega)
          go_still_tail 14, (by kernel_rfl)
          clear hw
          change wpList _ _ _ _ _ wr.drew
          have F2 := (Fr.refl No wr).drew
          generalize wr.drew = w2 at F2 ⊢
          have hc2 := HC.out w2 F2
          clear p0 p1 p2 p3 p4 pf pl u0 u1 u2 u3 u4 uf ul
          have HF2 := hide F2
          clear F2
          go_wp2_with fail
          refine hc2.mono ?_
          rintro e wc ⟨rfl, fc⟩
          have hrc := HR.out.fr (HF2.out.trans fc) (fun h => h)
          have fcc := HF2.out.trans fc
          clear fc
          have hr1 := hrc
          unfold Rw at hr1
          rw [HL.out] at hr1
          obtain ⟨p0, p1, p2, p3, p4, pf, pl⟩ := owns_five hr1 HQ2.out
          obtain ⟨u0, u1, u2, u3, u4, uf, ul⟩ := owns_five hr1 HQ1.out
          have HRC := hide hrc
          have HFC := hide fcc
          clear hrc fcc hr1 hc2
          by_cases hneg : cc < 0
          · have hcd : decide (cc < 0) = true := by simpa using hneg
            go_wp2_with fail
            go_region
            all_goals
              go_wp2
              go_roundw
              case rel =>
                have hlt' : leT (T.mk k1 n1 s1 A1 c1 l1 r1) (T.mk k2 n2 s2 A2 c2 l2 r2) := leT_of_lt (by rw [HCC.out]; exact hneg)
                refine ⟨j1, C1, T.mk k2 n2 s2 A2 c2 l2 r2 :: C2, by go_num, ?_, ?_, ?_, ?_, ?_⟩
                · have := HV.out.at_; have := HJJ.out; simp at *; omega
                · have := HV.out.both; simpa using this
                · intro z hz
                  rcases List.mem_cons.1 hz with rfl | hz
                  · exact hlt'
                  · exact HV.out.low z hz
                · have h1 := Rw.set HRC.out (j := j) (by rw [HL.out]; omega) k2 n2 s2 A2 c2 l2 r2
                  have h2 := Rw.set h1 (j := j1) (by rw [List.length_set, HL.out]; omega) k1 n1 s1 A1 c1 l1 r1
                  rw [HQ3.out] at h2
                  have h3 := h2.fr (Fr.drew (Fr.refl No _)) (fun h => h)
                  have e : (X ++ C1) ++ T.mk k1 n1 s1 A1 c1 l1 r1 :: T.mk k2 n2 s2 A2 c2 l2 r2 :: (C2 ++ Q ++ Y) = X ++ C1 ++ T.mk k1 n1 s1 A1 c1 l1 r1 :: (T.mk k2 n2 s2 A2 c2 l2 r2 :: C2) ++ Q ++ Y := by simp
                  rw [e] at h3
                  exact h3
                · have f1 := five_fr wc g (j * 5) k2 n2 s2 A2 l2.length c2 r2
                  exact Fr.drew ((((HV.out.fr.thenNo HFC.out)).trans f1).trans (five_fr _ g (j1 * 5) k1 n1 s1 A1 l1.length c1 r1))
              case measure => simp [intOf]; omega
          · have hcd : decide (cc < 0) = false := by simpa using hneg
            have hge : leT (T.mk k2 n2 s2 A2 c2 l2 r2) (T.mk k1 n1 s1 A1 c1 l1 r1) := leT_of_not (by rw [HCC.out]; exact hneg)
            have HO := hide ((HV.out.out HI.out (.inr ⟨C1, _, rfl, hge⟩)).no HFC.out)
            clear hge
            go_wp2
            go_roundw
            case rel => exact ⟨i + 1, _, _, by go_num, HO.out⟩
            case measure => simp [intOf]; omega

end Go.Proofs.Ytihjmipmjogpoaa

/- Chapter 2: slices.symMergeCmpFunc where one piece is one part. -/
namespace Go.Proofs.Ytihjmipmjogpoaa
open Go.RowKit

theorem insertion_none (X Y : List T) (w : World) (lo g cap N : Nat) (hN : (X ++ Y).length = N) (hN2 : N ≤ 1000000) (h : Rw w lo g cap (X ++ Y)) :
    Calls Try.prog 159 #[.slice (some ⟨g, 0, none⟩) N cap, .int .i64 (X.length : Int), .int .i64 (X.length : Int), .func (.func 118) #[] #[]] w fun e w' => (∃ v, e = .returned v) ∧ w' = w := by
  have hsum : X.length ≤ N := by simp at hN; omega
  have hb : (X.length : Int) ≤ 1000000 := by omega
  have hx : ¬ (X.length : Int) + 1 < (X.length : Int) := by omega
  clear h hN
  go_enter Try.func159, Try.ntmps159
  go_wp2_with fail
  refine wp_loop_rounds 1 ?_
  rw [rounds_succ]
  go_wp2
  go_end0
  exact ⟨⟨_, rfl⟩, rfl⟩

/-- Where the search in B stands for a part's place. -/
structure Plc (B : List T) (x : T) (i j : Nat) : Prop where
  ij : i ≤ j
  j1 : j ≤ B.length
  left : i = 0 ∨ ∃ y, B[i - 1]? = some y ∧ leT y x
  right : B.length ≤ j ∨ ∃ y, B[j]? = some y ∧ leT x y

set_option maxRecDepth 100000 in
set_option maxHeartbeats 4000000 in
theorem merge_one (X : List T) (x : T) (B Y : List T) (hB : 0 < B.length) (sB : B.Pairwise leT) (w : World) (lo g cap N : Nat) (hN : (X ++ x :: B ++ Y).length = N) (hN2 : N ≤ 1000000) (h : Rw w lo g cap (X ++ x :: B ++ Y)) (hE : Els w g (X ++ x :: B ++ Y)) :
    Calls Try.prog 160 #[.slice (some ⟨g, 0, none⟩) N cap, .int .i64 (X.length : Int), .int .i64 ((X.length + 1 : Nat) : Int), .int .i64 ((X.length + 1 + B.length : Nat) : Int), .func (.func 118) #[] #[]] w fun e w' => (∃ v, e = .returned v) ∧ (∃ C, C.Perm (x :: B) ∧ C.Pairwise leT ∧ Rw w' lo g cap (X ++ C ++ Y)) ∧ Fr (fun i => i = g) w w' := by
  have hsum : X.length + 1 + B.length ≤ N := by simp at hN; omega
  have H := hide h
  have HE := hide hE
  have HN := hide hN
  clear h hE hN
  obtain ⟨b, hb⟩ : ∃ b, X.length + 1 + B.length = b := ⟨_, rfl⟩
  obtain ⟨m, hm⟩ : ∃ m, X.length + 1 = m := ⟨_, rfl⟩
  obtain ⟨a, ha⟩ : ∃ a, X.length = a := ⟨_, rfl⟩
  rw [hb, hm, ha]
  have hbi : (b : Int) ≤ 1000000 := by omega
  have hmi : (m : Int) ≤ 1000000 := by omega
  have hai : (a : Int) ≤ 1000000 := by omega
  have h0 : (0 : Int) ≤ (a : Int) := by omega
  have hma : (m : Int) - (a : Int) = 1 := by omega
  have HA := hide ha
  have HM := hide hm
  have HB := hide hb
  clear ha hm hb
  go_enter Try.func160, Try.ntmps160
  go_wp2_with fail
  go_loopw [10, 11] (fun iv jv wr => ∃ i j : Nat, iv = .int .i64 i ∧ jv = .int .i64 j ∧ m ≤ i ∧ m ≤ j ∧ Plc B x (i - m) (j - m) ∧ Fr No w wr) (fun iv jv _ => (intOf jv).toNat - (intOf iv).toNat)
  case atStart =>
    have hmm := HM.out
    have hbb := HB.out
    exact ⟨m, b, rfl, rfl, Nat.le_refl _, by omega, ⟨by omega, by omega, .inl (by omega), .inl (by omega)⟩, Fr.refl _ _⟩
  case round =>
    obtain ⟨i, j, rfl, rfl, hi, hj, pl, fr⟩ := hrel
    have hij := pl.ij
    have hjb := pl.j1
    have hmm := HM.out
    have hbb := HB.out
    by_cases hlt : i < j
    · obtain ⟨c, hc⟩ : ∃ c, (i + j) / 2 = c := ⟨_, rfl⟩
      have hji : (j : Int) ≤ 1000000 := by omega
      have hii : (i : Int) ≤ 1000000 := by omega
      have hce : ((i : Int) + (j : Int)) / 2 = (c : Int) := by omega
      have hcN : c < N := by omega
      have haN : a < N := by omega
      have hci : (c : Int) ≤ 1000000 := by omega
      have hcm : m ≤ c := by omega
      have hcb : c - m < B.length := by omega
      obtain ⟨y, hy⟩ : ∃ y, B[c - m]? = some y := ⟨_, List.getElem?_eq_getElem hcb⟩
      have hLx : (X ++ x :: B ++ Y)[a]? = some x := by rw [← HA.out]; simp
      have hLy : (X ++ x :: B ++ Y)[c]? = some y := by
        rw [← hy, show X ++ x :: B ++ Y = X ++ [x] ++ B ++ Y by simp, ← at_mid2 (X := X) (A := [x]) (B := B) (R := Y) hcb]
        congr 1
        have := HA.out
        simp; omega
      have hmx : x ∈ X ++ x :: B ++ Y := List.mem_of_getElem? hLx
      have hmy : y ∈ X ++ x :: B ++ Y := List.mem_of_getElem? hLy
      have hcmp := fun w2 (f : Fr No wr w2) => ((HE.out.no fr).no f).cmp hmy hmx
      have hr1 := H.out.fr fr (fun h => h)
      unfold Rw at hr1
      rw [HN.out] at hr1
      have HIJ := hide hlt
      have HPL := hide pl
      have HFR := hide fr
      have HY := hide hy
      have HC := hide hcmp
      clear pl fr hy hcmp hmx hmy hij hjb hmm hbb hc
      obtain ⟨k1, n1, s1, A1, c1, l1, r1⟩ := x
      obtain ⟨k2, n2, s2, A2, c2, l2, r2⟩ := y
      obtain ⟨p0, p1, p2, p3, p4, pf, pl⟩ := owns_five hr1 hLx
      obtain ⟨u0, u1, u2, u3, u4, uf, ul⟩ := owns_five hr1 hLy
      clear hr1 hLx hLy
      have HCC := hide (rfl : (T.mk k2 n2 s2 A2 c2 l2 r2).v.ord (T.mk k1 n1 s1 A1 c1 l1 r1).v = (T.mk k2 n2 s2 A2 c2 l2 r2).v.ord (T.mk k1 n1 s1 A1 c1 l1 r1).v)
      go_wp2_with fail
      go_still_tail 9, (by kernel_rfl)
      change wpList _ _ _ _ _ wr.drew
      have F2 := (Fr.refl No wr).drew
      generalize wr.drew = w2 at F2 ⊢
      have hc2 := HC.out w2 F2
      rw [T.val_mk, T.val_mk] at hc2
      generalize hcc : (T.mk k2 n2 s2 A2 c2 l2 r2).v.ord (T.mk k1 n1 s1 A1 c1 l1 r1).v = cc at hc2
      have HCC := hide hcc
      have HF2 := hide F2
      clear p0 p1 p2 p3 p4 pf pl u0 u1 u2 u3 u4 uf ul F2 hcc
      go_wp2_with fail
      refine hc2.mono ?_
      rintro e wc ⟨rfl, fc⟩
      have HFC := hide ((HFR.out.trans HF2.out).trans fc)
      clear fc hc2
      by_cases hneg : cc < 0
      · have hcd : decide (cc < 0) = true := by simpa using hneg
        go_wp2
        go_roundw
        case rel =>
          have q := HPL.out
          have hlt' := HIJ.out
          refine ⟨c + 1, j, by go_num, rfl, by omega, hj, ⟨by omega, q.j1, .inr ⟨_, ?_, leT_of_lt (by rw [HCC.out]; exact hneg)⟩, q.right⟩, HFC.out⟩
          rw [show c + 1 - m - 1 = c - m by omega]
          exact HY.out
        case measure => have := HIJ.out; simp [intOf]; omega
      · have hcd : decide (cc < 0) = false := by simpa using hneg
        go_wp2
        go_roundw
        case rel =>
          have q := HPL.out
          exact ⟨i, c, rfl, rfl, hi, hcm, ⟨by omega, by omega, q.left, .inr ⟨_, HY.out, leT_of_not (by rw [HCC.out]; omega)⟩⟩, HFC.out⟩
        case measure => have := HIJ.out; simp [intOf]; omega
    · obtain rfl : i = j := by omega
      have hins := insert_row (s := i - m) (x := x) sB pl.left pl.right
      have hibB : i - m ≤ B.length := pl.j1
      have HI := hide hins
      have HFR := hide fr
      have hii : (i : Int) ≤ 1000000 := by omega
      have hi1 : (1 : Int) ≤ (i : Int) := by omega
      clear hins fr pl hij hjb
      obtain ⟨wo, rfl⟩ : ∃ wo : World, wo = wr := ⟨_, rfl⟩
      go_wp2_with fail
      go_loopw [13] (fun kv wr => ∃ k t : Nat, kv = .int .i64 k ∧ k = a + t ∧ t ≤ i - m ∧ Rw wr lo g cap (X ++ (B.take t ++ x :: B.drop t) ++ Y) ∧ Fr (fun i => i = g) w wr) (fun kv _ => i - (intOf kv).toNat)
      case atStart => exact ⟨a, 0, rfl, rfl, Nat.zero_le _, by have := H.out.fr HFR.out (fun h => h); simpa using this, HFR.out.no⟩
      case round =>
        obtain ⟨k, t, rfl, hk, ht, hr, fr⟩ := hrel
        have haa := HA.out
        by_cases hlt2 : t < i - m
        · have htB : t < B.length := by omega
          have htN : a + 1 + t < N := by have := HM.out; have := HB.out; omega
          have hP : (X ++ B.take t).length = k := by simp; omega
          have hdr : B.drop t = B[t] :: B.drop (t + 1) := List.drop_eq_getElem_cons htB
          have htk : B.take (t + 1) = B.take t ++ [B[t]] := List.take_succ_eq_append_getElem htB
          have hrow : X ++ (B.take t ++ x :: B.drop t) ++ Y = (X ++ B.take t) ++ x :: B[t] :: (B.drop (t + 1) ++ Y) := by rw [hdr]; simp only [List.append_assoc, List.cons_append, List.nil_append]
          have hrow2 : X ++ (B.take (t + 1) ++ x :: B.drop (t + 1)) ++ Y = (X ++ B.take t) ++ B[t] :: x :: (B.drop (t + 1) ++ Y) := by rw [htk]; simp only [List.append_assoc, List.cons_append, List.nil_append]
          obtain ⟨q1, q2, q3, q4⟩ := swap_pair (X ++ B.take t) (B.drop (t + 1) ++ Y) B[t] x
          rw [hP] at q1 q2 q4
          have hLL := congrArg List.length hrow
          have hL : ((X ++ B.take t) ++ x :: B[t] :: (B.drop (t + 1) ++ Y)).length = N := by rw [← hrow]; have := HN.out; simp at this ⊢; omega
          rw [hrow] at hr
          clear hrow hLL hdr htk
          generalize (X ++ B.take t) ++ x :: B[t] :: (B.drop (t + 1) ++ Y) = L at *
          have hr1 := hr
          unfold Rw at hr1
          rw [hL] at hr1
          obtain ⟨k1, hk1⟩ : ∃ k1, k + 1 = k1 := ⟨_, rfl⟩
          rw [hk1] at q2 q4
          generalize B[t] = y at *
          obtain ⟨kx, nx, sx, Ax, cx, lx, rx⟩ := x
          obtain ⟨ky, ny, sy, Ay, cy, ly, ry⟩ := y
          obtain ⟨p0, p1, p2, p3, p4, pf, pl⟩ := owns_five hr1 q1
          obtain ⟨u0, u1, u2, u3, u4, uf, ul⟩ := owns_five hr1 q2
          have e1 : (k : Int) + 1 = (k1 : Int) := by omega
          have e2 : (k : Int) < (i : Int) - 1 := by omega
          have hkN : k < N := by omega
          have hk1N : k1 < N := by omega
          have hki : (k : Int) ≤ 1000000 := by omega
          have hk1i : (k1 : Int) ≤ 1000000 := by omega
          have HR := hide hr
          have HF := hide fr
          have HQ4 := hide q4
          have HR2 := hide hrow2
          have HL := hide hL
          have HK := hide hk
          have HK1 := hide hk1
          clear hr fr q1 q2 q3 q4 hrow2 hL hr1 hP haa hk hk1
          go_wp2_with fail
          go_region
          all_goals
            go_wp2
            go_roundw
            case rel =>
              refine ⟨k1, t + 1, by go_num, by have := HK.out; have := HK1.out; omega, hlt2, ?_, ?_⟩
              · rw [HR2.out, ← HQ4.out]
                have h1 := Rw.set HR.out (j := k) (by rw [HL.out]; exact hkN) ky ny sy Ay cy ly ry
                have h2 := Rw.set h1 (j := k1) (by rw [List.length_set, HL.out]; exact hk1N) kx nx sx Ax cx lx rx
                exact h2.fr (Fr.drew (Fr.refl No _)) (fun h => h)
              · have f1 := five_fr wr g (k * 5) ky ny sy Ay ly.length cy ry
                exact Fr.drew ((HF.out.trans f1).trans (five_fr _ g (k1 * 5) kx nx sx Ax lx.length cx rx))
            case measure => simp [intOf]; omega
        · obtain rfl : t = i - m := by omega
          have hk2 : ¬ (k : Int) < (i : Int) - 1 := by omega
          have HR := hide hr
          have HF := hide fr
          clear hr fr hk haa
          go_wp2
          refine bodyPost_ret (results_none rfl _ _ _) rfl ?_
          exact ⟨⟨_, rfl⟩, ⟨_, HI.out.2, HI.out.1, by rw [← List.append_assoc]; exact HR.out⟩, HF.out⟩

end Go.Proofs.Ytihjmipmjogpoaa

/- A table of brand: what it holds, as it lies in memory. -/
import Derived.Test.YtihjmipmjogpoaaV2
namespace Go.Proofs.Ytihjmipmjogpoaa
open Go.RowKit

/-- An entry: a key, a value, which one came. -/
structure Ent where
  k : T
  v : T
  c : Nat

/-- An entry as the program handles it. -/
def Ent.val (e : Ent) : Value := .agg (e.k.cells ++ (e.v.cells ++ [Value.int .i64 (e.c : Int)])).toArray

/-- The trees of some entries. -/
def trees (l : List Ent) : List T := l.flatMap fun e => [e.k, e.v]

/-- The entries of the table's map. -/
def EntsAre (es : List MapEntry) (l : List Ent) : Prop :=
  es.length = l.length ∧ ∀ (i : Nat) (e : MapEntry) (x : Ent), es[i]? = some e → l[i]? = some x → IsMk x.k.v e.key ∧ e.val = x.val

/-- The entries of the map that says in which order they came. -/
def OrdsAre (es : List MapEntry) (l : List Ent) : Prop :=
  es.length = l.length ∧ ∀ (i : Nat) (e : MapEntry) (x : Ent), es[i]? = some e → l[i]? = some x → e.key = .int .i64 (x.c : Int) ∧ IsMk x.k.v e.val

/-- A table in the blocks from lo on, below hi. -/
structure Tab (w : World) (lo hi tb M O : Nat) (l : List Ent) (came : Nat) : Prop where
  blk : Blk w tb 66 #[.map (some M), .map (some O), .int .i64 (came : Int)]
  m : ∃ es cl, w.heap[M]? = some (.map es cl) ∧ EntsAre es.toList l
  o : ∃ es cl, w.heap[O]? = some (.map es cl) ∧ OrdsAre es.toList l
  forest : Forest w lo hi (trees l)
  tb0 : lo ≤ tb ∧ tb < hi
  m0 : lo ≤ M ∧ M < hi
  o0 : lo ≤ O ∧ O < hi
  mo : M ≠ O
  out : tb ∉ ((trees l).map T.blocks).flatten
  outm : M ∉ ((trees l).map T.blocks).flatten
  outo : O ∉ ((trees l).map T.blocks).flatten
  may : ∀ e ∈ l, e.k.v.may = true ∧ e.k.v.keys = true ∧ e.v.v.may = true
  dist : l.Pairwise fun a b => a.k.v ≠ b.k.v
  cdist : l.Pairwise fun a b => a.c ≠ b.c
  cran : ∀ e ∈ l, 1 ≤ e.c ∧ e.c ≤ came
  came0 : came ≤ 1000000

theorem EntsAre.keys {es : List MapEntry} {l : List Ent} (h : EntsAre es l) : KeysAre es (l.map fun e => e.k.v) := by
  refine ⟨by rw [h.1, List.length_map], fun i e v he hv => ?_⟩
  simp at hv
  obtain ⟨x, hx, rfl⟩ := hv
  exact (h.2 i e x he hx).1

theorem Tab.fr {S : Nat → Prop} {w w' : World} {lo hi tb M O : Nat} {l : List Ent} {came : Nat} (h : Tab w lo hi tb M O l came) (hf : Fr S w w') (hh : hi ≤ w.heap.size) (hs : ∀ i, lo ≤ i → i < hi → ¬ S i) :
    Tab w' lo hi tb M O l came := by
  obtain ⟨es, cl, hm, hme⟩ := h.m
  obtain ⟨eo, co, ho, hoe⟩ := h.o
  exact ⟨h.blk.fr hf (hs _ h.tb0.1 h.tb0.2), ⟨es, cl, (hf.block M (by have := h.m0; omega) (hs _ h.m0.1 h.m0.2)).trans hm, hme⟩, ⟨eo, co, (hf.block O (by have := h.o0; omega) (hs _ h.o0.1 h.o0.2)).trans ho, hoe⟩,
    h.forest.fr hf hh hs, h.tb0, h.m0, h.o0, h.mo, h.out, h.outm, h.outo, h.may, h.dist, h.cdist, h.cran, h.came0⟩

theorem Tab.no {w w' : World} {lo hi tb M O : Nat} {l : List Ent} {came : Nat} (h : Tab w lo hi tb M O l came) (hf : Fr No w w') (hh : hi ≤ w.heap.size) : Tab w' lo hi tb M O l came := h.fr hf hh fun _ _ _ h => h

/-! ### none, find, New, Len -/

theorem map_neq_nil (w : World) (M : Nat) : (binOp .eql 63 (.map (some M)) (.map none)).run Try.prog w = .ok (.bool false) w := by
  have h := run_eql_map_nil (P := Try.prog) w 63 _ _ (some M) Try.underlying63
  simpa using h

theorem none_tab (tb M O : Nat) (c : Int) (w : World) (h : Blk w tb 66 #[.map (some M), .map (some O), .int .i64 c]) :
    Calls Try.prog 90 #[.pointer (some ⟨tb, 0, none⟩)] w fun e w' => e = .returned (.bool false) ∧ w' = w := by
  have c0 := h.cell 0
  simp only [List.getElem?_toArray, List.getElem?_cons_zero] at c0
  have hq := map_neq_nil
  go_enter Try.func90, Try.ntmps90
  go_wp2
  go_ret
  exact ⟨rfl, rfl⟩

theorem New_any (w : World) : Calls Try.prog 25 #[] w fun e w' => ∃ tb, e = .returned (.pointer (some ⟨tb, 0, none⟩)) ∧ Tab w' w.heap.size w'.heap.size tb w.heap.size (w.heap.size + 1) [] 0 ∧ Fr No w w' := by
  have hmm := @run_makeMap Try.prog
  go_enter Try.func25, Try.ntmps25
  go_wp2
  go_ret
  refine ⟨_, rfl, ?_, (((Fr.refl No w).alloc _).alloc _).alloc _⟩
  have b := Blk.new' ((w.alloc (.map #[] 0)).alloc (.map #[] 0)) 66 #[.map (some w.heap.size), .map (some (w.heap.size + 1)), .int .i64 0] (g := w.heap.size + 1 + 1) (by simp)
  refine ⟨b, ⟨#[], 0, ?_, rfl, by simp⟩, ⟨#[], 0, ?_, rfl, by simp⟩, Forest.nil _ _ _, by first | (simp; done) | (simp; omega), by first | (simp; done) | (simp; omega), by first | (simp; done) | (simp; omega), by omega, by simp [trees], by simp [trees], by simp [trees], by simp, by simp, by simp, by simp, by omega⟩
  · rw [Below.heap_alloc _ _ _ (by simp; omega), Below.heap_alloc _ _ _ (by simp)]; exact World.alloc_heap_new _ _
  · rw [Below.heap_alloc _ _ _ (by simp)]
    have := World.alloc_heap_new (w.alloc (.map #[] 0)) (.map #[] 0)
    simpa using this

theorem Len_any (w : World) (lo hi tb M O : Nat) (l : List Ent) (came : Nat) (h : Tab w lo hi tb M O l came) :
    Calls Try.prog 28 #[.pointer (some ⟨tb, 0, none⟩)] w fun e w' => e = .returned (.int .i64 (l.length : Int)) ∧ w' = w := by
  have hN := none_tab tb M O came w h.blk
  have c0 := h.blk.cell 0
  simp only [List.getElem?_toArray, List.getElem?_cons_zero] at c0
  obtain ⟨es, cl, hm, hme⟩ := h.m
  have hlen : (Builtin.len_ #[63] 3 #[.map (some M)]).run Try.prog w = .ok (.int .i64 (l.length : Int)) w := by
    have := hme.1
    simp at this
    simp [Builtin.len_, run_underlying Try.underlying63, get_map hm, goInt, this]
  clear hme h hm
  go_enter Try.func28, Try.ntmps28
  go_wp2_with fail
  refine hN.mono ?_
  rintro e w' ⟨rfl, rfl⟩
  clear hN
  go_wp2
  go_ret
  exact ⟨rfl, rfl⟩

/-- What 'find' answers: the mark of a key, or why it can't be asked for. -/
def FindP (v : V) (w : World) (e : Ending) (w' : World) : Prop :=
  (v.may = true → v.keys = true → ∃ m, e = .returned (.tuple #[m, .int .i64 0]) ∧ IsMk v m ∧ Fr No w w') ∧
  (v.may = true → v.keys = false → e = .returned (.tuple #[.nilIface, .int .i64 40]) ∧ Fr No w w') ∧
  (v.may = false → e = .returned (.tuple #[.nilIface, .int .i64 2]) ∧ Fr No w w')

set_option maxHeartbeats 1000000 in
theorem find_any (t : T) (w : World) (lo hi : Nat) (ht : t.In w lo hi) (hh : hi ≤ w.heap.size) (tb M O : Nat) (c : Int) (hb : Blk w tb 66 #[.map (some M), .map (some O), .int .i64 c]) :
    Calls Try.prog 91 #[.pointer (some ⟨tb, 0, none⟩), t.val] w (FindP t.v w) := by
  have hM := fun w' h h' => Of_any t w' lo hi h h'
  cases t with
  | mk k n s A cap l r =>
    rw [T.val_mk] at *
    have hN := none_tab tb M O c _ (hb.alloc (.cells #[.int .u8 k, .int .i64 n, .string s, .slice A l.length cap, .int .i64 r] 27))
    have ht1 := ht.no ((Fr.refl No w).alloc (.cells #[.int .u8 k, .int .i64 n, .string s, .slice A l.length cap, .int .i64 r] 27)) hh
    cases hm : (T.mk k n s A cap l r).v.may
    · have HM := hide hm
      have HT := hide ht1
      clear hm ht ht1
      go_enter Try.func91, Try.ntmps91
      go_wp2_with fail
      refine hN.mono ?_
      rintro e w' ⟨rfl, rfl⟩
      clear hN
      go_wp2_with fail
      refine (hM _ HT.out (by simp; omega)).mono ?_
      rintro e w2 ⟨-, h⟩
      obtain ⟨rfl, fr2⟩ := h HM.out
      clear h hM
      go_wp2
      go_ret2
      exact ⟨fun h => (by rw [HM.out] at h; cases h), fun h => (by rw [HM.out] at h; cases h), fun _ => ⟨rfl, ((Fr.refl No w).alloc _).trans fr2⟩⟩
    · have hd := may_dep hm
      cases hk : (T.mk k n s A cap l r).v.keys
      all_goals
        have HM := hide hm
        have HK := hide hk
        have HT := hide ht1
        clear hm ht ht1 hk
        go_enter Try.func91, Try.ntmps91
        go_wp2_with fail
        refine hN.mono ?_
        rintro e w' ⟨rfl, rfl⟩
        clear hN
        go_wp2_with fail
        refine (hM _ HT.out (by simp; omega)).mono ?_
        rintro e w2 ⟨h, -⟩
        obtain ⟨m, rfl, hmk, fr2⟩ := h HM.out
        obtain ⟨ty, x, rfl⟩ := hmk.iface
        have hky := key_any _ ty x hmk hd w2
        rw [HK.out] at hky
        clear h hM
        go_wp2_with fail
        refine hky.mono ?_
        rintro e w3 ⟨rfl, fr3⟩
        clear hky
        have HF := hide ((((Fr.refl No w).alloc _).trans fr2).trans fr3)
        clear fr2 fr3
        go_wp2
        go_ret2
      · exact ⟨fun _ h => (by rw [HK.out] at h; cases h), fun _ _ => ⟨rfl, HF.out⟩, fun h => (by rw [HM.out] at h; cases h)⟩
      · exact ⟨fun _ _ => ⟨_, rfl, hmk, HF.out⟩, fun _ h => (by rw [HK.out] at h; cases h), fun h => (by rw [HM.out] at h; cases h)⟩

end Go.Proofs.Ytihjmipmjogpoaa

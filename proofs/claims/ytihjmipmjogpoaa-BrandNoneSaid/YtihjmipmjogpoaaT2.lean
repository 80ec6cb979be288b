/- Trees in memory, more: what keeps them, block by block; brand.own. -/
import Derived.Test.YtihjmipmjogpoaaTab2
namespace Go.Proofs.Ytihjmipmjogpoaa
open Go.RowKit

theorem T.In.keepB {w w' : World} {lo hi : Nat} (t : T) : t.In w lo hi → (∀ b ∈ t.blocks, ∀ o, w'.cell? ⟨b, o, none⟩ = w.cell? ⟨b, o, none⟩) → t.In w' lo hi := by
  induction t using T.ind with
  | h k n s A cap l r ih =>
    rw [T.in_mk, T.in_mk, T.blocks_mk]
    rintro ⟨h1, h2, h3⟩ hk
    refine ⟨h1, fun hl => ?_, fun x hx => ih x hx (h3 x hx) (fun b hb => hk b (List.mem_append_right _ (List.mem_flatten.2 ⟨_, List.mem_map_of_mem hx, hb⟩)))⟩
    obtain ⟨b, o, rfl, hb0, hb1, hc⟩ := h2 hl
    refine ⟨b, o, rfl, hb0, hb1, fun i x hx j u hu => (hk b ?_ _).trans (hc i x hx j u hu)⟩
    cases l with
    | nil => exact absurd rfl hl
    | cons x l => simp

theorem Forest.frB {S : Nat → Prop} {w w' : World} {lo hi : Nat} {l : List T} (h : Forest w lo hi l) (hf : Fr S w w') (hh : hi ≤ w.heap.size) (hs : ∀ b ∈ (l.map T.blocks).flatten, ¬ S b) : Forest w' lo hi l :=
  h.fr' hf hh hs fun x hx => T.In.keepB x (h.inn x hx) fun b hb o => hf.cell (by have := T.In.blocks x (h.inn x hx) b hb; omega) (hs b (List.mem_flatten.2 ⟨_, List.mem_map_of_mem hx, hb⟩))

theorem T.Ow.frB {S : Nat → Prop} {w w' : World} {lo hi : Nat} {t : T} (h : t.Ow w lo hi) (hf : Fr S w w') (hh : hi ≤ w.heap.size) (hs : ∀ b ∈ t.blocks, ¬ S b) : t.Ow w' lo hi :=
  ⟨T.In.keepB t h.inn fun b hb o => hf.cell (by have := T.In.blocks t h.inn b hb; omega) (hs b hb), h.nodup, fun b hb o => by
    have := T.In.blocks t h.inn b hb
    rw [hf.frozen (by omega) (hs b hb)]
    exact h.free b hb o⟩

theorem T.In.frB {S : Nat → Prop} {w w' : World} {lo hi : Nat} {t : T} (h : t.In w lo hi) (hf : Fr S w w') (hh : hi ≤ w.heap.size) (hs : ∀ b ∈ t.blocks, ¬ S b) : t.In w' lo hi :=
  T.In.keepB t h fun b hb o => hf.cell (by have := T.In.blocks t h b hb; omega) (hs b hb)

/-- The table's own blocks. -/
def tabBlocks (tb M O : Nat) (l : List Ent) (i : Nat) : Prop := i = tb ∨ i = M ∨ i = O ∨ i ∈ ((trees l).map T.blocks).flatten

theorem Tab.frB {S : Nat → Prop} {w w' : World} {lo hi tb M O : Nat} {l : List Ent} {came : Nat} (h : Tab w lo hi tb M O l came) (hf : Fr S w w') (hh : hi ≤ w.heap.size) (hs : ∀ i, tabBlocks tb M O l i → ¬ S i) :
    Tab w' lo hi tb M O l came := by
  obtain ⟨es, cl, hm, hme⟩ := h.m
  obtain ⟨eo, co, ho, hoe⟩ := h.o
  exact ⟨h.blk.fr hf (hs _ (.inl rfl)), ⟨es, cl, (hf.block M (by have := h.m0; omega) (hs _ (.inr (.inl rfl)))).trans hm, hme⟩, ⟨eo, co, (hf.block O (by have := h.o0; omega) (hs _ (.inr (.inr (.inl rfl))))).trans ho, hoe⟩,
    h.forest.frB hf hh (fun b hb => hs b (.inr (.inr (.inr hb)))), h.tb0, h.m0, h.o0, h.mo, h.out, h.outm, h.outo, h.may, h.dist, h.cdist, h.cran, h.came0⟩

theorem Tab.lt {w : World} {lo hi tb M O : Nat} {l : List Ent} {came : Nat} (h : Tab w lo hi tb M O l came) : ∀ i, tabBlocks tb M O l i → lo ≤ i ∧ i < hi := by
  rintro i (rfl | rfl | rfl | hi)
  · exact h.tb0
  · exact h.m0
  · exact h.o0
  · exact h.forest.blocks i hi

theorem Tab.more {w : World} {lo hi tb M O : Nat} {l : List Ent} {came : Nat} (h : Tab w lo hi tb M O l came) {lo' hi' : Nat} (h0 : lo' ≤ lo) (h1 : hi ≤ hi') : Tab w lo' hi' tb M O l came := by
  have a := h.tb0
  have b := h.m0
  have c := h.o0
  exact ⟨h.blk, h.m, h.o, h.forest.more h0 h1, by omega, by omega, by omega, h.mo, h.out, h.outm, h.outo, h.may, h.dist, h.cdist, h.cran, h.came0⟩

theorem Tab.ne {w : World} {lo hi tb M O : Nat} {l : List Ent} {came : Nat} (h : Tab w lo hi tb M O l came) : M ≠ tb ∧ O ≠ tb := by
  obtain ⟨es, cl, hm, _⟩ := h.m
  obtain ⟨eo, co, ho, _⟩ := h.o
  have hb := h.blk
  unfold Blk at hb
  refine ⟨?_, ?_⟩
  · rintro rfl; rw [hb] at hm; cases hm
  · rintro rfl; rw [hb] at ho; cases ho

theorem Blk.cells11 {w : World} {g : Nat} {t : TypeId} {a b c d e a' b' c' d' e' f : Value} (h : Blk w g t #[a, b, c, d, e, a', b', c', d', e', f]) :
    w.cell? ⟨g, 0, none⟩ = some a ∧ w.cell? ⟨g, 1, none⟩ = some b ∧ w.cell? ⟨g, 2, none⟩ = some c ∧ w.cell? ⟨g, 3, none⟩ = some d ∧ w.cell? ⟨g, 4, none⟩ = some e ∧ w.cell? ⟨g, 5, none⟩ = some a' ∧ w.cell? ⟨g, 6, none⟩ = some b' ∧
      w.cell? ⟨g, 7, none⟩ = some c' ∧ w.cell? ⟨g, 8, none⟩ = some d' ∧ w.cell? ⟨g, 9, none⟩ = some e' ∧ w.cell? ⟨g, 10, none⟩ = some f ∧ ∀ i, w.frozen? ⟨g, i, none⟩ = false :=
  ⟨h.cell 0, h.cell 1, h.cell 2, h.cell 3, h.cell 4, h.cell 5, h.cell 6, h.cell 7, h.cell 8, h.cell 9, h.cell 10, h.frozen⟩

set_option maxHeartbeats 1000000 in
/-- brand.own, of one that may be. -/
theorem bown_any (t : T) (w : World) (lo hi : Nat) (ht : t.In w lo hi) (hh : hi ≤ w.heap.size) (hm : t.v.may = true) : Calls Try.prog 92 #[t.val] w (OwnP t.v w) := by
  have hO := fun w' h h' => Own_any t w' lo hi h h'
  rw [if_pos hm, if_pos hm] at hO
  have HM := hide hm
  clear hm
  cases t with
  | mk k n s A cap l r =>
    rw [T.val_mk] at *
    go_enter Try.func92, Try.ntmps92
    go_wp2_with fail
    refine (hO _ (ht.no (((Fr.refl No w).alloc _).alloc _) hh) (by simp; omega)).mono ?_
    rintro e w2 ⟨t', rfl, hv, ow, fr2⟩
    have b1 := (Blk.new' (w.alloc (.cells #[.int .u8 k, .int .i64 n, .string s, .slice A l.length cap, .int .i64 r] 27)) 27 #[.int .u8 0, .int .i64 0, .string ⟨#[]⟩, .slice none 0 0, .int .i64 0] (g := w.heap.size + 1) (by simp)).fr fr2 (fun h => h)
    obtain ⟨d0, d1, d2, d3, d4, df⟩ := b1.cells5
    have hlt := b1.lt
    have hF := hide (((((Fr.refl No w).alloc _).alloc _)).trans fr2)
    have hsz := fr2.size
    simp at hsz
    have HV := hide hv
    have HO := hide ow
    clear hv ow b1 hO
    cases t' with
    | mk k2 n2 s2 A2 cap2 l2 r2 =>
      rw [T.val_mk]
      go_wp2
      refine bodyPost_ret (v := .agg #[.int .u8 k2, .int .i64 n2, .string s2, .slice A2 l2.length cap2, .int .i64 r2]) (by simp [results, Try.results92, go_sem, *]) rfl ?_
      have hF2 := hF.out
      have hO2 := HO.out
      simp only [World.size_alloc] at hO2
      refine ⟨T.mk k2 n2 s2 A2 cap2 l2 r2, rfl, HV.out, ?_, ?_⟩
      · refine ((hO2.fr (S := (· = w.heap.size + 1)) ?_ (Nat.le_refl _) (fun i h0 h1 h2 => by omega)).more (by omega) ?_)
        · repeat (first | with_reducible exact Fr.refl _ w2 | with_reducible refine Fr.alloc ?_ _ | with_reducible refine Fr.set ?_ (by simp) _)
        · simp
      · repeat (first | with_reducible exact hF2 | with_reducible refine Fr.alloc ?_ _ | with_reducible refine Fr.setNew ?_ (by simp) _)

end Go.Proofs.Ytihjmipmjogpoaa

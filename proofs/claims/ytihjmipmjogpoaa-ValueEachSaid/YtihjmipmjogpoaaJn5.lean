/- Texts joined: P2, W1, W2, E9, W3, Y1. -/
import Derived.Test.YtihjmipmjogpoaaJn4
import Derived.Deep.RegionLaw
import Derived.IntWalk
import Derived.WalkLawsBesides
import Derived.Lib.AppendStr
import Derived.Deep.RegionHeld3
import Derived.Deep.Cut
import Derived.Laws.BytesArg
/- Chapter 2: the law's own lent: a value in lists of its own, each with a mark in its spare room. -/
namespace Go.Proofs.Ytihjmipmjogpoaa
open Go.RowKit

/-- Each list has a mark behind its last part. -/
def T.Mk (w : World) : T → Prop
  | .mk _ _ _ A cap l _ => (l ≠ [] → ∃ b o, A = some ⟨b, o, none⟩ ∧ l.length + 1 ≤ cap ∧ w.cell? ⟨b, o + l.length * 5 + 1, none⟩ = some (.int .i64 77)) ∧ ∀ x ∈ l, T.Mk w x
termination_by t => t

theorem T.mk_mk {w : World} {k n : Int} {s : ByteArray} {A : Option Addr} {cap : Nat} {l : List T} {r : Int} :
    (T.mk k n s A cap l r).Mk w ↔ (l ≠ [] → ∃ b o, A = some ⟨b, o, none⟩ ∧ l.length + 1 ≤ cap ∧ w.cell? ⟨b, o + l.length * 5 + 1, none⟩ = some (.int .i64 77)) ∧ ∀ x ∈ l, x.Mk w := by
  rw [T.Mk]

theorem T.mem_blocks {k n : Int} {s : ByteArray} {b o cap : Nat} {l : List T} {r : Int} (hl : l ≠ []) : b ∈ (T.mk k n s (some ⟨b, o, none⟩) cap l r).blocks := by
  rw [T.blocks_mk]
  cases l with
  | nil => exact absurd rfl hl
  | cons x l => simp

theorem T.sub_blocks {k n : Int} {s : ByteArray} {A : Option Addr} {cap : Nat} {l : List T} {r : Int} {x : T} (hx : x ∈ l) {b : Nat} (hb : b ∈ x.blocks) : b ∈ (T.mk k n s A cap l r).blocks := by
  rw [T.blocks_mk]
  exact List.mem_append_right _ (List.mem_flatten.2 ⟨_, List.mem_map_of_mem hx, hb⟩)

theorem T.Mk.fr {S : Nat → Prop} {w w' : World} {lo hi : Nat} (hf : Fr S w w') (hh : hi ≤ w.heap.size) (t : T) : t.In w lo hi → (∀ b ∈ t.blocks, ¬ S b) → t.Mk w → t.Mk w' := by
  induction t using T.ind with
  | h k n s A cap l r ih =>
    intro hi' hs
    rw [T.mk_mk, T.mk_mk]
    rintro ⟨h1, h2⟩
    refine ⟨fun hl => ?_, fun x hx => ih x hx ((T.in_mk.1 hi').2.2 x hx) (fun b hb => hs b (T.sub_blocks hx hb)) (h2 x hx)⟩
    obtain ⟨b, o, rfl, hc, h3⟩ := h1 hl
    have hb := T.mem_blocks (k := k) (n := n) (s := s) (b := b) (o := o) (cap := cap) (r := r) hl
    exact ⟨b, o, rfl, hc, (hf.cell (by have := T.In.blocks _ hi' b hb; omega) (hs b hb)).trans h3⟩

theorem T.Mk.no {w w' : World} {lo hi : Nat} (hf : Fr No w w') (hh : hi ≤ w.heap.size) {t : T} (hi' : t.In w lo hi) (h : t.Mk w) : t.Mk w' := T.Mk.fr hf hh t hi' (fun _ _ h => h) h

theorem In.fr_blocks {S : Nat → Prop} {w w' : World} {lo hi : Nat} (hf : Fr S w w') (hh : hi ≤ w.heap.size) (t : T) : (∀ b ∈ t.blocks, ¬ S b) → t.In w lo hi → t.In w' lo hi := by
  induction t using T.ind with
  | h k n s A cap l r ih =>
    intro hs
    rw [T.in_mk, T.in_mk]
    rintro ⟨h1, h2, h3⟩
    refine ⟨h1, fun hl => ?_, fun x hx => ih x hx (fun b hb => hs b (T.sub_blocks hx hb)) (h3 x hx)⟩
    obtain ⟨b, o, rfl, hb0, hb1, hc⟩ := h2 hl
    exact ⟨b, o, rfl, hb0, hb1, fun i x hx j u hu => (hf.cell (by omega) (hs b (T.mem_blocks hl))).trans (hc i x hx j u hu)⟩

/-- What lent gives. -/
def LentP (v : V) (w : World) (e : Ending) (w' : World) : Prop :=
  ∃ t' : T, e = .returned t'.val ∧ t'.v = v ∧ t'.In w' w.heap.size w'.heap.size ∧ t'.Mk w' ∧ Fr No w w'

/-- Where its loop stands. -/
structure LentInv (w : World) (X : Array Value) (k n : Int) (s : ByteArray) (r : Int) (l : List T) (j : Nat) (A : Option Addr) (cap : Nat) (l' : List T) (wr : World) : Prop where
  len : l'.length = j
  vs : l'.map T.v = (l.take j).map T.v
  fr : Fr No w wr
  b0 : Blk wr w.heap.size 27 X
  b1 : Blk wr (w.heap.size + 1) 27 #[.int .u8 0, .int .i64 0, .string ⟨#[]⟩, .slice none 0 0, .int .i64 0]
  b2 : Blk wr (w.heap.size + 1 + 1) 27 #[.int .u8 k, .int .i64 n, .string s, .slice A j cap, .int .i64 r]
  own : wr.ownsRow (w.heap.size + 3) 27 5 (.slice A j cap) j (rowCells l')
  inn : ∀ x ∈ l', x.In wr (w.heap.size + 3) wr.heap.size ∧ x.Mk wr
  sep : ∀ x ∈ l', ∀ b ∈ x.blocks, (Value.slice A j cap).ownBlock ≠ some b
  big : w.heap.size + 3 ≤ wr.heap.size

theorem lent_after {W0 w2 : World} {g base j : Nat} {a b c d e : Value} {v : Value} {xs : List Value} {m : Array Value} (hb : Blk W0 g 27 #[a, b, c, d, e]) (ho : W0.ownsRow base 27 5 v j xs) (fr : Fr No W0.drew w2) :
    (w2.alloc (.cells m 27)).ownsRow base 27 5 v j xs ∧ Blk (w2.alloc (.cells m 27)) g 27 #[a, b, c, d, e] ∧ w2.cell? ⟨g, 3, none⟩ = some d ∧ (w2.alloc (.cells m 27)).cell? ⟨g, 3, none⟩ = some d ∧ (w2.alloc (.cells m 27)).frozen? ⟨g, 3, none⟩ = false ∧ W0.heap.size ≤ w2.heap.size ∧ g < w2.heap.size := by
  have h1 : Blk w2 g 27 #[a, b, c, d, e] := Blk.fr (a := W0.drew) hb fr (fun h => h)
  have h2 := h1.alloc (.cells m 27)
  exact ⟨(owns_fr (a := W0.drew) ho fr fun _ _ h => h).alloc _, h2, h1.cell 3, h2.cell 3, h2.frozen 3, fr.size, h1.lt⟩

theorem lent_grown {W w3 : World} {g : Nat} {v d : Value} (hg : W.grownBy w3 v.ownBlock) (hc : W.cell? ⟨g, 3, none⟩ = some d) (hf : W.frozen? ⟨g, 3, none⟩ = false) (hlt : g < W.heap.size) (hne : some g ≠ v.ownBlock) :
    w3.cell? ⟨g, 3, none⟩ = some d ∧ w3.frozen? ⟨g, 3, none⟩ = false :=
  ⟨(hg.cell_far ⟨g, 3, none⟩ hlt hne).trans hc, (hg.frozen_far ⟨g, 3, none⟩ hlt hne).trans hf⟩

theorem T.cells_mk (k n : Int) (s : ByteArray) (A : Option Addr) (cap : Nat) (l : List T) (r : Int) : (T.mk k n s A cap l r).cells = [.int .u8 k, .int .i64 n, .string s, .slice A l.length cap, .int .i64 r] := rfl

theorem fr_grown {w w' : World} {row : Option Nat} (h : w.grownBy w' row) : Fr (fun i => some i = row) w w' := (Fr.refl _ w).grown h fun k hk _ => hk.symm

theorem owns_le {w : World} {base : Nat} {e : TypeId} {size : Nat} {A : Option Addr} {n cap : Nat} {xs : List Value} (h : w.ownsRow base e size (.slice A n cap) n xs) : n ≤ cap := by
  rcases h.2 with ⟨h, _⟩ | ⟨g, c, cur, h, _, _, hc, _⟩
  · simp at h; omega
  · simp at h; omega

theorem lent_push {w wr w2 w3 : World} {X : Array Value} {k n : Int} {s : ByteArray} {r : Int} {l : List T} {j : Nat} {A2 : Option Addr} {cap2 : Nat} {l' : List T} {t' : T} {g cp : Nat} (inv : LentInv w X k n s r l j A2 cap2 l' wr) (hlt : j < l.length) (hv : t'.v = l[j].v)
    (hin : t'.In w2 wr.heap.size w2.heap.size) (hmk : t'.Mk w2) (f1 : Fr No wr.drew w2) (hown : w3.ownsRow (w.heap.size + 3) 27 5 (.slice (some ⟨g, 0, none⟩) (j + 1) cp) (j + 1) (rowCells l' ++ t'.cells))
    (hgrow : (w2.alloc (.cells t'.cells.toArray 27)).grownBy w3 (Value.slice A2 j cap2).ownBlock) (hat : (Value.slice A2 j cap2).ownBlock = some g ∨ g = w2.heap.size + 1) :
    LentInv w X k n s r l (j + 1) (some ⟨g, 0, none⟩) cp (l' ++ [t']) (w3.setCell ⟨w.heap.size + 1 + 1, 3, none⟩ (.slice (some ⟨g, 0, none⟩) (j + 1) cp)) := by
  have big := inv.big
  have hol := inv.own.lt
  have hs2 : wr.heap.size ≤ w2.heap.size := f1.size
  have hs3 : w2.heap.size + 1 ≤ w3.heap.size := by have := hgrow.size; simpa using this
  have F2 : Fr (fun i => some i = (Value.slice A2 j cap2).ownBlock ∨ i = w.heap.size + 1 + 1) w2 (w3.setCell ⟨w.heap.size + 1 + 1, 3, none⟩ (.slice (some ⟨g, 0, none⟩) (j + 1) cp)) :=
    ((((Fr.refl No w2).alloc (.cells t'.cells.toArray 27)).no).trans' (fr_grown hgrow) (fun i _ h => .inl h)).set (fun _ => .inr rfl) _
  have F1 : Fr (fun i => some i = (Value.slice A2 j cap2).ownBlock ∨ i = w.heap.size + 1 + 1) wr (w3.setCell ⟨w.heap.size + 1 + 1, 3, none⟩ (.slice (some ⟨g, 0, none⟩) (j + 1) cp)) :=
    ((Fr.refl _ wr).drew.thenNo f1).trans F2
  have hgl := (owns_lt hown g rfl)
  have hn0 : ∀ i, i < w.heap.size + 3 → ¬ some i = (Value.slice A2 j cap2).ownBlock := fun i hi h => by have := hol i h.symm; omega
  refine ⟨by simp [inv.len], ?_, inv.fr.trans' F1 (fun i hi h => ?_), inv.b0.fr F1 ?_, inv.b1.fr F1 ?_, ?_, ?_, ?_, ?_, ?_⟩
  · rw [List.map_append, inv.vs, List.take_succ_eq_append_getElem hlt, List.map_append, List.map_singleton, List.map_singleton, hv]
  · rcases h with h | h
    · exact hn0 i (by omega) h
    · omega
  · rintro (h | h)
    · exact hn0 _ (by omega) h
    · omega
  · rintro (h | h)
    · exact hn0 _ (by omega) h
    · omega
  · have F3 : Fr (fun i => some i = (Value.slice A2 j cap2).ownBlock) wr w3 :=
      ((((Fr.refl _ wr).drew.thenNo f1).alloc (.cells t'.cells.toArray 27))).trans' (fr_grown hgrow) (fun i _ h => h)
    have := (inv.b2.fr F3 (hn0 _ (by omega))).set_ 3 (.slice (some ⟨g, 0, none⟩) (j + 1) cp)
    simpa using this
  · rw [rowCells_snoc]
    exact owns_fr hown ((Fr.refl (fun i => i = w.heap.size + 1 + 1) w3).set (fun _ => rfl) _) (fun i hi h => by
      simp [Value.ownBlock] at hi
      have h' : i = w.heap.size + 1 + 1 := h
      omega)
  · intro x hx
    have hsz := F1.size
    have hsz2 := F2.size
    rcases List.mem_append.1 hx with hx | hx
    · obtain ⟨h1, h2⟩ := inv.inn x hx
      have hb : ∀ b ∈ x.blocks, ¬ (some b = (Value.slice A2 j cap2).ownBlock ∨ b = w.heap.size + 1 + 1) := fun b hb h => by
        rcases h with h | h
        · exact inv.sep x hx b hb h.symm
        · have := T.In.blocks x h1 b hb; omega
      exact ⟨T.In.more (Nat.le_refl _) hsz x (In.fr_blocks F1 (Nat.le_refl _) x hb h1), T.Mk.fr F1 (Nat.le_refl _) x h1 hb h2⟩
    · simp at hx; subst hx
      have hb : ∀ b ∈ x.blocks, ¬ (some b = (Value.slice A2 j cap2).ownBlock ∨ b = w.heap.size + 1 + 1) := fun b hb h => by
        have h3 := T.In.blocks x hin b hb
        rcases h with h | h
        · have := hol b h.symm; omega
        · omega
      exact ⟨T.In.more (by omega) hsz2 x (In.fr_blocks F2 (Nat.le_refl _) x hb hin), T.Mk.fr F2 (Nat.le_refl _) x hin hb hmk⟩
  · intro x hx b hb h
    simp [Value.ownBlock] at h
    subst h
    rcases List.mem_append.1 hx with hx | hx
    · rcases hat with h | h
      · exact inv.sep x hx _ hb h
      · have := T.In.blocks x (inv.inn x hx).1 _ hb; omega
    · simp at hx; subst hx
      have h3 := T.In.blocks x hin _ hb
      rcases hat with h | h
      · have := hol _ h; omega
      · omega
  · have := F1.size; omega

theorem lent_end {w wr W : World} {X : Array Value} {k n : Int} {s : ByteArray} {r : Int} {l : List T} {A2 : Option Addr} {cap2 : Nat} {l' : List T} {g cp : Nat} {w2 w3 : World} {m : Array Value} (inv : LentInv w X k n s r l l.length A2 cap2 l' wr) (hl : l.length * 64 ≤ 140737488351232)
    (fit : 0 ≤ k ∧ k < 256 ∧ -9223372036854775808 ≤ n ∧ n ≤ 9223372036854775807 ∧ s.size ≤ 140737488351232 ∧ -9223372036854775808 ≤ r ∧ r ≤ 9223372036854775807) (f1 : Fr No wr.drew w2)
    (hown : w3.ownsRow (w.heap.size + 3) 27 5 (.slice (some ⟨g, 0, none⟩) (l.length + 1) cp) (l.length + 1) (rowCells l' ++ [.int .u8 1, .int .i64 77, .string ⟨#[]⟩, .slice none 0 0, .int .i64 0]))
    (hgrow : (w2.alloc (.cells m 27)).grownBy w3 (Value.slice A2 l.length cap2).ownBlock) (hat : (Value.slice A2 l.length cap2).ownBlock = some g ∨ g = w2.heap.size + 1)
    (hW : Fr (fun i => i = w.heap.size + 1 ∨ i = w.heap.size + 1 + 1) w3 W) :
    (T.mk k n s (some ⟨g, 0, none⟩) cp l' r).v = .mk k n s (l.map T.v) r ∧ (T.mk k n s (some ⟨g, 0, none⟩) cp l' r).In W w.heap.size W.heap.size ∧ (T.mk k n s (some ⟨g, 0, none⟩) cp l' r).Mk W ∧ Fr No w W := by
  have big := inv.big
  have hol := inv.own.lt
  have hle := inv.len
  have hs2 : wr.heap.size ≤ w2.heap.size := f1.size
  have hs3 : w2.heap.size + 1 ≤ w3.heap.size := by have := hgrow.size; simpa using this
  have F2 : Fr (fun i => some i = (Value.slice A2 l.length cap2).ownBlock ∨ (i = w.heap.size + 1 ∨ i = w.heap.size + 1 + 1)) wr W :=
    (((((Fr.refl _ wr).drew.thenNo f1).alloc (.cells m 27))).trans' (fr_grown hgrow) (fun i _ h => .inl h)).trans' hW (fun i _ h => .inr h)
  have hgl := (owns_lt hown g rfl)
  have hcp := owns_le hown
  have hown2 := owns_fr hown hW (fun i hi h => by
    simp [Value.ownBlock] at hi
    have h' : i = w.heap.size + 1 ∨ i = w.heap.size + 1 + 1 := h
    omega)
  have hcell : ∀ i u, (rowCells l' ++ [.int .u8 1, .int .i64 77, .string ⟨#[]⟩, .slice none 0 0, .int .i64 0])[i]? = some u → W.cell? ⟨g, 0 + i, none⟩ = some u := fun i u hu => by
    have := World.ownsRow.cells hown2 (g := g) rfl i u hu
    rwa [add_at] at this
  have hrl := rowCells_length l'
  have hin : ∀ x ∈ l', x.In W w.heap.size W.heap.size ∧ x.Mk W := fun x hx => by
    obtain ⟨h1, h2⟩ := inv.inn x hx
    have hb : ∀ b ∈ x.blocks, ¬ (some b = (Value.slice A2 l.length cap2).ownBlock ∨ (b = w.heap.size + 1 ∨ b = w.heap.size + 1 + 1)) := fun b hb h => by
      have := T.In.blocks x h1 b hb
      rcases h with h | h
      · exact inv.sep x hx b hb h.symm
      · omega
    exact ⟨T.In.more (by omega) F2.size x (In.fr_blocks F2 (Nat.le_refl _) x hb h1), T.Mk.fr F2 (Nat.le_refl _) x h1 hb h2⟩
  refine ⟨?_, T.in_mk.2 ⟨⟨fit.1, fit.2.1, fit.2.2.1, fit.2.2.2.1, fit.2.2.2.2.1, by omega, by omega, fit.2.2.2.2.2.1, fit.2.2.2.2.2.2⟩, fun hne => ⟨g, 0, rfl, by omega, by have := hW.size; omega, fun i x hx c u hu => ?_⟩, fun x hx => (hin x hx).1⟩, T.mk_mk.2 ⟨fun hne => ⟨g, 0, rfl, by omega, ?_⟩, fun x hx => (hin x hx).2⟩, inv.fr.trans' F2 (fun i hi h => ?_)⟩
  · rw [T.v_mk, inv.vs, List.take_of_length_le (Nat.le_refl _)]
  · have h1 := rowCells_get l' i c x u hx hu
    have h2 := hcell (i * 5 + c) u (by rw [List.getElem?_append_left (List.getElem?_eq_some_iff.1 h1).1]; exact h1)
    rwa [← Nat.add_assoc] at h2
  · have h2 := hcell (l'.length * 5 + 1) (.int .i64 77) (by rw [List.getElem?_append_right (by omega), hrl, show l'.length * 5 + 1 - l'.length * 5 = 1 by omega]; rfl)
    rwa [← Nat.add_assoc] at h2
  · rcases h with h | h
    · have := hol i h.symm; omega
    · omega

set_option maxRecDepth 100000 in
set_option maxHeartbeats 8000000 in
theorem lent_any (t : T) : ∀ (w : World) (lo hi : Nat), t.In w lo hi → hi ≤ w.heap.size → Calls Try.prog 40 #[t.val] w (LentP t.v w) := by
  induction t using T.ind with
  | h k n s A cap l r ih =>
    intro w lo hi ht hh
    rw [T.val_mk]
    have fit := (T.in_mk.1 ht).1
    have hlen := fit.len1
    obtain ⟨i0, hi0, hz0, hz1, hz2⟩ := info_parts value_info
    have hmk := fun W => run_make_rowN (P := Try.prog) 24 27 i0 _ Try.underlying24 hi0 hz0 .i64 .i64 0 (l.length + 1) (by omega) (by rw [hz2]; omega) (by omega) W
    rw [hz1] at hmk
    have hmk : ∀ W, (Instr.makeSlice 24 (.int .i64 0) (.int .i64 ((l.length : Int) + 1))).run Try.prog W = .ok (.slice (some ⟨W.heap.size, 0, none⟩) 0 (l.length + 1)) (W.alloc (.cells (madeCells (Value.agg #[.int .u8 0, .int .i64 0, .string ⟨#[]⟩, .slice none 0 0, .int .i64 0]).cells ((l.length + 1) * 5)) 27)) := hmk
    by_cases hl : l.length = 0
    · have hl0 : ((l.length : Int) == 0) = true := by simp [hl]
      obtain rfl : l = [] := List.eq_nil_of_length_eq_zero hl
      clear hmk ih
      go_enter Try.func40, Try.ntmps40
      go_wp2
      refine bodyPost_ret (v := .agg #[.int .u8 k, .int .i64 n, .string s, .slice A 0 cap, .int .i64 r]) (by simp [results, Try.results40, go_sem]) rfl ?_
      refine ⟨T.mk k n s A cap [] r, rfl, by simp [T.v_mk], T.in_mk.2 ⟨fit, fun h => absurd rfl h, by simp⟩, T.mk_mk.2 ⟨fun h => absurd rfl h, by simp⟩, ?_⟩
      repeat (first | with_reducible exact Fr.refl No w | with_reducible refine Fr.setNew ?_ (by first | (simp; done) | (simp; omega)) _ | with_reducible refine Fr.alloc ?_ _)
    · have hl0 : ((l.length : Int) == 0) = false := by simp; intro h; subst h; simp at hl
      have hl1 : (0 : Int) < (l.length : Int) := by omega
      go_enter Try.func40, Try.ntmps40
      go_wp2_with fail
      go_loopw [4] (fun i wr => ∃ (j : Nat) (A2 : Option Addr) (cap2 : Nat) (l' : List T), j ≤ l.length ∧ i = .int .i64 j ∧
          LentInv w #[.int .u8 k, .int .i64 n, .string s, .slice A l.length cap, .int .i64 r] k n s r l j A2 cap2 l' wr)
        (fun i _ => l.length - (intOf i).toNat)
      case atStart =>
        refine ⟨0, some ⟨w.heap.size + 1 + 1 + 1, 0, none⟩, l.length + 1, [], Nat.zero_le _, rfl, rfl, by simp, (((((Fr.refl No w).alloc _).alloc _).alloc _).alloc _), (((Blk.new' w 27 _ rfl).alloc _).alloc _).alloc _, ((Blk.new' (w.alloc _) 27 _ (by simp)).alloc _).alloc _,
          (Blk.new' ((w.alloc _).alloc _) 27 _ (by simp)).alloc _, ?_, by simp, by simp, by simp⟩
        have := World.ownsRow_made (base := w.heap.size + 3) (e := 27) (size := 5) (((w.alloc (.cells #[.int .u8 k, .int .i64 n, .string s, .slice A l.length cap, .int .i64 r] 27)).alloc (.cells #[.int .u8 0, .int .i64 0, .string ⟨#[]⟩, .slice none 0 0, .int .i64 0] 27)).alloc (.cells #[.int .u8 k, .int .i64 n, .string s, .slice (some ⟨w.heap.size + 1 + 1 + 1, 0, none⟩) 0 (l.length + 1), .int .i64 r] 27)) (madeCells #[.int .u8 0, .int .i64 0, .string ⟨#[]⟩, .slice none 0 0, .int .i64 0] ((l.length + 1) * 5)) (l.length + 1) (by simp) (by unfold maxLen; omega) (size_madeCells _ _)
        simp only [World.size_alloc] at this
        exact this
      case round =>
        obtain ⟨j, A2, cap2, l', hj, rfl, inv⟩ := hrel
        have fr := inv.fr
        have big := inv.big
        have own := inv.own
        have hsep0 : (Value.slice A2 j cap2).ownBlock ≠ some (w.heap.size + 1 + 1) := fun h => by have := own.lt _ h; omega
        obtain ⟨c0, c1, c2, c3, c4, cf⟩ := inv.b2.cells5
        obtain ⟨d0, d1, d2, d3, d4, df⟩ := inv.b0.cells5
        by_cases hlt : j < l.length
        · obtain ⟨b, o, k1, n1, s1, A1, cap1, l1, r1, rfl, hb0, hb1, hx, hin, e0, e1, e2, e3, e4⟩ := T.elem (ht.no fr hh) hlt
          have IH := ih l[j] (List.getElem_mem hlt)
          rw [hx] at IH
          have HX := hide hx
          rw [T.val_mk] at IH
          have hh0 : hi ≤ wr.heap.size := by omega
          have IH2 := IH wr.drew lo hi (hin.no ((Fr.refl No wr).drew) hh0) hh0
          have HIH := hide IH2
          have HI := hide inv
          have HB2 := hide inv.b2
          have HO := hide own
          have g0 : b < wr.heap.size := by omega
          have g1 : w.heap.size < wr.heap.size := by omega
          have g2 : w.heap.size + 1 + 1 < wr.heap.size := by omega
          have hv0' : some (w.heap.size + 1 + 1) ≠ (Value.slice A2 j cap2).ownBlock := Ne.symm hsep0
          have HH := hide hh
          clear hx ih inv ht hmk IH IH2 fr own hin hh
          go_wp2_with fail
          go_region_law (first
            | ((refine step_append_lies _ (by rfl) _ _ _ (by rfl) (w.heap.size + 3) 27 i0 _ 5 64 Try.underlying24 hi0 hz0 hz1 hz2 rfl (by omega) (.slice A2 j cap2) j (rowCells l') (by rfl) ownD ⟨w2.heap.size, 0, none⟩ 1 1 [.int .u8 k5, .int .i64 n5, .string s5, .slice A5 l5.length cap5, .int .i64 r5] (by rfl) (by rfl) (World.news_of_block (Blk.new w2 27 _)) (by simp [Value.oneCell']) (by omega) (by unfold maxLen; omega) (by omega) (by simp; omega) _ rfl ?_); intro g cp w3 hown3 hgrow hat hlt3; obtain ⟨c5, f5⟩ := lent_grown hgrow c4D f4D (by simp; omega) hv0')
            | (go_simp; go_at_call 40; (with_reducible refine HIH.out.mono ?_); rintro e w2 ⟨⟨k5, n5, s5, A5, cap5, l5, r5⟩, rfl, hv5, hin5, hmk5, fr1⟩; rw [T.val_mk]; obtain ⟨ownD, bD, c3D, c4D, f4D, hsz2, hlt2⟩ := lent_after (m := #[.int .u8 k5, .int .i64 n5, .string s5, .slice A5 l5.length cap5, .int .i64 r5]) HB2.out HO.out fr1))
          all_goals
            go_wp2
            go_roundw
            case rel =>
              exact ⟨j + 1, _, _, _, hlt, by go_num, lent_push HI.out hlt (hv5.trans (congrArg T.v HX.out).symm) hin5 hmk5 fr1 hown3 hgrow (by simpa using hat)⟩
            case measure => simp [intOf]; omega
        · obtain rfl : l.length = j := by omega
          have HI := hide inv
          have HB2 := hide inv.b2
          have HB1 := hide inv.b1
          have HO := hide own
          have g1 : w.heap.size < wr.heap.size := by omega
          have g2 : w.heap.size + 1 + 1 < wr.heap.size := by omega
          have hv0' : some (w.heap.size + 1 + 1) ≠ (Value.slice A2 l.length cap2).ownBlock := Ne.symm hsep0
          clear ih inv ht hmk fr own hh
          go_wp2_with fail
          go_region_law (first
            | ((refine step_append_lies _ (by rfl) _ _ _ (by rfl) (w.heap.size + 3) 27 i0 _ 5 64 Try.underlying24 hi0 hz0 hz1 hz2 rfl (by omega) (.slice A2 l.length cap2) l.length (rowCells l') (by rfl) ownD ⟨w2.heap.size, 0, none⟩ 1 1 [.int .u8 1, .int .i64 77, .string ⟨#[]⟩, .slice none 0 0, .int .i64 0] (by rfl) (by rfl) (World.news_of_block (Blk.new w2 27 _)) (by simp [Value.oneCell']) (by omega) (by unfold maxLen; omega) (by omega) (by simp; omega) _ rfl ?_); intro g cp w3 hown3 hgrow hat hlt3; obtain ⟨c5, f5⟩ := lent_grown hgrow c4D f4D (by simp; omega) hv0')
            | (go_simp; go_at_call 79; (with_reducible refine (num2_any 77 _).mono ?_); rintro e w2 ⟨rfl, fr1⟩; obtain ⟨ownD, bD, c3D, c4D, f4D, hsz2, hlt2⟩ := lent_after (m := #[.int .u8 1, .int .i64 77, .string ⟨#[]⟩, .slice none 0 0, .int .i64 0]) HB2.out HO.out fr1))
          all_goals
            have F3 : Fr (fun i => some i = (Value.slice A2 l.length cap2).ownBlock) wr w3 :=
              ((((Fr.refl _ wr).drew.thenNo fr1).alloc (.cells #[.int .u8 1, .int .i64 77, .string ⟨#[]⟩, .slice none 0 0, .int .i64 0] 27))).trans' (fr_grown hgrow) (fun i _ h => h)
            have hn0 : ∀ i, i < w.heap.size + 3 → ¬ some i = (Value.slice A2 l.length cap2).ownBlock := fun i hi h => by have := HO.out.lt i h.symm; omega
            have B0 := HI.out.b0.fr F3 (hn0 _ (by omega))
            have B1 := HI.out.b1.fr F3 (hn0 _ (by omega))
            have B2 := HI.out.b2.fr F3 (hn0 _ (by omega))
            obtain ⟨x0, x1, x2, x3, x4, xf⟩ := B0.cells5
            obtain ⟨y0, y1, y2, y3, y4, yf⟩ := B1.cells5
            obtain ⟨z0, z1, z2, z3, z4, zf⟩ := B2.cells5
            have hcp := owns_le hown3
            have hcp2 : (l.length : Int) ≤ (cp : Int) := by omega
            have q0 := B0.lt
            have q1 := B1.lt
            have q2 := B2.lt
            have HOWN := hide hown3
            have HGR := hide hgrow
            have HAT := hide hat
            have HF1 := hide fr1
            clear F3 hn0 B0 B1 B2 hown3 hgrow hat fr1 hcp c0 c1 c2 c3 c4 cf d0 d1 d2 d3 d4 df c5 f5 c3D c4D f4D bD ownD
            go_wp2
            refine bodyPost_ret (v := .agg #[.int .u8 k, .int .i64 n, .string s, .slice (some ⟨g, 0, none⟩) l.length cp, .int .i64 r]) (by simp [results, Try.results40, go_sem, *]) rfl ?_
            generalize hW : World.setCell _ _ _ = W
            have hfr : Fr (fun i => i = w.heap.size + 1 ∨ i = w.heap.size + 1 + 1) w3 W := by
              rw [← hW]
              repeat (first | with_reducible exact Fr.refl _ w3 | with_reducible refine Fr.set ?_ (by simp) _)
            have hl' := HI.out.len
            obtain ⟨e1, e2, e3, e4⟩ := lent_end HI.out hlen ⟨fit.k0, fit.k1, fit.n0, fit.n1, fit.s1, fit.r0, fit.r1⟩ HF1.out HOWN.out HGR.out (by simpa using HAT.out) hfr
            exact ⟨T.mk k n s (some ⟨g, 0, none⟩) cp l' r, by rw [T.val_mk, hl'], by rw [e1, T.v_mk], e2, e3, e4⟩

end Go.Proofs.Ytihjmipmjogpoaa

/- Chapter 2: high: the bytes of a number. -/
namespace Go.Proofs.Ytihjmipmjogpoaa
open Go.RowKit

/-- So many bytes of a number, the highest first. -/
def hiB (n : Nat) : Nat → List Nat
  | 0 => []
  | j + 1 => (n / 2 ^ (8 * j)) % 256 :: hiB n j

theorem hiB_length (n j : Nat) : (hiB n j).length = j := by
  induction j with
  | zero => rfl
  | succ j ih => simp [hiB, ih]

def byteCells (l : List Nat) : List Value := l.map fun (x : Nat) => .int .u8 (x : Int)

theorem byte_info : (Try.prog.info? 5).map (fun i => (i.zero, i.size, i.bytes)) = some (some (.int .u8 0), 1, 1) := by kernel_rfl

/-- The blocks of bytes from base on. -/
def BS (base : Nat) (w : World) (i : Nat) : Prop := base ≤ i ∧ ∃ cur, w.heap[i]? = some (.cells cur 5 (0, 0))

theorem BS.trans {base : Nat} {a b c : World} (h : Fr (BS base a) a b) (k : Fr (BS base b) b c) : Fr (BS base a) a c :=
  h.trans' k fun i hi ⟨h0, cur, h1⟩ => by
    by_cases hs : BS base a i
    · exact hs
    · exact ⟨h0, cur, (h.block i hi hs).symm.trans h1⟩

theorem BS.grown {base n : Nat} {a w w' : World} {v : Value} {xs : List Value} (h : Fr (BS base a) a w) (ho : w.ownsRow base 5 1 v n xs) (hg : w.grownBy w' v.ownBlock) : Fr (BS base a) a w' :=
  BS.trans h ((Fr.refl _ w).grown hg fun i hi _ => by
    rcases ho.2 with ⟨rfl, _⟩ | ⟨g, cap, cur, rfl, hb, hh, _⟩
    · cases hi
    · simp [Value.ownBlock] at hi; subst hi; exact ⟨hb, cur, hh⟩)

theorem Blk.bs {base g : Nat} {t : TypeId} {w : World} {cs : Array Value} (h : Blk w g t cs) (ht : t ≠ 5) : ¬ BS base w g := by
  rintro ⟨_, cur, h1⟩
  unfold Blk at h
  rw [h] at h1
  injection h1 with h1
  injection h1 with _ h2
  exact ht h2

/-- A row of bytes with more behind it. -/
def GrowP (xs more : List Nat) (base : Nat) (w : World) (e : Ending) (w' : World) : Prop :=
  ∃ v', e = .returned v' ∧ w'.ownsRow base 5 1 v' (xs ++ more).length (byteCells (xs ++ more)) ∧ Fr (BS base w) w w'

set_option maxRecDepth 100000 in
set_option maxHeartbeats 4000000 in
theorem high_any (v : Value) (xs : List Nat) (base : Nat) (n width : Nat) (w : World) (hn : n < 18446744073709551616) (hwd : width ≤ 8) (hx : xs.length ≤ 1000000) (ho : w.ownsRow base 5 1 v xs.length (byteCells xs)) (hb : base ≤ w.heap.size) :
    Calls Try.prog 139 #[v, .int .u64 (n : Int), .int .i64 (width : Int)] w (GrowP xs (hiB n width) base w) := by
  obtain ⟨i0, hi0, hz0, hz1, hz2⟩ := info_parts byte_info
  have hw1 : (width : Int) ≤ 8 := by omega
  go_enter Try.func139, Try.ntmps139
  go_wp2_with fail
  go_loopw [0, 7] (fun s0 s7 wr => ∃ (j : Nat) (done : List Nat), j ≤ width ∧ s7 = .int .i64 ((j : Int) - 1) ∧ hiB n width = done ++ hiB n j ∧ done.length + j = width ∧ wr.ownsRow base 5 1 s0 (xs ++ done).length (byteCells (xs ++ done)) ∧ Fr (BS base w) w wr) (fun _ s7 _ => ((intOf s7) + 1).toNat)
  case atStart => exact ⟨width, [], Nat.le_refl _, by go_num, by simp, by simp, by simpa using ho, Fr.refl _ _⟩
  case round =>
    obtain ⟨j, done, hj, rfl, hd, hdl, how, fr⟩ := hrel
    cases j with
    | zero =>
      rw [show (((0 : Nat) : Int) - 1) = -1 from rfl]
      have hq : hiB n width = done := by rw [hd]; simp [hiB]
      have HQ := hide hq
      have HO := hide how
      have HF := hide fr
      clear hq how fr hd ho
      go_wp2
      go_ret
      exact ⟨_, rfl, by rw [HQ.out]; exact HO.out, HF.out⟩
    | succ j =>
      have e1 : (((j + 1 : Nat) : Int) - 1) = (j : Int) := by omega
      rw [e1]
      have hj8 : (j : Int) < 8 := by omega
      have hd1 := hd
      have HD := hide hd
      have HL := hide hdl
      have hle := (show (xs ++ done).length ≤ 1000008 by simp; omega)
      generalize hL : xs ++ done = L at *
      have hown1 := how.alloc (.cells #[.int .u8 ((n : Int) / 2 ^ (8 * j) % 256)] 5)
      have hbw : base ≤ wr.heap.size := Nat.le_trans hb fr.size
      have hcast : ((n / 2 ^ (8 * j) % 256 : Nat) : Int) = (n : Int) / 2 ^ (8 * j) % 256 := by push_cast; rfl
      have HC := hide hcast
      have HF := hide fr
      have HO := hide how
      have HLL := hide hL
      clear hd hdl hd1 e1 hcast fr how hL ho
      go_wp2_with (at_builtin; refine wpList_append_lies _ (by rfl) _ _ _ (by rfl) base 5 i0 _ 1 1 Try.underlying151 hi0 hz0 hz1 hz2 (by rfl) (by omega) _ L.length (byteCells L) (by rfl) hown1 ⟨wr.heap.size, 0, none⟩ 1 1 [.int .u8 ((n : Int) / 2 ^ (8 * j) % 256)] (by rfl) (by rfl) (World.news_of_block (heap_alloc_new wr _)) (by simp [Value.oneCell']) (by omega) (by unfold maxLen; omega) (by omega) (by simp; omega) (wr.heap.size + 1) (by simp) ?_; intro g cap w1 hown2 hgrow hat hlt1)
      go_roundw
      case rel =>
        refine ⟨j, done ++ [n / 2 ^ (8 * j) % 256], by omega, by go_num, by rw [HD.out]; simp [hiB], by simp; have := HL.out; omega, ?_, ?_⟩
        · rw [← List.append_assoc, HLL.out, List.length_append, byteCells, List.map_append]
          have h := hown2
          rw [← HC.out] at h
          exact h
        · exact BS.grown (HF.out.alloc _) hown1 hgrow
      case measure => first | (simp [intOf]; done) | (simp [intOf]; omega)

end Go.Proofs.Ytihjmipmjogpoaa

/- Chapter 2: write: the bytes of a value. -/
namespace Go.Proofs.Ytihjmipmjogpoaa
open Go.RowKit

theorem step_append_str {P : Program} {ops : Array Oper} {o : Oper} {a : Act} {w : World} {K : Act → World → Prop} {Q : Exit → Act → World → Prop} {E : Prop} (hg : o.guard = none) (sl x : Operand) (t u : TypeId)
    (ho : o.op = Op.call { callee := Callee.builtin Builtin.append, args := #[sl, x], argTypes := #[t, u] }) (base : Nat) (e : TypeId) (i : TypeInfo) (ht : P.underlying t = some (.slice e)) (hu : P.underlying u = some .string) (hi : P.info? e = some i) (hz : i.zero = some (.int .u8 0))
    (hsize : i.size = 1) (hby : i.bytes = 1) (v : Value) (n : Nat) (xs : List Value) (hs : a.eval sl = v) (hown : w.ownsRow base e 1 v n xs) (s : ByteArray) (hx : a.eval x = .string s) (h63 : n + s.size ≤ maxLen) (hbytes : n + s.size ≤ 140737488355328) (hbase : base ≤ w.heap.size)
    (hK : ∀ v' w', w'.ownsRow base e 1 v' (n + s.size) (xs ++ Lib.strCells s) → w.grownBy w' v.ownBlock → K (a.put o.dst v') w') :
    if Region.wanted o (yielded ops a.tmps) = true then Oper.wp P o a w K Q else E := by
  have hw : Region.wanted o (yielded ops a.tmps) = true := by simp [Region.wanted, hg]
  rw [if_pos hw]
  obtain ⟨v', w', hrun, r1, r2, _⟩ := Lib.run_append_own_string (P := P) w base t u o.type e i ht hu hi hz hsize hby v n xs hown s h63 hbytes hbase
  unfold Oper.wp
  simp [execOp, ho, resolve, invoke, builtin, hs, hx, hrun, Result.andThen]
  exact hK v' w' r1 r2

def strB (s : ByteArray) : List Nat := s.data.toList.map UInt8.toNat

theorem fr_undrew {base : Nat} {w w' : World} (h : Fr (BS base w.drew) w.drew w') : Fr (BS base w) w w' := ⟨h.os, h.tape, h.output, h.size, fun b hb hn => h.block b hb hn⟩

theorem strB_length (s : ByteArray) : (strB s).length = s.size := by rw [strB, List.length_map, Array.length_toList]; rfl

theorem strB_cells (s : ByteArray) : byteCells (strB s) = Lib.strCells s := by simp [byteCells, strB, Lib.strCells]

/-- The bytes of a value: its one form. -/
def V.enc : V → List Nat
  | .mk k n s l r => k.toNat :: (if k = 1 then hiB ((n + 9223372036854775808).toNat) 8 else if k = 2 then hiB s.size 2 ++ strB s else if k = 3 then hiB l.length 2 ++ (l.map V.enc).flatten else if k = 4 then hiB r.toNat 4 else [])
termination_by v => v

theorem V.enc_mk (k n : Int) (s : ByteArray) (l : List V) (r : Int) : (V.mk k n s l r).enc = k.toNat :: (if k = 1 then hiB ((n + 9223372036854775808).toNat) 8 else if k = 2 then hiB s.size 2 ++ strB s else if k = 3 then hiB l.length 2 ++ (l.map V.enc).flatten else if k = 4 then hiB r.toNat 4 else []) := by rw [V.enc]

theorem blk5w {w : World} {g : Nat} {t : TypeId} {a b c d e : Value} (h : Blk w g t #[a, b, c, d, e]) : w.cell? ⟨g, 0, none⟩ = some a ∧ w.cell? ⟨g, 1, none⟩ = some b ∧ w.cell? ⟨g, 2, none⟩ = some c ∧ w.cell? ⟨g, 3, none⟩ = some d ∧ w.cell? ⟨g, 4, none⟩ = some e :=
  ⟨h.cell 0, h.cell 1, h.cell 2, h.cell 3, h.cell 4⟩

theorem u64_num (n : Int) (h0 : -9223372036854775808 ≤ n) (h1 : n ≤ 9223372036854775807) : IntKind.u64.wrap (IntKind.u64.wrap n + 9223372036854775808) = ((n + 9223372036854775808).toNat : Int) ∧ (n + 9223372036854775808).toNat < 18446744073709551616 := by
  rw [IntKind.wrap_u64, IntKind.wrap_u64]; omega

theorem u64_nat (n : Nat) (h : n < 18446744073709551616) : IntKind.u64.wrap (n : Int) = (n : Int) := by
  rw [IntKind.wrap_u64]; omega

theorem u64_pos (r : Int) (h0 : 0 ≤ r) (h1 : r ≤ 9223372036854775807) : IntKind.u64.wrap r = (r.toNat : Int) ∧ r.toNat < 18446744073709551616 := by
  rw [IntKind.wrap_u64]; omega

theorem GrowP.cons {xs more : List Nat} {x base : Nat} {w w1 : World} {e : Ending} {w' : World} (fr : Fr (BS base w) w w1) (h : GrowP (xs ++ [x]) more base w1 e w') : GrowP xs (x :: more) base w e w' := by
  obtain ⟨v', rfl, ho, f⟩ := h
  exact ⟨v', rfl, by simpa using ho, BS.trans fr f⟩

theorem GrowP.more {xs a b : List Nat} {base : Nat} {w w1 : World} {e : Ending} {w' : World} (fr : Fr (BS base w) w w1) (h : GrowP (xs ++ a) b base w1 e w') : GrowP xs (a ++ b) base w e w' := by
  obtain ⟨v', rfl, ho, f⟩ := h
  exact ⟨v', rfl, by rw [← List.append_assoc]; exact ho, BS.trans fr f⟩

set_option maxRecDepth 100000 in
set_option maxHeartbeats 4000000 in
theorem write_any (t : T) : ∀ (v : Value) (xs : List Nat) (base : Nat) (w : World) (lo hi : Nat), t.In w lo hi → hi ≤ base → base ≤ w.heap.size → t.v.ok = true → w.ownsRow base 5 1 v xs.length (byteCells xs) → xs.length + t.v.enc.length ≤ 1000000 → Calls Try.prog 113 #[v, t.val] w (GrowP xs t.v.enc base w) := by
  induction t using T.ind with
  | h k n s A cap l r ih =>
    intro v xs base w lo hi ht hhi hbase hok ho hlen
    rw [T.val_mk]
    obtain ⟨i0, hi0, hz0, hz1, hz2⟩ := info_parts byte_info
    have fit := (T.in_mk.1 ht).1
    have k0 := fit.k0
    have k1 := fit.k1
    have henc : (T.mk k n s A cap l r).v.enc = k.toNat :: (if k = 1 then hiB ((n + 9223372036854775808).toNat) 8 else if k = 2 then hiB s.size 2 ++ strB s else if k = 3 then hiB (l.map T.v).length 2 ++ ((l.map T.v).map V.enc).flatten else if k = 4 then hiB r.toNat 4 else []) := by rw [T.v_mk, V.enc_mk]
    have hb := Blk.new w 27 #[.int .u8 k, .int .i64 n, .string s, .slice A l.length cap, .int .i64 r]
    have hkn : ((k.toNat : Nat) : Int) = k := by omega
    have hxs : xs.length ≤ 1000000 := by omega
    obtain ⟨c0, c1, c2, c3, c4, cf⟩ := hb.cells5
    have hown1 := (ho.alloc (.cells #[.int .u8 k, .int .i64 n, .string s, .slice A l.length cap, .int .i64 r] 27)).alloc (.cells #[.int .u8 k] 5)
    have fr1 : Fr (BS base w) w ((w.alloc (.cells #[.int .u8 k, .int .i64 n, .string s, .slice A l.length cap, .int .i64 r] 27)).alloc (.cells #[.int .u8 k] 5)) := ((Fr.refl _ w).alloc _).alloc _
    have HE := hide henc
    have HB := hide (hb.alloc (.cells #[.int .u8 k] 5))
    have HO := hide hown1
    have HF := hide fr1
    have HKN := hide hkn
    clear henc hb hkn fr1 ho
    go_enter Try.func113, Try.ntmps113
    go_upto_region 2 with (at_builtin; refine wpList_append_lies _ (by rfl) _ _ _ (by rfl) base 5 i0 _ 1 1 Try.underlying151 hi0 hz0 hz1 hz2 (by rfl) (by omega) v xs.length (byteCells xs) (by rfl) hown1 ⟨w.heap.size + 1, 0, none⟩ 1 1 [.int .u8 k] (by rfl) (by rfl) (World.news_of_block (Blk.new' _ 5 #[.int .u8 k] (by simp))) (by simp [Value.oneCell']) (by omega) (by unfold maxLen; omega) (by omega) (by simp; omega) (w.heap.size + 1 + 1) (by simp) ?_; intro g cap1 w1 hown2 hgrow hat hlt1)
    have fr2 := BS.grown HF.out hown1 hgrow
    have hb2 := HB.out.fr ((Fr.refl (fun i => v.ownBlock = some i) _).grown hgrow fun i hi _ => hi) (fun h => by
      have h1 := HB.out.bs (base := base) (by decide)
      rcases HO.out.2 with ⟨rfl, _⟩ | ⟨g', cap', cur, rfl, hb', hh', _⟩
      · cases h
      · simp [Value.ownBlock] at h; subst h; exact h1 ⟨hb', cur, hh'⟩)
    have hown3 : w1.ownsRow base 5 1 (.slice (some ⟨g, 0, none⟩) (xs.length + 1) cap1) (xs ++ [k.toNat]).length (byteCells (xs ++ [k.toNat])) := by
      rw [List.length_append, byteCells, List.map_append]
      have h := hown2
      rw [← HKN.out] at h
      exact h
    have hb1 : base ≤ w1.heap.size := by have := fr2.size; omega
    have hlen1 : (xs ++ [k.toNat]).length = xs.length + 1 := by simp
    have hok1 := hok
    rw [T.v_mk, V.ok_mk, Bool.and_eq_true] at hok1
    have hH := fun n wd w' (f : Fr No w1 w') (h : n < 18446744073709551616) (h2 : wd ≤ 8) => high_any (.slice (some ⟨g, 0, none⟩) (xs.length + 1) cap1) (xs ++ [k.toNat]) base n wd w' h h2 (by rw [hlen1]; have := hlen; rw [HE.out] at this; simp at this; omega) (owns_fr hown3 f fun _ _ h => h) (Nat.le_trans hb1 f.size)
    obtain ⟨x0, x1, x2, x3, x4, xf⟩ := hb2.cells5
    have q0 := hb2.lt
    have HFR := hide fr2
    have HB2 := hide hb2
    have HO3 := hide hown3
    have HOK := hide hok1
    have HH := hide hH
    have HL := hide hlen
    have n0 := fit.n0
    have n1 := fit.n1
    clear hown1 hown2 hgrow hat c0 c1 c2 c3 c4 cf fr2 hb2 hown3 hok1 hH hlen hlen1 hok
    by_cases h1 : k = 1
    · subst h1
      have he1 := HE.out
      rw [if_pos rfl] at he1
      have HE1 := hide he1
      clear he1
      obtain ⟨e1, e2⟩ := u64_num n n0 n1
      have E1 := hide e1
      have E2 := hide e2
      clear e1 e2
      go_wp2_with fail
      rw [E1.out]
      refine (HH.out _ 8 _ (Fr.refl No w1) E2.out (by omega)).mono ?_
      rintro e w2 ⟨v2, rfl, ho2, f2⟩
      have HP := hide (GrowP.cons HFR.out ⟨v2, rfl, ho2, f2⟩)
      clear ho2 f2
      go_wp2
      go_ret
      rw [HE1.out]
      exact HP.out
    by_cases h2 : k = 2
    · subst h2
      have he1 := HE.out
      rw [if_neg (by decide), if_pos rfl] at he1
      have HE1 := hide he1
      clear he1
      have hss : s.size ≤ 256 := by have := HOK.out.1; simp [fok] at this; omega
      have hws := u64_nat s.size (by omega)
      have hbd : (xs ++ [Int.toNat 2] ++ hiB s.size 2).length + s.size ≤ 1001000 := by simp [hiB_length]; omega
      have HBD := hide hbd
      have HL1 := hide hb1
      clear hbd
      go_wp2_with fail
      go_region_held3 (fun w' => w'.cell? ⟨w.heap.size, 2, none⟩ = some (.string s))
        (first | with_reducible exact HS3.out | with_reducible exact HS2.out | exact x2)
        (first
          | ((refine step_append_str rfl _ _ _ _ (by rfl) base 5 i0 Try.underlying151 Try.underlying9 hi0 hz0 hz1 hz2 v2 (xs ++ [Int.toNat 2] ++ hiB s.size 2).length (byteCells (xs ++ [Int.toNat 2] ++ hiB s.size 2)) (by rfl) HO5.out s (by rfl) (Nat.le_trans HBD.out (by unfold maxLen; omega)) (Nat.le_trans HBD.out (by omega)) hb5 ?_); intro v3 w3 ho3 hg3; have HO6 := hide ho3; have HF6 := hide (BS.grown (Fr.refl (BS base w2) w2) HO5.out hg3); have HS3 := hide (blk5w (HB5.out.fr HF6.out (HB5.out.bs (by decide)))).2.2.1; clear ho3 hg3)
          | (go_at_call 139; ((refine (HH.out s.size 2 _ ((Fr.refl No w1).drew) (by omega) (by omega)).mono ?_); rintro e w2 ⟨v2, rfl, ho2, f2⟩; have hb5 := (show base ≤ w2.heap.size from Nat.le_trans HL1.out f2.size); have HB5 := hide (Blk.fr (a := w1.drew) HB2.out f2 (Blk.bs (w := w1.drew) HB2.out (by decide))); have HS2 := hide (blk5w HB5.out).2.2.1; have HF5 := hide f2; have HO5 := hide ho2; clear ho2 f2)))
      go_wp2
      go_ret
      rw [HE1.out]
      have hf5 : Fr (BS base w1) w1 w2 := fr_undrew HF5.out
      refine GrowP.cons HFR.out (GrowP.more hf5 ⟨v3, rfl, ?_, HF6.out⟩)
      have h := HO6.out
      rw [← strB_cells, byteCells, byteCells, ← List.map_append] at h
      rw [List.length_append, strB_length]
      exact h
    by_cases h3 : k = 3
    · subst h3
      have he1 := HE.out
      rw [if_neg (by decide), if_neg (by decide), if_pos rfl] at he1
      have HE1 := hide he1
      clear he1
      have hll := fit.len1
      go_wp2_with fail
      refine (HH.out l.length 2 _ (Fr.refl No w1) (by omega) (by omega)).mono ?_
      rintro e w2 ⟨v2, rfl, ho2, f2⟩
      have hb4 := HB2.out.fr f2 (HB2.out.bs (by decide))
      have HF4 := hide (BS.trans HFR.out f2)
      have HO4 := hide ho2
      have HB4 := hide hb4
      clear x0 x1 x2 x3 x4 xf q0 ho2 f2
      obtain ⟨x0, x1, x2, x3, x4, xf⟩ := hb4.cells5
      have q0 := hb4.lt
      clear hb4
      go_wp2_with fail
      have hll2 : (l.length : Int) ≤ 2199023255488 := by omega
      go_loopw [0, 44] (fun s0 s44 wr => ∃ j : Nat, j ≤ l.length ∧ s44 = .int .i64 j ∧ wr.ownsRow base 5 1 s0 (xs ++ [Int.toNat 3] ++ hiB l.length 2 ++ (((l.map T.v).take j).map V.enc).flatten).length (byteCells (xs ++ [Int.toNat 3] ++ hiB l.length 2 ++ (((l.map T.v).take j).map V.enc).flatten)) ∧ Fr (BS base w2) w2 wr) (fun _ s44 _ => l.length - (intOf s44).toNat)
      case atStart => exact ⟨0, Nat.zero_le _, rfl, by simpa using HO4.out, Fr.refl _ _⟩
      case round =>
        obtain ⟨j, hj, rfl, how, fr⟩ := hrel
        by_cases hlt : j < l.length
        · have fw := BS.trans HF4.out fr
          obtain ⟨b, o, k6, n6, s6, A6, cap6, l6, r6, rfl, hb0, hb9, hx, hin, e0, e1, e2, e3, e4⟩ := T.elem (ht.fr fw (Nat.le_trans hhi hbase) (fun i h0 h1 ⟨h2, _⟩ => by omega)) hlt
          have hbr : base ≤ wr.heap.size := Nat.le_trans hbase fw.size
          have g0 : b < wr.heap.size := by omega
          have IH := ih l[j] (List.getElem_mem hlt)
          have htk : ((l.map T.v).take (j + 1)).map V.enc = ((l.map T.v).take j).map V.enc ++ [(T.mk k6 n6 s6 A6 cap6 l6 r6).v.enc] := by
            rw [List.take_succ_eq_append_getElem (by simpa using hlt), List.map_append, List.getElem_map, hx]; rfl
          have hokx : (T.mk k6 n6 s6 A6 cap6 l6 r6).v.ok = true := by
            rw [← hx]; exact List.all_eq_true.1 HOK.out.2 _ (List.mem_map_of_mem (List.getElem_mem hlt))
          have hsumx : (((l.map T.v).take (j + 1)).map V.enc).flatten.length ≤ (((l.map T.v).map V.enc).flatten).length := by
            conv => rhs; rw [← List.take_append_drop (j + 1) (l.map T.v), List.map_append, List.flatten_append, List.length_append]
            omega
          rw [htk, List.flatten_append, List.length_append] at hsumx
          simp only [List.flatten_cons, List.flatten_nil, List.append_nil] at hsumx
          rw [hx, T.val_mk] at IH
          have hbound : (xs ++ [Int.toNat 3] ++ hiB l.length 2 ++ (((l.map T.v).take j).map V.enc).flatten).length + (T.mk k6 n6 s6 A6 cap6 l6 r6).v.enc.length ≤ 1000000 := by
            have h := HL.out
            rw [HE1.out] at h
            simp only [List.length_append, List.length_cons, List.length_nil, hiB_length, List.length_map] at h ⊢
            omega
          have frB := (Fr.refl No wr).alloc (.cells #[.int .u8 k6, .int .i64 n6, .string s6, .slice A6 l6.length cap6, .int .i64 r6] 27)
          have hI := fun v0 (h0 : wr.ownsRow base 5 1 v0 _ _) => IH v0 _ base (wr.alloc (.cells #[.int .u8 k6, .int .i64 n6, .string s6, .slice A6 l6.length cap6, .int .i64 r6] 27)) lo hi (hin.no frB (by omega)) hhi (Nat.le_trans hbr frB.size) hokx (owns_fr h0 frB fun _ _ h => h) hbound
          have HI := hide (hI _ how)
          have HTK := hide htk
          have HFRR := hide fr
          clear hI IH ih frB htk hx hin hokx hsumx hbound fr fw how
          go_wp2_with fail
          refine HI.out.mono ?_
          rintro e w3 ⟨v3, rfl, ho3, f3⟩
          have HO7 := hide ho3
          have hf3 := BS.trans (HFRR.out.alloc (.cells #[.int .u8 k6, .int .i64 n6, .string s6, .slice A6 l6.length cap6, .int .i64 r6] 27)) f3
          have HF7 := hide hf3
          clear ho3 f3 hf3
          go_wp2
          go_roundw
          case rel =>
            refine ⟨j + 1, hlt, by go_num, ?_, HF7.out⟩
            rw [HTK.out, List.flatten_append, ← List.append_assoc]
            simpa only [List.flatten_cons, List.flatten_nil, List.append_nil] using HO7.out
          case measure => simp [intOf]; omega
        · obtain rfl : j = l.length := by omega
          have HOW := hide how
          have HFRR := hide fr
          clear how fr ih
          go_wp2
          go_ret
          rw [HE1.out]
          have hf := BS.trans HF4.out HFRR.out
          refine ⟨_, rfl, ?_, hf⟩
          have h := HOW.out
          rw [List.take_of_length_le (by simp)] at h
          simp only [List.length_map, List.append_assoc, List.cons_append, List.nil_append] at h ⊢
          exact h
    by_cases h4 : k = 4
    · subst h4
      have he1 := HE.out
      rw [if_neg (by decide), if_neg (by decide), if_neg (by decide), if_pos rfl] at he1
      have HE1 := hide he1
      clear he1
      have hr1 : 1 ≤ r := by have := HOK.out.1; simp [fok] at this; omega
      obtain ⟨e1, e2⟩ := u64_pos r (by omega) fit.r1
      have E1 := hide e1
      have E2 := hide e2
      clear e1 e2 hr1
      go_wp2_with fail
      rw [E1.out]
      refine (HH.out _ 4 _ (Fr.refl No w1) E2.out (by omega)).mono ?_
      rintro e w2 ⟨v2, rfl, ho2, f2⟩
      have HP := hide (GrowP.cons HFR.out ⟨v2, rfl, ho2, f2⟩)
      clear ho2 f2
      go_wp2
      go_ret
      rw [HE1.out]
      exact HP.out
    have h1' : (k == 1) = false := by simpa using h1
    have h2' : (k == 2) = false := by simpa using h2
    have h3' : (k == 3) = false := by simpa using h3
    have h4' : (k == 4) = false := by simpa using h4
    go_wp2
    go_ret
    rw [HE.out, if_neg h1, if_neg h2, if_neg h3, if_neg h4]
    exact GrowP.cons HFR.out ⟨_, rfl, by rw [List.append_nil]; exact HO3.out, Fr.refl _ _⟩

end Go.Proofs.Ytihjmipmjogpoaa

/- Chapter 2: Refs. -/
namespace Go.Proofs.Ytihjmipmjogpoaa
open Go.RowKit

/-- The references among some parts. -/
def refsOf : List (List Int × V) → List Int
  | [] => []
  | (_, .mk k _ _ _ r) :: l => if k = 4 then r :: refsOf l else refsOf l

theorem refsOf_append (a b : List (List Int × V)) : refsOf (a ++ b) = refsOf a ++ refsOf b := by
  induction a with
  | nil => rfl
  | cons x a ih =>
    obtain ⟨p, k, n, s, l, r⟩ := x
    simp only [List.cons_append, refsOf]
    split <;> simp [ih]

theorem refsOf_length (a : List (List Int × V)) : (refsOf a).length ≤ a.length := by
  induction a with
  | nil => simp [refsOf]
  | cons x a ih =>
    obtain ⟨p, k, n, s, l, r⟩ := x
    simp only [refsOf]
    split <;> simp <;> omega

theorem ref_info : (Try.prog.info? 25).map (fun i => (i.zero, i.size, i.bytes)) = some (some (.int .i64 0), 1, 8) := by kernel_rfl

/-- What has been collected. -/
def RefsJ (g base : Nat) (pre : List (List Int × V)) (M : Nat → Prop) (W : World) : Prop :=
  g < base ∧ base ≤ W.heap.size ∧ ∃ v, Blk W g 100 #[v] ∧ W.ownsRow base 25 1 v (refsOf pre).length ((refsOf pre).map fun r => Value.int .i64 r) ∧ ∀ i, M i ↔ (i = g ∨ v.ownBlock = some i)

theorem refs_stay {g base : Nat} {pre : List (List Int × V)} {M : Nat → Prop} {W W' : World} {S : Nat → Prop} (h : RefsJ g base pre M W) (hf : Fr S W W') (hs : ∀ i, i < W.heap.size → S i → ¬ M i) : RefsJ g base pre M W' := by
  obtain ⟨h0, h1, v, hb, ho, hM⟩ := h
  exact ⟨h0, Nat.le_trans h1 hf.size, v, hb.fr hf (fun h => hs g hb.lt h ((hM g).2 (.inl rfl))), owns_fr ho hf (fun i hi h => hs i (owns_lt ho i hi).2 h ((hM i).2 (.inr hi))), hM⟩

set_option maxRecDepth 100000 in
set_option maxHeartbeats 2000000 in
theorem refs1_any (g base : Nat) (pre : List (List Int × V)) (M : Nat → Prop) (W : World) (x : T) (A : Option Addr) (n cap : Nat) (p : List Int) (hJ : RefsJ g base pre M W) (hp : pre.length < 1000000) :
    Calls Try.prog 121 #[.slice A n cap, x.val, .pointer (some ⟨g, 0, none⟩)] W fun e W' => e = .returned (.bool true) ∧ ∃ M' : Nat → Prop, Fr M W W' ∧ (∀ i, M' i → i < W.heap.size → M i) ∧ RefsJ g base (pre ++ [(p, x.v)]) M' W' := by
  obtain ⟨h0, h1, v, hb, ho, hM⟩ := hJ
  have hlen := refsOf_length pre
  cases x with
  | mk k nn s A1 cap1 l r =>
    rw [T.val_mk]
    have fr1 := (Fr.refl No W).alloc (.cells #[.int .u8 k, .int .i64 nn, .string s, .slice A1 l.length cap1, .int .i64 r] 27)
    have hb1 := hb.alloc (.cells #[.int .u8 k, .int .i64 nn, .string s, .slice A1 l.length cap1, .int .i64 r] 27)
    have hbx := Blk.new W 27 #[.int .u8 k, .int .i64 nn, .string s, .slice A1 l.length cap1, .int .i64 r]
    have ho1 := ho.alloc (.cells #[.int .u8 k, .int .i64 nn, .string s, .slice A1 l.length cap1, .int .i64 r] 27)
    have q0 := hb.lt
    by_cases hk : k = 4
    · subst hk
      have hr : refsOf (pre ++ [(p, (T.mk 4 nn s A1 cap1 l r).v)]) = refsOf pre ++ [r] := by rw [refsOf_append, T.v_mk]; rfl
      obtain ⟨i0, hi0, hz0, hz1, hz2⟩ := info_parts ref_info
      have hol := owns_lt ho
      have HR := hide hr
      have HOL := hide hol
      have HM := hide hM
      have HO := hide ho1
      have HB := hide hb
      have HF := hide fr1
      have c0 := hb1.cell 0
      have f0 := hb1.frozen 0
      simp only [List.getElem?_toArray, List.getElem?_cons_zero] at c0
      obtain ⟨x0, x1, x2, x3, x4, xf⟩ := hbx.cells5
      have q1 := hbx.lt
      have q2 := hb1.lt
      generalize hL : refsOf pre = L at *
      have HL := hide hL
      have hownA := ho1.alloc (.cells #[.int .i64 r] 25)
      have hBW : ∀ w1, ((W.alloc (.cells #[.int .u8 4, .int .i64 nn, .string s, .slice A1 l.length cap1, .int .i64 r] 27)).alloc (.cells #[.int .i64 r] 25)).grownBy w1 v.ownBlock → Blk w1 g 100 #[v] := fun w1 hg =>
        (hg.block g (by simp; omega) (fun h => by have := hol g h.symm; omega)).trans (hb1.alloc (.cells #[.int .i64 r] 25))
      have HBW := hide hBW
      clear hr hol hM ho1 hb fr1 hb1 hbx ho hL hBW
      go_enter Try.func121, Try.ntmps121
      go_wp2_with (at_builtin; refine wpList_append_lies _ (by rfl) _ _ _ (by rfl) base 25 i0 _ 1 8 Try.underlying100 hi0 hz0 hz1 hz2 (by rfl) (by omega) v L.length (L.map fun r => Value.int .i64 r) (by rfl) hownA ⟨W.heap.size + 1, 0, none⟩ 1 1 [.int .i64 r] (by rfl) (by rfl) (World.news_of_block (Blk.new' _ 25 #[.int .i64 r] (by simp))) (by simp [Value.oneCell']) (by omega) (by unfold maxLen; omega) (by omega) (by simp; omega) (W.heap.size + 1 + 1) (by simp) ?_; intro g2 cap2 w1 hown1 hgrow hat hlt1; have hbw := HBW.out w1 hgrow; have c1 := hbw.cell 0; have f1 := hbw.frozen 0; have q5 := hbw.lt; have HBW1 := hide hbw; simp only [List.getElem?_toArray, List.getElem?_cons_zero] at c1; clear hbw)
      go_ret
      have fA : Fr M W ((W.alloc (.cells #[.int .u8 4, .int .i64 nn, .string s, .slice A1 l.length cap1, .int .i64 r] 27)).alloc (.cells #[.int .i64 r] 25)) := (HF.out.alloc _).no
      have fB : Fr M W w1 := fA.grown hgrow fun i hi hlt => (HM.out i).2 (.inr hi)
      have fC : Fr M W (w1.setCell ⟨g, 0, none⟩ (.slice (some ⟨g2, 0, none⟩) (L.length + 1) cap2)) := fB.set (fun _ => (HM.out g).2 (.inl rfl)) _
      have hg2 : base ≤ g2 := (owns_lt hown1 g2 rfl).1
      refine ⟨rfl, fun i => i = g ∨ i = g2, fC, fun i hi hlt => ?_, h0, Nat.le_trans h1 fC.size, .slice (some ⟨g2, 0, none⟩) (L.length + 1) cap2, HBW1.out.set_ 0 _, ?_, fun i => ?_⟩
      · rcases hi with rfl | rfl
        · exact (HM.out _).2 (.inl rfl)
        · rcases hat with h | h
          · exact (HM.out _).2 (.inr h)
          · omega
      · rw [HR.out, List.length_append, List.map_append]
        exact owns_fr hown1 ((Fr.refl (fun i => i = g) w1).set (fun _ => rfl) _) (fun i hi h => by simp [Value.ownBlock] at hi; have h' : i = g := h; omega)
      · simp [Value.ownBlock, eq_comm]
    · have hk' : (k == 4) = false := by simpa using hk
      have hr : refsOf (pre ++ [(p, (T.mk k nn s A1 cap1 l r).v)]) = refsOf pre := by rw [refsOf_append, T.v_mk]; simp [refsOf, hk]
      have hpost : ∃ M' : Nat → Prop, Fr M W (W.alloc (.cells #[.int .u8 k, .int .i64 nn, .string s, .slice A1 l.length cap1, .int .i64 r] 27)) ∧ (∀ i, M' i → i < W.heap.size → M i) ∧ RefsJ g base (pre ++ [(p, (T.mk k nn s A1 cap1 l r).v)]) M' (W.alloc (.cells #[.int .u8 k, .int .i64 nn, .string s, .slice A1 l.length cap1, .int .i64 r] 27)) := by
        refine ⟨M, fr1.no, fun i h _ => h, h0, Nat.le_trans h1 fr1.size, v, hb1, ?_, hM⟩
        rw [hr]; exact ho1
      have HP := hide hpost
      clear hpost hr hb hb1 hbx ho ho1 hM fr1
      go_enter Try.func121, Try.ntmps121
      go_wp2
      go_ret
      exact ⟨rfl, HP.out⟩

theorem enters_fn2 {P : Program} {f : FuncId} {fn : Func} {c : Code} (hf : P.funcs[f]? = some fn) (hname : (fn.name == "runtime.NumGoroutine") = false) (hb : fn.body = some c) : ∀ args w, (callFunc f args).run P w = .ok (.enter f args) w := by
  intro args w
  have h1 : fn.name ≠ "runtime.NumGoroutine" := by simpa using hname
  simp [callFunc, hf, h1, hb, mark]

theorem refs_yields (g base : Nat) : Yields 1000000 121 #[.pointer (some ⟨g, 0, none⟩)] (RefsJ g base) (fun _ _ _ => False) where
  enters := enters_fn2 Try.func121 (by kernel_rfl) rfl
  call := fun pre M W x lo hi A cap p lo' hi' hl hJ _ _ _ _ _ _ => (refs1_any g base pre M W x A p.length cap p hJ hl).mono fun e W' ⟨he, M', h1, h2, h3⟩ => ⟨M', h1, h2, .inl ⟨he, h3⟩⟩
  stay := fun pre M W W' S h hf hs => refs_stay h hf hs
  lt := fun pre M W h i hi => by
    obtain ⟨h0, h1, v, hb, ho, hM⟩ := h
    rcases (hM i).1 hi with rfl | h
    · exact hb.lt
    · exact (owns_lt ho i h).2

/-- The references of a value, in the order of the walk. -/
def V.refs (v : V) : List Int := if v.may = true then refsOf (v.walk []) else []

def RefsP (L : List Int) (w : World) (e : Ending) (w' : World) : Prop := ∃ v, e = .returned v ∧ w'.ownsRow w.heap.size 25 1 v L.length (L.map fun r => Value.int .i64 r) ∧ Fr No w w'

theorem ints_nil (w : World) : Ints w 0 0 none 0 [] := ⟨by simp, Nat.le_refl _, fun h => absurd rfl h, by simp⟩

set_option maxRecDepth 100000 in
set_option maxHeartbeats 4000000 in
theorem Refs_any (t : T) (w : World) (lo hi : Nat) (ht : t.In w lo hi) (hh : hi ≤ w.heap.size) : Calls Try.prog 59 #[t.val] w (RefsP t.v.refs w) := by
  have hM := fun w' h h' => may_any t w' lo hi h h'
  have hW := fun pre M W hJ h h' h2 h3 => walk_any (refs_yields (w.heap.size + 1) (w.heap.size + 1 + 1)) t pre M W lo hi none 0 [] 0 0 hJ h h' h2 (ints_nil W) (Nat.zero_le _) (fun i h0 h1 => by omega) h3
  have hst : RefsJ (w.heap.size + 1) (w.heap.size + 1 + 1) [] (fun i => i = w.heap.size + 1) ((w.alloc (.cells #[.int .u8 0] 27)).alloc (.cells #[.slice none 0 0] 100)) := ⟨by omega, by simp, .slice none 0 0, Blk.new' (w.alloc _) 100 _ (by simp), World.ownsRow_nil _ _ _ _, fun i => by simp [Value.ownBlock]⟩
  clear hst
  cases t with
  | mk k n s A cap l r =>
    rw [T.val_mk] at *
    have hst : RefsJ (w.heap.size + 1) (w.heap.size + 1 + 1) [] (fun i => i = w.heap.size + 1) ((w.alloc (.cells #[.int .u8 k, .int .i64 n, .string s, .slice A l.length cap, .int .i64 r] 27)).alloc (.cells #[.slice none 0 0] 100)) := ⟨by omega, by simp, .slice none 0 0, Blk.new' (w.alloc _) 100 _ (by simp), World.ownsRow_nil _ _ _ _, fun i => by simp [Value.ownBlock]⟩
    have fr1 : Fr No w ((w.alloc (.cells #[.int .u8 k, .int .i64 n, .string s, .slice A l.length cap, .int .i64 r] 27)).alloc (.cells #[.slice none 0 0] 100)) := ((Fr.refl No w).alloc _).alloc _
    have hK : Blk ((w.alloc (.cells #[.int .u8 k, .int .i64 n, .string s, .slice A l.length cap, .int .i64 r] 27)).alloc (.cells #[.slice none 0 0] 100)) w.heap.size 27 #[.int .u8 k, .int .i64 n, .string s, .slice A l.length cap, .int .i64 r] := (Blk.new' w 27 _ rfl).alloc _
    have hs1 : w.heap.size + 1 + 1 ≤ ((w.alloc (.cells #[.int .u8 k, .int .i64 n, .string s, .slice A l.length cap, .int .i64 r] 27)).alloc (.cells #[.slice none 0 0] 100)).heap.size := by simp
    have ht1 := ht.no fr1 hh
    generalize hu : (T.mk k n s A cap l r).v = u at *
    have HU := hide hu
    clear hu ht
    cases hm : u.may with
    | false =>
      have e1 : u.refs = [] := by simp [V.refs, hm]
      rw [e1]
      rw [hm] at hM
      clear hm e1 hW
      go_enter Try.func59, Try.ntmps59
      go_wp2_with fail
      generalize World.alloc _ (.cells #[.slice none 0 0] 100) = W0 at *
      refine (hM _ ht1 (by omega)).mono ?_
      rintro e w2 ⟨rfl, fr2⟩
      obtain ⟨h0, h1, v, hb, ho, hMM⟩ := refs_stay hst fr2 (fun _ _ h => h.elim)
      have c0 := hb.cell 0
      simp only [List.getElem?_toArray, List.getElem?_cons_zero] at c0
      have q0 := hb.lt
      have HO := hide ho
      have HF := hide (fr1.trans fr2)
      clear hst hK hM hb ho hMM fr1 fr2
      go_wp2
      go_ret
      refine ⟨v, rfl, ?_, HF.out⟩
      have h := HO.out
      exact ⟨h.1, h.2.imp id fun ⟨g, cp, cur, a, b, c⟩ => ⟨g, cp, cur, a, by omega, c⟩⟩
    | true =>
      have e1 : u.refs = refsOf (u.walk []) := by simp [V.refs, hm]
      have hsz : u.size ≤ 512 := by simp [V.may, V.fits] at hm; omega
      have hht : u.ht ≤ 16 := by
        have := ht_le_dep u (may_ok hm)
        simp [V.may, V.fits] at hm; omega
      rw [e1]
      rw [hm] at hM
      clear hm e1
      go_enter Try.func59, Try.ntmps59
      go_wp2_with fail
      generalize World.alloc _ (.cells #[.slice none 0 0] 100) = W0 at *
      refine (hM _ ht1 (by omega)).mono ?_
      rintro e w2 ⟨rfl, fr2⟩
      have hst2 := refs_stay hst fr2 (fun _ _ h => h.elim)
      obtain ⟨k0, k1, k2, k3, k4, -⟩ := (hK.fr fr2 fun h => h).cells5
      have q1 := (hK.fr fr2 fun h => h).lt
      have hs2 := fr2.size
      have hw := hW [] _ w2 hst2 (ht1.no fr2 (by omega)) (by omega) (fun i h0 h1 h2 => by have h' : i = w.heap.size + 1 := h2; omega) (by simp; omega) (by simp; omega)
      have HW := hide hw
      have HF := hide (fr1.trans fr2)
      clear hst hst2 hK hM hW hw fr1 fr2
      go_wp2_with fail
      refine HW.out.mono ?_
      rintro e w3 hq
      obtain ⟨M', f3, hs3, rfl, hJ⟩ : ∃ M' : Nat → Prop, Fr (fun i => i = w.heap.size + 1) w2 w3 ∧ (∀ i, M' i → i < w2.heap.size → i = w.heap.size + 1) ∧ e = .returned (.bool true) ∧ RefsJ (w.heap.size + 1) (w.heap.size + 1 + 1) (u.walk []) M' w3 := by
        obtain ⟨M', h1, h2, ⟨h3, h4⟩ | ⟨_, q, _, h⟩⟩ := hq
        · exact ⟨M', h1, h2, h3, by simpa using h4⟩
        · exact h.elim
      obtain ⟨h0, h1, v, hb, ho, hMM⟩ := hJ
      have c0 := hb.cell 0
      simp only [List.getElem?_toArray, List.getElem?_cons_zero] at c0
      have q0 := hb.lt
      have HO := hide ho
      have HF3 := hide (HF.out.trans' f3 (fun i hi h => by have h' : i = w.heap.size + 1 := h; omega))
      clear hb ho hMM f3 hs3 hq k0 k1 k2 k3 k4
      go_wp2
      go_ret
      refine ⟨v, rfl, ?_, HF3.out⟩
      have h := HO.out
      exact ⟨h.1, h.2.imp id fun ⟨g, cp, cur, a, b, c⟩ => ⟨g, cp, cur, a, by omega, c⟩⟩

end Go.Proofs.Ytihjmipmjogpoaa

/- Chapter 2: Bytes. -/
namespace Go.Proofs.Ytihjmipmjogpoaa
open Go.RowKit

/-- The cells of a row that the call owns. -/
theorem owns_cells {α : Type} {f : α → Value} {w : World} {base : Nat} {e : TypeId} {A : Option Addr} {cap : Nat} {L : List α} (h : w.ownsRow base e 1 (.slice A L.length cap) L.length (L.map f)) (hne : 0 < L.length) :
    ∃ g, A = some ⟨g, 0, none⟩ ∧ g < w.heap.size ∧ ∀ i x, L[i]? = some x → w.cell? ⟨g, i, none⟩ = some (f x) := by
  rcases h.2 with ⟨_, h0⟩ | ⟨g, cap', cur, hs, hb, hg, hc, hm, hsz, hx⟩
  · omega
  · simp at hs
    obtain ⟨rfl, rfl⟩ := hs
    refine ⟨g, rfl, ?_, fun i x hi => ?_⟩
    · rcases Nat.lt_or_ge g w.heap.size with hlt | hge
      · exact hlt
      · rw [Array.getElem?_eq_none hge] at hg; cases hg
    · have hcell : w.cell? ⟨g, i, none⟩ = cur[i]? := cell_of_row w g _ cur e (0, 0) hg
      rw [hcell]
      have h1 : (L.map f)[i]? = some (f x) := by rw [List.getElem?_map, hi]; rfl
      rw [← hx, List.getElem?_take] at h1
      split at h1
      · simpa using h1
      · cases h1

theorem big1_any (r : Int) (w : World) : Calls Try.prog 112 #[.int .i64 r] w fun e w' => e = .returned (.bool (decide (4294967295 < r))) ∧ w' = w := by
  go_enter Try.func112, Try.ntmps112
  go_wp2
  go_ret
  exact ⟨rfl, rfl⟩

set_option maxRecDepth 100000 in
set_option maxHeartbeats 2000000 in
theorem index_any (A : Option Addr) (cap : Nat) (L : List Int) (base : Nat) (w : World) (hL : L.length ≤ 1000000) (h : w.ownsRow base 25 1 (.slice A L.length cap) L.length (L.map fun r => Value.int .i64 r)) :
    Calls Try.prog 138 #[.slice A L.length cap, .func (.func 112) #[] #[]] w fun e w' => (∃ z : Int, e = .returned (.int .i64 z) ∧ ((0 ≤ z ∧ ∃ r ∈ L, 4294967295 < r) ∨ (z = -1 ∧ ∀ r ∈ L, r ≤ 4294967295))) ∧ Fr No w w' := by
  have hB := big1_any
  go_enter Try.func138, Try.ntmps138
  go_wp2_with fail
  go_loopw [8] (fun i wr => ∃ j : Nat, j ≤ L.length ∧ i = .int .i64 j ∧ Fr No w wr ∧ ∀ r ∈ L.take j, r ≤ 4294967295) (fun i _ => L.length - (intOf i).toNat)
  case atStart => exact ⟨0, Nat.zero_le _, rfl, Fr.refl _ _, by simp⟩
  case round =>
    obtain ⟨j, hj, rfl, fr, hall⟩ := hrel
    have HA := hide hall
    clear hall
    by_cases hlt : j < L.length
    · obtain ⟨g, rfl, hg, hc⟩ := owns_cells (owns_fr h fr fun _ _ h => h) (by omega)
      have hcj := hc j L[j] (List.getElem?_eq_getElem hlt)
      have hmem := List.getElem_mem hlt
      have htk : L.take (j + 1) = L.take j ++ [L[j]] := List.take_succ_eq_append_getElem hlt
      generalize L[j] = x at *
      have HM := hide hmem
      have HT := hide htk
      have HF := hide fr
      clear hc hmem htk fr
      by_cases hx : 4294967295 < x
      · have hd : decide ((4294967295 : Int) < x) = true := by simpa using hx
        have hB1 := hB x wr
        rw [hd] at hB1
        clear hd hB h
        go_wp2_with fail
        refine hB1.mono ?_
        rintro e w' ⟨rfl, rfl⟩
        go_wp2
        go_ret
        exact ⟨⟨_, rfl, .inl ⟨by omega, x, HM.out, hx⟩⟩, HF.out⟩
      · have hd : decide ((4294967295 : Int) < x) = false := by simpa using hx
        have hB1 := hB x wr
        rw [hd] at hB1
        clear hd hB h
        go_wp2_with fail
        refine hB1.mono ?_
        rintro e w' ⟨rfl, rfl⟩
        go_wp2
        go_roundw
        case rel =>
          refine ⟨j + 1, hlt, by go_num, HF.out, fun r hr => ?_⟩
          rw [HT.out] at hr
          rcases List.mem_append.1 hr with hr | hr
          · exact HA.out r hr
          · simp at hr; subst hr; omega
        case measure => simp [intOf]; omega
    · obtain rfl : j = L.length := by omega
      have HF := hide fr
      clear fr h
      go_wp2
      go_ret
      exact ⟨⟨-1, rfl, .inr ⟨rfl, by simpa using HA.out⟩⟩, HF.out⟩

theorem contains_any (A : Option Addr) (cap : Nat) (L : List Int) (base : Nat) (w : World) (hL : L.length ≤ 1000000) (h : w.ownsRow base 25 1 (.slice A L.length cap) L.length (L.map fun r => Value.int .i64 r)) :
    Calls Try.prog 111 #[.slice A L.length cap, .func (.func 112) #[] #[]] w fun e w' => (∃ q : Bool, e = .returned (.bool q) ∧ (q = true ↔ ∃ r ∈ L, 4294967295 < r)) ∧ Fr No w w' := by
  have hI := index_any A cap L base w hL h
  clear h
  go_enter Try.func111, Try.ntmps111
  go_wp2_with fail
  refine hI.mono ?_
  rintro e w2 ⟨⟨z, rfl, hz⟩, fr2⟩
  rcases hz with ⟨h0, hr⟩ | ⟨rfl, hr⟩
  · have h1 : decide ((0 : Int) ≤ z) = true := by simpa using h0
    have HR := hide hr
    clear hr
    go_wp2
    go_ret
    exact ⟨⟨true, rfl, by simpa using HR.out⟩, fr2⟩
  · have HR := hide hr
    clear hr
    go_wp2
    go_ret
    refine ⟨⟨false, rfl, ?_⟩, fr2⟩
    simp
    exact fun r h => HR.out r h

/-- Whether a value has bytes. -/
def V.hasBytes (v : V) : Prop := v.may = true ∧ ∀ r ∈ v.refs, r ≤ 4294967295

/-- Its bytes, as a string. -/
def V.encS (v : V) : ByteArray := strOfNums (v.enc.map fun (x : Nat) => (x : Int))

def BytesP (v : V) (w : World) (e : Ending) (w' : World) : Prop :=
  Fr No w w' ∧ (v.hasBytes → e = .returned (.tuple #[.string v.encS, .int .i64 0])) ∧ (¬ v.hasBytes → e = .returned (.tuple #[.string ⟨#[]⟩, .int .i64 2]))

end Go.Proofs.Ytihjmipmjogpoaa

/- Chapter 2: the reader of bytes: what is made, what it takes. -/
namespace Go.Proofs.Ytihjmipmjogpoaa
open Go.RowKit

/-- A reader at r over the box at b: so many bytes ahead, so many parts and levels left. -/
structure Rdr (w : World) (b r : Nat) (s : ByteArray) (n d : Int) : Prop where
  box : Blk w b 9 #[.string s]
  st : Blk w r 162 #[.func (.func 141) #[] #[.pointer (some ⟨b, 0, none⟩)], .func (.func 142) #[] #[.pointer (some ⟨b, 0, none⟩)], .int .i64 n, .int .i64 d]

theorem Rdr.fr {w w' : World} {b r : Nat} {s : ByteArray} {n d : Int} {S : Nat → Prop} (h : Rdr w b r s n d) (f : Fr S w w') (hb : ¬ S b) (hr : ¬ S r) : Rdr w' b r s n d := ⟨h.box.fr f hb, h.st.fr f hr⟩

theorem Rdr.ne {w : World} {b r : Nat} {s : ByteArray} {n d : Int} (h : Rdr w b r s n d) : b ≠ r := h.box.ne_ h.st (by decide)

theorem rover_any (s : ByteArray) (w : World) : Calls Try.prog 115 #[.string s] w fun e w' => e = .returned (.pointer (some ⟨w.heap.size + 1, 0, none⟩)) ∧ Rdr w' w.heap.size (w.heap.size + 1) s 512 16 ∧ Fr No w w' := by
  have hb := Blk.new w 9 #[.string s]
  have hf := ((Fr.refl No w).alloc (.cells #[.string s] 9))
  go_enter Try.func115, Try.ntmps115
  go_wp2
  go_ret
  exact ⟨rfl, ⟨hb.alloc _, Blk.new' _ 162 _ (by simp)⟩, hf.alloc _⟩

/-- What a take leaves. -/
def RTakeP (b : Nat) (s : ByteArray) (n : Int) (w : World) (e : Ending) (w' : World) : Prop :=
  Fr (fun i => i = b) w w' ∧ ((s.size < n ∧ e = .returned (.tuple #[.string ⟨#[]⟩, .bool false]) ∧ Blk w' b 9 #[.string s]) ∨
    (n ≤ s.size ∧ e = .returned (.tuple #[.string (s.extract 0 n.toNat), .bool true]) ∧ Blk w' b 9 #[.string (s.extract n.toNat s.size)]))

theorem rtake_any (b : Nat) (s : ByteArray) (n : Int) (w : World) (h0 : 0 ≤ n) (h : Blk w b 9 #[.string s]) : Calls Try.prog 141 #[.int .i64 n, .pointer (some ⟨b, 0, none⟩)] w (RTakeP b s n w) := by
  have c0 := h.cell 0
  simp only [List.getElem?_toArray, List.getElem?_cons_zero] at c0
  have cf := h.frozen 0
  have q0 := h.lt
  have H := hide h
  by_cases hn : s.size < n
  · go_enter Try.func141, Try.ntmps141
    go_wp2
    go_ret2
    exact ⟨Fr.refl _ _, .inl ⟨hn, rfl, H.out⟩⟩
  · have hn' : n ≤ s.size := by omega
    go_enter Try.func141, Try.ntmps141
    go_wp2
    go_ret2
    exact ⟨(Fr.refl (fun i => i = b) w).set (p := ⟨b, 0, none⟩) (fun _ => rfl) _, .inr ⟨hn', rfl, H.out.set_ 0 _⟩⟩

theorem rrest_any (b : Nat) (s : ByteArray) (w : World) (h : Blk w b 9 #[.string s]) : Calls Try.prog 142 #[.pointer (some ⟨b, 0, none⟩)] w fun e w' => e = .returned (.string s) ∧ w' = w := by
  have c0 := h.cell 0
  simp only [List.getElem?_toArray, List.getElem?_cons_zero] at c0
  go_enter Try.func142, Try.ntmps142
  go_wp2
  go_ret
  exact ⟨rfl, rfl⟩

end Go.Proofs.Ytihjmipmjogpoaa

/- Texts joined: P2, P4, P12, J1, S3, S4. -/
import Derived.Test.YtihjmipmjogpoaaJn8
import Derived.Deep.RegionLaw
import Derived.Maps.OwnSet
import Derived.Laws.OwnMore
import Derived.Deep.CutRange
/- Chapter 2: the law's own lent: a value in lists of its own, each with a mark in its spare room. -/
namespace Go.Proofs.Ytihjmipmjogpoaa
open Go.RowKit

/-- Each list has a mark behind its last part. -/
def T.Mk (w : World) : T → Prop
  | .mk _ _ _ A cap l _ => (l ≠ [] → ∃ b o, A = some ⟨b, o, none⟩ ∧ l.length + 1 ≤ cap ∧ w.cell? ⟨b, o + l.length * 5 + 1, none⟩ = some (.int .i64 77)) ∧ ∀ x ∈ l, T.Mk w x
termination_by t => t

theorem T.mk_mk {w : World} {k n : Int} {s : ByteArray} {A : Option Addr} {cap : Nat} {l : List T} {r : Int} :
    (T.mk k n s A cap l r).Mk w ↔ (l ≠ [] → ∃ b o, A = some ⟨b, o, none⟩ ∧ l.length + 1 ≤ cap ∧ w.cell? ⟨b, o + l.length * 5 + 1, none⟩ = some (.int .i64 77)) ∧ ∀ x ∈ l, x.Mk w := by
  rw [T.Mk]

theorem T.mem_blocks {k n : Int} {s : ByteArray} {b o cap : Nat} {l : List T} {r : Int} (hl : l ≠ []) : b ∈ (T.mk k n s (some ⟨b, o, none⟩) cap l r).blocks := by
  rw [T.blocks_mk]
  cases l with
  | nil => exact absurd rfl hl
  | cons x l => simp

theorem T.sub_blocks {k n : Int} {s : ByteArray} {A : Option Addr} {cap : Nat} {l : List T} {r : Int} {x : T} (hx : x ∈ l) {b : Nat} (hb : b ∈ x.blocks) : b ∈ (T.mk k n s A cap l r).blocks := by
  rw [T.blocks_mk]
  exact List.mem_append_right _ (List.mem_flatten.2 ⟨_, List.mem_map_of_mem hx, hb⟩)

theorem T.Mk.fr {S : Nat → Prop} {w w' : World} {lo hi : Nat} (hf : Fr S w w') (hh : hi ≤ w.heap.size) (t : T) : t.In w lo hi → (∀ b ∈ t.blocks, ¬ S b) → t.Mk w → t.Mk w' := by
  induction t using T.ind with
  | h k n s A cap l r ih =>
    intro hi' hs
    rw [T.mk_mk, T.mk_mk]
    rintro ⟨h1, h2⟩
    refine ⟨fun hl => ?_, fun x hx => ih x hx ((T.in_mk.1 hi').2.2 x hx) (fun b hb => hs b (T.sub_blocks hx hb)) (h2 x hx)⟩
    obtain ⟨b, o, rfl, hc, h3⟩ := h1 hl
    have hb := T.mem_blocks (k := k) (n := n) (s := s) (b := b) (o := o) (cap := cap) (r := r) hl
    exact ⟨b, o, rfl, hc, (hf.cell (by have := T.In.blocks _ hi' b hb; omega) (hs b hb)).trans h3⟩

theorem T.Mk.no {w w' : World} {lo hi : Nat} (hf : Fr No w w') (hh : hi ≤ w.heap.size) {t : T} (hi' : t.In w lo hi) (h : t.Mk w) : t.Mk w' := T.Mk.fr hf hh t hi' (fun _ _ h => h) h

theorem In.fr_blocks {S : Nat → Prop} {w w' : World} {lo hi : Nat} (hf : Fr S w w') (hh : hi ≤ w.heap.size) (t : T) : (∀ b ∈ t.blocks, ¬ S b) → t.In w lo hi → t.In w' lo hi := by
  induction t using T.ind with
  | h k n s A cap l r ih =>
    intro hs
    rw [T.in_mk, T.in_mk]
    rintro ⟨h1, h2, h3⟩
    refine ⟨h1, fun hl => ?_, fun x hx => ih x hx (fun b hb => hs b (T.sub_blocks hx hb)) (h3 x hx)⟩
    obtain ⟨b, o, rfl, hb0, hb1, hc⟩ := h2 hl
    exact ⟨b, o, rfl, hb0, hb1, fun i x hx j u hu => (hf.cell (by omega) (hs b (T.mem_blocks hl))).trans (hc i x hx j u hu)⟩

/-- What lent gives. -/
def LentP (v : V) (w : World) (e : Ending) (w' : World) : Prop :=
  ∃ t' : T, e = .returned t'.val ∧ t'.v = v ∧ t'.In w' w.heap.size w'.heap.size ∧ t'.Mk w' ∧ Fr No w w'

/-- Where its loop stands. -/
structure LentInv (w : World) (X : Array Value) (k n : Int) (s : ByteArray) (r : Int) (l : List T) (j : Nat) (A : Option Addr) (cap : Nat) (l' : List T) (wr : World) : Prop where
  len : l'.length = j
  vs : l'.map T.v = (l.take j).map T.v
  fr : Fr No w wr
  b0 : Blk wr w.heap.size 27 X
  b1 : Blk wr (w.heap.size + 1) 27 #[.int .u8 0, .int .i64 0, .string ⟨#[]⟩, .slice none 0 0, .int .i64 0]
  b2 : Blk wr (w.heap.size + 1 + 1) 27 #[.int .u8 k, .int .i64 n, .string s, .slice A j cap, .int .i64 r]
  own : wr.ownsRow (w.heap.size + 3) 27 5 (.slice A j cap) j (rowCells l')
  inn : ∀ x ∈ l', x.In wr (w.heap.size + 3) wr.heap.size ∧ x.Mk wr
  sep : ∀ x ∈ l', ∀ b ∈ x.blocks, (Value.slice A j cap).ownBlock ≠ some b
  big : w.heap.size + 3 ≤ wr.heap.size

theorem lent_after {W0 w2 : World} {g base j : Nat} {a b c d e : Value} {v : Value} {xs : List Value} {m : Array Value} (hb : Blk W0 g 27 #[a, b, c, d, e]) (ho : W0.ownsRow base 27 5 v j xs) (fr : Fr No W0.drew w2) :
    (w2.alloc (.cells m 27)).ownsRow base 27 5 v j xs ∧ Blk (w2.alloc (.cells m 27)) g 27 #[a, b, c, d, e] ∧ w2.cell? ⟨g, 3, none⟩ = some d ∧ (w2.alloc (.cells m 27)).cell? ⟨g, 3, none⟩ = some d ∧ (w2.alloc (.cells m 27)).frozen? ⟨g, 3, none⟩ = false ∧ W0.heap.size ≤ w2.heap.size ∧ g < w2.heap.size := by
  have h1 : Blk w2 g 27 #[a, b, c, d, e] := Blk.fr (a := W0.drew) hb fr (fun h => h)
  have h2 := h1.alloc (.cells m 27)
  exact ⟨(owns_fr (a := W0.drew) ho fr fun _ _ h => h).alloc _, h2, h1.cell 3, h2.cell 3, h2.frozen 3, fr.size, h1.lt⟩

theorem lent_grown {W w3 : World} {g : Nat} {v d : Value} (hg : W.grownBy w3 v.ownBlock) (hc : W.cell? ⟨g, 3, none⟩ = some d) (hf : W.frozen? ⟨g, 3, none⟩ = false) (hlt : g < W.heap.size) (hne : some g ≠ v.ownBlock) :
    w3.cell? ⟨g, 3, none⟩ = some d ∧ w3.frozen? ⟨g, 3, none⟩ = false :=
  ⟨(hg.cell_far ⟨g, 3, none⟩ hlt hne).trans hc, (hg.frozen_far ⟨g, 3, none⟩ hlt hne).trans hf⟩

theorem T.cells_mk (k n : Int) (s : ByteArray) (A : Option Addr) (cap : Nat) (l : List T) (r : Int) : (T.mk k n s A cap l r).cells = [.int .u8 k, .int .i64 n, .string s, .slice A l.length cap, .int .i64 r] := rfl

theorem fr_grown {w w' : World} {row : Option Nat} (h : w.grownBy w' row) : Fr (fun i => some i = row) w w' := (Fr.refl _ w).grown h fun k hk _ => hk.symm

theorem owns_le {w : World} {base : Nat} {e : TypeId} {size : Nat} {A : Option Addr} {n cap : Nat} {xs : List Value} (h : w.ownsRow base e size (.slice A n cap) n xs) : n ≤ cap := by
  rcases h.2 with ⟨h, _⟩ | ⟨g, c, cur, h, _, _, hc, _⟩
  · simp at h; omega
  · simp at h; omega

theorem lent_push {w wr w2 w3 : World} {X : Array Value} {k n : Int} {s : ByteArray} {r : Int} {l : List T} {j : Nat} {A2 : Option Addr} {cap2 : Nat} {l' : List T} {t' : T} {g cp : Nat} (inv : LentInv w X k n s r l j A2 cap2 l' wr) (hlt : j < l.length) (hv : t'.v = l[j].v)
    (hin : t'.In w2 wr.heap.size w2.heap.size) (hmk : t'.Mk w2) (f1 : Fr No wr.drew w2) (hown : w3.ownsRow (w.heap.size + 3) 27 5 (.slice (some ⟨g, 0, none⟩) (j + 1) cp) (j + 1) (rowCells l' ++ t'.cells))
    (hgrow : (w2.alloc (.cells t'.cells.toArray 27)).grownBy w3 (Value.slice A2 j cap2).ownBlock) (hat : (Value.slice A2 j cap2).ownBlock = some g ∨ g = w2.heap.size + 1) :
    LentInv w X k n s r l (j + 1) (some ⟨g, 0, none⟩) cp (l' ++ [t']) (w3.setCell ⟨w.heap.size + 1 + 1, 3, none⟩ (.slice (some ⟨g, 0, none⟩) (j + 1) cp)) := by
  have big := inv.big
  have hol := inv.own.lt
  have hs2 : wr.heap.size ≤ w2.heap.size := f1.size
  have hs3 : w2.heap.size + 1 ≤ w3.heap.size := by have := hgrow.size; simpa using this
  have F2 : Fr (fun i => some i = (Value.slice A2 j cap2).ownBlock ∨ i = w.heap.size + 1 + 1) w2 (w3.setCell ⟨w.heap.size + 1 + 1, 3, none⟩ (.slice (some ⟨g, 0, none⟩) (j + 1) cp)) :=
    ((((Fr.refl No w2).alloc (.cells t'.cells.toArray 27)).no).trans' (fr_grown hgrow) (fun i _ h => .inl h)).set (fun _ => .inr rfl) _
  have F1 : Fr (fun i => some i = (Value.slice A2 j cap2).ownBlock ∨ i = w.heap.size + 1 + 1) wr (w3.setCell ⟨w.heap.size + 1 + 1, 3, none⟩ (.slice (some ⟨g, 0, none⟩) (j + 1) cp)) :=
    ((Fr.refl _ wr).drew.thenNo f1).trans F2
  have hgl := (owns_lt hown g rfl)
  have hn0 : ∀ i, i < w.heap.size + 3 → ¬ some i = (Value.slice A2 j cap2).ownBlock := fun i hi h => by have := hol i h.symm; omega
  refine ⟨by simp [inv.len], ?_, inv.fr.trans' F1 (fun i hi h => ?_), inv.b0.fr F1 ?_, inv.b1.fr F1 ?_, ?_, ?_, ?_, ?_, ?_⟩
  · rw [List.map_append, inv.vs, List.take_succ_eq_append_getElem hlt, List.map_append, List.map_singleton, List.map_singleton, hv]
  · rcases h with h | h
    · exact hn0 i (by omega) h
    · omega
  · rintro (h | h)
    · exact hn0 _ (by omega) h
    · omega
  · rintro (h | h)
    · exact hn0 _ (by omega) h
    · omega
  · have F3 : Fr (fun i => some i = (Value.slice A2 j cap2).ownBlock) wr w3 :=
      ((((Fr.refl _ wr).drew.thenNo f1).alloc (.cells t'.cells.toArray 27))).trans' (fr_grown hgrow) (fun i _ h => h)
    have := (inv.b2.fr F3 (hn0 _ (by omega))).set_ 3 (.slice (some ⟨g, 0, none⟩) (j + 1) cp)
    simpa using this
  · rw [rowCells_snoc]
    exact owns_fr hown ((Fr.refl (fun i => i = w.heap.size + 1 + 1) w3).set (fun _ => rfl) _) (fun i hi h => by
      simp [Value.ownBlock] at hi
      have h' : i = w.heap.size + 1 + 1 := h
      omega)
  · intro x hx
    have hsz := F1.size
    have hsz2 := F2.size
    rcases List.mem_append.1 hx with hx | hx
    · obtain ⟨h1, h2⟩ := inv.inn x hx
      have hb : ∀ b ∈ x.blocks, ¬ (some b = (Value.slice A2 j cap2).ownBlock ∨ b = w.heap.size + 1 + 1) := fun b hb h => by
        rcases h with h | h
        · exact inv.sep x hx b hb h.symm
        · have := T.In.blocks x h1 b hb; omega
      exact ⟨T.In.more (Nat.le_refl _) hsz x (In.fr_blocks F1 (Nat.le_refl _) x hb h1), T.Mk.fr F1 (Nat.le_refl _) x h1 hb h2⟩
    · simp at hx; subst hx
      have hb : ∀ b ∈ x.blocks, ¬ (some b = (Value.slice A2 j cap2).ownBlock ∨ b = w.heap.size + 1 + 1) := fun b hb h => by
        have h3 := T.In.blocks x hin b hb
        rcases h with h | h
        · have := hol b h.symm; omega
        · omega
      exact ⟨T.In.more (by omega) hsz2 x (In.fr_blocks F2 (Nat.le_refl _) x hb hin), T.Mk.fr F2 (Nat.le_refl _) x hin hb hmk⟩
  · intro x hx b hb h
    simp [Value.ownBlock] at h
    subst h
    rcases List.mem_append.1 hx with hx | hx
    · rcases hat with h | h
      · exact inv.sep x hx _ hb h
      · have := T.In.blocks x (inv.inn x hx).1 _ hb; omega
    · simp at hx; subst hx
      have h3 := T.In.blocks x hin _ hb
      rcases hat with h | h
      · have := hol _ h; omega
      · omega
  · have := F1.size; omega

theorem lent_end {w wr W : World} {X : Array Value} {k n : Int} {s : ByteArray} {r : Int} {l : List T} {A2 : Option Addr} {cap2 : Nat} {l' : List T} {g cp : Nat} {w2 w3 : World} {m : Array Value} (inv : LentInv w X k n s r l l.length A2 cap2 l' wr) (hl : l.length * 64 ≤ 140737488351232)
    (fit : 0 ≤ k ∧ k < 256 ∧ -9223372036854775808 ≤ n ∧ n ≤ 9223372036854775807 ∧ s.size ≤ 140737488351232 ∧ -9223372036854775808 ≤ r ∧ r ≤ 9223372036854775807) (f1 : Fr No wr.drew w2)
    (hown : w3.ownsRow (w.heap.size + 3) 27 5 (.slice (some ⟨g, 0, none⟩) (l.length + 1) cp) (l.length + 1) (rowCells l' ++ [.int .u8 1, .int .i64 77, .string ⟨#[]⟩, .slice none 0 0, .int .i64 0]))
    (hgrow : (w2.alloc (.cells m 27)).grownBy w3 (Value.slice A2 l.length cap2).ownBlock) (hat : (Value.slice A2 l.length cap2).ownBlock = some g ∨ g = w2.heap.size + 1)
    (hW : Fr (fun i => i = w.heap.size + 1 ∨ i = w.heap.size + 1 + 1) w3 W) :
    (T.mk k n s (some ⟨g, 0, none⟩) cp l' r).v = .mk k n s (l.map T.v) r ∧ (T.mk k n s (some ⟨g, 0, none⟩) cp l' r).In W w.heap.size W.heap.size ∧ (T.mk k n s (some ⟨g, 0, none⟩) cp l' r).Mk W ∧ Fr No w W := by
  have big := inv.big
  have hol := inv.own.lt
  have hle := inv.len
  have hs2 : wr.heap.size ≤ w2.heap.size := f1.size
  have hs3 : w2.heap.size + 1 ≤ w3.heap.size := by have := hgrow.size; simpa using this
  have F2 : Fr (fun i => some i = (Value.slice A2 l.length cap2).ownBlock ∨ (i = w.heap.size + 1 ∨ i = w.heap.size + 1 + 1)) wr W :=
    (((((Fr.refl _ wr).drew.thenNo f1).alloc (.cells m 27))).trans' (fr_grown hgrow) (fun i _ h => .inl h)).trans' hW (fun i _ h => .inr h)
  have hgl := (owns_lt hown g rfl)
  have hcp := owns_le hown
  have hown2 := owns_fr hown hW (fun i hi h => by
    simp [Value.ownBlock] at hi
    have h' : i = w.heap.size + 1 ∨ i = w.heap.size + 1 + 1 := h
    omega)
  have hcell : ∀ i u, (rowCells l' ++ [.int .u8 1, .int .i64 77, .string ⟨#[]⟩, .slice none 0 0, .int .i64 0])[i]? = some u → W.cell? ⟨g, 0 + i, none⟩ = some u := fun i u hu => by
    have := World.ownsRow.cells hown2 (g := g) rfl i u hu
    rwa [add_at] at this
  have hrl := rowCells_length l'
  have hin : ∀ x ∈ l', x.In W w.heap.size W.heap.size ∧ x.Mk W := fun x hx => by
    obtain ⟨h1, h2⟩ := inv.inn x hx
    have hb : ∀ b ∈ x.blocks, ¬ (some b = (Value.slice A2 l.length cap2).ownBlock ∨ (b = w.heap.size + 1 ∨ b = w.heap.size + 1 + 1)) := fun b hb h => by
      have := T.In.blocks x h1 b hb
      rcases h with h | h
      · exact inv.sep x hx b hb h.symm
      · omega
    exact ⟨T.In.more (by omega) F2.size x (In.fr_blocks F2 (Nat.le_refl _) x hb h1), T.Mk.fr F2 (Nat.le_refl _) x h1 hb h2⟩
  refine ⟨?_, T.in_mk.2 ⟨⟨fit.1, fit.2.1, fit.2.2.1, fit.2.2.2.1, fit.2.2.2.2.1, by omega, by omega, fit.2.2.2.2.2.1, fit.2.2.2.2.2.2⟩, fun hne => ⟨g, 0, rfl, by omega, by have := hW.size; omega, fun i x hx c u hu => ?_⟩, fun x hx => (hin x hx).1⟩, T.mk_mk.2 ⟨fun hne => ⟨g, 0, rfl, by omega, ?_⟩, fun x hx => (hin x hx).2⟩, inv.fr.trans' F2 (fun i hi h => ?_)⟩
  · rw [T.v_mk, inv.vs, List.take_of_length_le (Nat.le_refl _)]
  · have h1 := rowCells_get l' i c x u hx hu
    have h2 := hcell (i * 5 + c) u (by rw [List.getElem?_append_left (List.getElem?_eq_some_iff.1 h1).1]; exact h1)
    rwa [← Nat.add_assoc] at h2
  · have h2 := hcell (l'.length * 5 + 1) (.int .i64 77) (by rw [List.getElem?_append_right (by omega), hrl, show l'.length * 5 + 1 - l'.length * 5 = 1 by omega]; rfl)
    rwa [← Nat.add_assoc] at h2
  · rcases h with h | h
    · have := hol i h.symm; omega
    · omega

set_option maxRecDepth 100000 in
set_option maxHeartbeats 8000000 in
theorem lent_any (t : T) : ∀ (w : World) (lo hi : Nat), t.In w lo hi → hi ≤ w.heap.size → Calls Try.prog 40 #[t.val] w (LentP t.v w) := by
  induction t using T.ind with
  | h k n s A cap l r ih =>
    intro w lo hi ht hh
    rw [T.val_mk]
    have fit := (T.in_mk.1 ht).1
    have hlen := fit.len1
    obtain ⟨i0, hi0, hz0, hz1, hz2⟩ := info_parts value_info
    have hmk := fun W => run_make_rowN (P := Try.prog) 24 27 i0 _ Try.underlying24 hi0 hz0 .i64 .i64 0 (l.length + 1) (by omega) (by rw [hz2]; omega) (by omega) W
    rw [hz1] at hmk
    have hmk : ∀ W, (Instr.makeSlice 24 (.int .i64 0) (.int .i64 ((l.length : Int) + 1))).run Try.prog W = .ok (.slice (some ⟨W.heap.size, 0, none⟩) 0 (l.length + 1)) (W.alloc (.cells (madeCells (Value.agg #[.int .u8 0, .int .i64 0, .string ⟨#[]⟩, .slice none 0 0, .int .i64 0]).cells ((l.length + 1) * 5)) 27)) := hmk
    by_cases hl : l.length = 0
    · have hl0 : ((l.length : Int) == 0) = true := by simp [hl]
      obtain rfl : l = [] := List.eq_nil_of_length_eq_zero hl
      clear hmk ih
      go_enter Try.func40, Try.ntmps40
      go_wp2
      refine bodyPost_ret (v := .agg #[.int .u8 k, .int .i64 n, .string s, .slice A 0 cap, .int .i64 r]) (by simp [results, Try.results40, go_sem]) rfl ?_
      refine ⟨T.mk k n s A cap [] r, rfl, by simp [T.v_mk], T.in_mk.2 ⟨fit, fun h => absurd rfl h, by simp⟩, T.mk_mk.2 ⟨fun h => absurd rfl h, by simp⟩, ?_⟩
      repeat (first | with_reducible exact Fr.refl No w | with_reducible refine Fr.setNew ?_ (by first | (simp; done) | (simp; omega)) _ | with_reducible refine Fr.alloc ?_ _)
    · have hl0 : ((l.length : Int) == 0) = false := by simp; intro h; subst h; simp at hl
      have hl1 : (0 : Int) < (l.length : Int) := by omega
      go_enter Try.func40, Try.ntmps40
      go_wp2_with fail
      go_loopw [4] (fun i wr => ∃ (j : Nat) (A2 : Option Addr) (cap2 : Nat) (l' : List T), j ≤ l.length ∧ i = .int .i64 j ∧
          LentInv w #[.int .u8 k, .int .i64 n, .string s, .slice A l.length cap, .int .i64 r] k n s r l j A2 cap2 l' wr)
        (fun i _ => l.length - (intOf i).toNat)
      case atStart =>
        refine ⟨0, some ⟨w.heap.size + 1 + 1 + 1, 0, none⟩, l.length + 1, [], Nat.zero_le _, rfl, rfl, by simp, (((((Fr.refl No w).alloc _).alloc _).alloc _).alloc _), (((Blk.new' w 27 _ rfl).alloc _).alloc _).alloc _, ((Blk.new' (w.alloc _) 27 _ (by simp)).alloc _).alloc _,
          (Blk.new' ((w.alloc _).alloc _) 27 _ (by simp)).alloc _, ?_, by simp, by simp, by simp⟩
        have := World.ownsRow_made (base := w.heap.size + 3) (e := 27) (size := 5) (((w.alloc (.cells #[.int .u8 k, .int .i64 n, .string s, .slice A l.length cap, .int .i64 r] 27)).alloc (.cells #[.int .u8 0, .int .i64 0, .string ⟨#[]⟩, .slice none 0 0, .int .i64 0] 27)).alloc (.cells #[.int .u8 k, .int .i64 n, .string s, .slice (some ⟨w.heap.size + 1 + 1 + 1, 0, none⟩) 0 (l.length + 1), .int .i64 r] 27)) (madeCells #[.int .u8 0, .int .i64 0, .string ⟨#[]⟩, .slice none 0 0, .int .i64 0] ((l.length + 1) * 5)) (l.length + 1) (by simp) (by unfold maxLen; omega) (size_madeCells _ _)
        simp only [World.size_alloc] at this
        exact this
      case round =>
        obtain ⟨j, A2, cap2, l', hj, rfl, inv⟩ := hrel
        have fr := inv.fr
        have big := inv.big
        have own := inv.own
        have hsep0 : (Value.slice A2 j cap2).ownBlock ≠ some (w.heap.size + 1 + 1) := fun h => by have := own.lt _ h; omega
        obtain ⟨c0, c1, c2, c3, c4, cf⟩ := inv.b2.cells5
        obtain ⟨d0, d1, d2, d3, d4, df⟩ := inv.b0.cells5
        by_cases hlt : j < l.length
        · obtain ⟨b, o, k1, n1, s1, A1, cap1, l1, r1, rfl, hb0, hb1, hx, hin, e0, e1, e2, e3, e4⟩ := T.elem (ht.no fr hh) hlt
          have IH := ih l[j] (List.getElem_mem hlt)
          rw [hx] at IH
          have HX := hide hx
          rw [T.val_mk] at IH
          have hh0 : hi ≤ wr.heap.size := by omega
          have IH2 := IH wr.drew lo hi (hin.no ((Fr.refl No wr).drew) hh0) hh0
          have HIH := hide IH2
          have HI := hide inv
          have HB2 := hide inv.b2
          have HO := hide own
          have g0 : b < wr.heap.size := by omega
          have g1 : w.heap.size < wr.heap.size := by omega
          have g2 : w.heap.size + 1 + 1 < wr.heap.size := by omega
          have hv0' : some (w.heap.size + 1 + 1) ≠ (Value.slice A2 j cap2).ownBlock := Ne.symm hsep0
          have HH := hide hh
          clear hx ih inv ht hmk IH IH2 fr own hin hh
          go_wp2_with fail
          go_region_law (first
            | ((refine step_append_lies _ (by rfl) _ _ _ (by rfl) (w.heap.size + 3) 27 i0 _ 5 64 Try.underlying24 hi0 hz0 hz1 hz2 rfl (by omega) (.slice A2 j cap2) j (rowCells l') (by rfl) ownD ⟨w2.heap.size, 0, none⟩ 1 1 [.int .u8 k5, .int .i64 n5, .string s5, .slice A5 l5.length cap5, .int .i64 r5] (by rfl) (by rfl) (World.news_of_block (Blk.new w2 27 _)) (by simp [Value.oneCell']) (by omega) (by unfold maxLen; omega) (by omega) (by simp; omega) _ rfl ?_); intro g cp w3 hown3 hgrow hat hlt3; obtain ⟨c5, f5⟩ := lent_grown hgrow c4D f4D (by simp; omega) hv0')
            | (go_simp; go_at_call 40; (with_reducible refine HIH.out.mono ?_); rintro e w2 ⟨⟨k5, n5, s5, A5, cap5, l5, r5⟩, rfl, hv5, hin5, hmk5, fr1⟩; rw [T.val_mk]; obtain ⟨ownD, bD, c3D, c4D, f4D, hsz2, hlt2⟩ := lent_after (m := #[.int .u8 k5, .int .i64 n5, .string s5, .slice A5 l5.length cap5, .int .i64 r5]) HB2.out HO.out fr1))
          all_goals
            go_wp2
            go_roundw
            case rel =>
              exact ⟨j + 1, _, _, _, hlt, by go_num, lent_push HI.out hlt (hv5.trans (congrArg T.v HX.out).symm) hin5 hmk5 fr1 hown3 hgrow (by simpa using hat)⟩
            case measure => simp [intOf]; omega
        · obtain rfl : l.length = j := by omega
          have HI := hide inv
          have HB2 := hide inv.b2
          have HB1 := hide inv.b1
          have HO := hide own
          have g1 : w.heap.size < wr.heap.size := by omega
          have g2 : w.heap.size + 1 + 1 < wr.heap.size := by omega
          have hv0' : some (w.heap.size + 1 + 1) ≠ (Value.slice A2 l.length cap2).ownBlock := Ne.symm hsep0
          clear ih inv ht hmk fr own hh
          go_wp2_with fail
          go_region_law (first
            | ((refine step_append_lies _ (by rfl) _ _ _ (by rfl) (w.heap.size + 3) 27 i0 _ 5 64 Try.underlying24 hi0 hz0 hz1 hz2 rfl (by omega) (.slice A2 l.length cap2) l.length (rowCells l') (by rfl) ownD ⟨w2.heap.size, 0, none⟩ 1 1 [.int .u8 1, .int .i64 77, .string ⟨#[]⟩, .slice none 0 0, .int .i64 0] (by rfl) (by rfl) (World.news_of_block (Blk.new w2 27 _)) (by simp [Value.oneCell']) (by omega) (by unfold maxLen; omega) (by omega) (by simp; omega) _ rfl ?_); intro g cp w3 hown3 hgrow hat hlt3; obtain ⟨c5, f5⟩ := lent_grown hgrow c4D f4D (by simp; omega) hv0')
            | (go_simp; go_at_call 79; (with_reducible refine (num2_any 77 _).mono ?_); rintro e w2 ⟨rfl, fr1⟩; obtain ⟨ownD, bD, c3D, c4D, f4D, hsz2, hlt2⟩ := lent_after (m := #[.int .u8 1, .int .i64 77, .string ⟨#[]⟩, .slice none 0 0, .int .i64 0]) HB2.out HO.out fr1))
          all_goals
            have F3 : Fr (fun i => some i = (Value.slice A2 l.length cap2).ownBlock) wr w3 :=
              ((((Fr.refl _ wr).drew.thenNo fr1).alloc (.cells #[.int .u8 1, .int .i64 77, .string ⟨#[]⟩, .slice none 0 0, .int .i64 0] 27))).trans' (fr_grown hgrow) (fun i _ h => h)
            have hn0 : ∀ i, i < w.heap.size + 3 → ¬ some i = (Value.slice A2 l.length cap2).ownBlock := fun i hi h => by have := HO.out.lt i h.symm; omega
            have B0 := HI.out.b0.fr F3 (hn0 _ (by omega))
            have B1 := HI.out.b1.fr F3 (hn0 _ (by omega))
            have B2 := HI.out.b2.fr F3 (hn0 _ (by omega))
            obtain ⟨x0, x1, x2, x3, x4, xf⟩ := B0.cells5
            obtain ⟨y0, y1, y2, y3, y4, yf⟩ := B1.cells5
            obtain ⟨z0, z1, z2, z3, z4, zf⟩ := B2.cells5
            have hcp := owns_le hown3
            have hcp2 : (l.length : Int) ≤ (cp : Int) := by omega
            have q0 := B0.lt
            have q1 := B1.lt
            have q2 := B2.lt
            have HOWN := hide hown3
            have HGR := hide hgrow
            have HAT := hide hat
            have HF1 := hide fr1
            clear F3 hn0 B0 B1 B2 hown3 hgrow hat fr1 hcp c0 c1 c2 c3 c4 cf d0 d1 d2 d3 d4 df c5 f5 c3D c4D f4D bD ownD
            go_wp2
            refine bodyPost_ret (v := .agg #[.int .u8 k, .int .i64 n, .string s, .slice (some ⟨g, 0, none⟩) l.length cp, .int .i64 r]) (by simp [results, Try.results40, go_sem, *]) rfl ?_
            generalize hW : World.setCell _ _ _ = W
            have hfr : Fr (fun i => i = w.heap.size + 1 ∨ i = w.heap.size + 1 + 1) w3 W := by
              rw [← hW]
              repeat (first | with_reducible exact Fr.refl _ w3 | with_reducible refine Fr.set ?_ (by simp) _)
            have hl' := HI.out.len
            obtain ⟨e1, e2, e3, e4⟩ := lent_end HI.out hlen ⟨fit.k0, fit.k1, fit.n0, fit.n1, fit.s1, fit.r0, fit.r1⟩ HF1.out HOWN.out HGR.out (by simpa using HAT.out) hfr
            exact ⟨T.mk k n s (some ⟨g, 0, none⟩) cp l' r, by rw [T.val_mk, hl'], by rw [e1, T.v_mk], e2, e3, e4⟩

end Go.Proofs.Ytihjmipmjogpoaa

/- Chapter 2: the law's own spoil: it writes over a value's lists, and grows them. -/
namespace Go.Proofs.Ytihjmipmjogpoaa
open Go.RowKit

def m5 : T := lf 1 (-5) ⟨#[]⟩ 0
def m6 : T := lf 1 (-6) ⟨#[]⟩ 0

/-- A row whose first parts are written over. -/
def spRow (l : List T) (j : Nat) : List T := List.replicate j m5 ++ l.drop j

theorem spRow_zero (l : List T) : spRow l 0 = l := by simp [spRow]
theorem spRow_length {l : List T} {j : Nat} (h : j ≤ l.length) : (spRow l j).length = l.length := by simp [spRow]; omega
theorem spRow_at {l : List T} {j : Nat} (h : j < l.length) : (spRow l j)[j]? = some l[j] := by
  rw [spRow, List.getElem?_append_right (by simp)]
  simp [h]
theorem spRow_set {l : List T} {j : Nat} (h : j < l.length) : (spRow l j).set j m5 = spRow l (j + 1) := by
  rw [spRow, spRow, List.set_append_right _ _ (by simp), List.length_replicate, Nat.sub_self, List.drop_eq_getElem_cons h, List.set_cons_zero, List.replicate_succ', List.append_assoc]
  rfl
theorem spRow_all (l : List T) : spRow l l.length = List.replicate l.length m5 := by simp [spRow]

/-- Five cells of a row of one's own written over. -/
theorem owns_set5 {w : World} {lo g n cap j : Nat} {L : List T} (h : w.ownsRow lo 27 5 (.slice (some ⟨g, 0, none⟩) n cap) n (rowCells L)) (hL : L.length = n) (hj : j < n) (k1 n1 : Int) (s1 : ByteArray) (A1 : Option Addr) (c1 : Nat) (l1 : List T) (r1 : Int) :
    (((((w.setCell ⟨g, j * 5, none⟩ (.int .u8 k1)).setCell ⟨g, j * 5 + 1, none⟩ (.int .i64 n1)).setCell ⟨g, j * 5 + 2, none⟩ (.string s1)).setCell ⟨g, j * 5 + 3, none⟩ (.slice A1 l1.length c1)).setCell ⟨g, j * 5 + 4, none⟩ (.int .i64 r1)).ownsRow lo 27 5 (.slice (some ⟨g, 0, none⟩) n cap) n (rowCells (L.set j (T.mk k1 n1 s1 A1 c1 l1 r1))) := by
  refine ⟨by rw [rowCells_length, List.length_set, hL], ?_⟩
  rcases h.2 with ⟨h', _⟩ | ⟨g', cap', cur, hv, hb, hg, hc, hm, hs, hx⟩
  · cases h'
  · simp at hv
    obtain ⟨rfl, rfl⟩ := hv
    have hB := (show Blk w g 27 cur from hg).five (j * 5) (.int .u8 k1) (.int .i64 n1) (.string s1) (.slice A1 l1.length c1) (.int .i64 r1)
    refine .inr ⟨g, cap, _, rfl, hb, hB, hc, hm, by simp [hs], ?_⟩
    refine List.ext_getElem? fun q => ?_
    have hsz : n * 5 ≤ cur.size := by rw [hs]; exact Nat.mul_le_mul_right _ hc
    by_cases hq : q < n * 5
    · have hi : q / 5 < n := by omega
      have hL2 : q / 5 < (L.set j (T.mk k1 n1 s1 A1 c1 l1 r1)).length := by rw [List.length_set, hL]; exact hi
      have hcl : q % 5 < ((L.set j (T.mk k1 n1 s1 A1 c1 l1 r1))[q / 5]).cells.length := by rw [T.cells_length]; omega
      have e1 := rowCells_get _ (q / 5) (q % 5) _ _ (List.getElem?_eq_getElem hL2) (List.getElem?_eq_getElem hcl)
      rw [show q / 5 * 5 + q % 5 = q by omega] at e1
      rw [e1, List.getElem?_take, if_pos hq, Array.getElem?_toList]
      simp only [Array.getElem?_setIfInBounds, Array.size_setIfInBounds]
      by_cases hqj : q / 5 = j
      · have hget : (L.set j (T.mk k1 n1 s1 A1 c1 l1 r1))[q / 5] = T.mk k1 n1 s1 A1 c1 l1 r1 := by
          rw [List.getElem_set, if_pos hqj.symm]
        have h5 : q % 5 = 0 ∨ q % 5 = 1 ∨ q % 5 = 2 ∨ q % 5 = 3 ∨ q % 5 = 4 := by omega
        have hqq : q = j * 5 + q % 5 := by omega
        have hlt : q < cur.size := by omega
        rcases h5 with h5 | h5 | h5 | h5 | h5
        all_goals
          rw [h5] at hqq
          simp only [hget, h5, T.cells_mk]
          subst hqq
          simp
          try omega
      · have hget : (L.set j (T.mk k1 n1 s1 A1 c1 l1 r1))[q / 5] = L[q / 5]'(by omega) := by
          rw [List.getElem_set, if_neg (fun h => hqj h.symm)]
        rw [if_neg (by omega), if_neg (by omega), if_neg (by omega), if_neg (by omega), if_neg (by omega)]
        have hcl' : q % 5 < (L[q / 5]'(by omega)).cells.length := by rw [T.cells_length]; omega
        have e2 := rowCells_get L (q / 5) (q % 5) _ _ (List.getElem?_eq_getElem (by omega)) (List.getElem?_eq_getElem hcl')
        rw [show q / 5 * 5 + q % 5 = q by omega, ← hx, List.getElem?_take, if_pos hq, Array.getElem?_toList] at e2
        rw [e2]
        simp only [hget]
    · rw [List.getElem?_eq_none (by simp; omega), List.getElem?_eq_none (by rw [rowCells_length, List.length_set, hL]; omega)]

theorem owns_five {w : World} {lo g n cap j : Nat} {L : List T} (h : w.ownsRow lo 27 5 (.slice (some ⟨g, 0, none⟩) n cap) n (rowCells L)) {k1 n1 : Int} {s1 : ByteArray} {A1 : Option Addr} {c1 : Nat} {l1 : List T} {r1 : Int} (hx : L[j]? = some (T.mk k1 n1 s1 A1 c1 l1 r1)) :
    w.cell? ⟨g, j * 5, none⟩ = some (.int .u8 k1) ∧ w.cell? ⟨g, j * 5 + 1, none⟩ = some (.int .i64 n1) ∧ w.cell? ⟨g, j * 5 + 2, none⟩ = some (.string s1) ∧ w.cell? ⟨g, j * 5 + 3, none⟩ = some (.slice A1 l1.length c1) ∧ w.cell? ⟨g, j * 5 + 4, none⟩ = some (.int .i64 r1) ∧ (∀ o, w.frozen? ⟨g, o, none⟩ = false) ∧ g < w.heap.size := by
  have hc : ∀ c u, (T.mk k1 n1 s1 A1 c1 l1 r1).cells[c]? = some u → w.cell? ⟨g, j * 5 + c, none⟩ = some u := fun c u hu => by
    have := World.ownsRow.cells h (g := g) rfl _ _ (rowCells_get L j c _ u hx hu)
    rwa [add_at, Nat.zero_add] at this
  refine ⟨hc 0 _ rfl, hc 1 _ rfl, hc 2 _ rfl, hc 3 _ rfl, hc 4 _ rfl, fun o => ?_, (owns_lt h g rfl).2⟩
  rcases h.2 with ⟨h', _⟩ | ⟨g', cap', cur, hv, hb, hg, _⟩
  · cases h'
  · simp at hv
    obtain ⟨rfl, rfl⟩ := hv
    exact Blk.frozen hg o

/-- Where spoil's first loop stands. -/
structure SpInv (w : World) (lo hi : Nat) (k n : Int) (s : ByteArray) (A : Option Addr) (cap : Nat) (l : List T) (r : Int) (j : Nat) (wr : World) : Prop where
  fr : Fr (fun i => i ∈ (T.mk k n s A cap l r).blocks) w wr
  box : Blk wr w.heap.size 27 #[.int .u8 k, .int .i64 n, .string s, .slice A l.length cap, .int .i64 r]
  own : wr.ownsRow lo 27 5 (.slice A l.length cap) l.length (rowCells (spRow l j))
  sp : ∀ i (h : i < l.length), j ≤ i → l[i].Sp wr lo hi

theorem sp_child_ne {k n : Int} {s : ByteArray} {g o cap : Nat} {l : List T} {r : Int} (h : (T.mk k n s (some ⟨g, o, none⟩) cap l r).blocks.Nodup) {x : T} (hx : x ∈ l) : g ∉ x.blocks := by
  intro hg
  rw [T.blocks_mk] at h
  have hne : l.isEmpty = false := by cases l with
    | nil => cases hx
    | cons => rfl
  rw [hne] at h
  simp only [Bool.false_eq_true, if_false, Option.map_some, Option.toList_some, List.singleton_append, List.nodup_cons] at h
  exact h.1 (List.mem_flatten.2 ⟨_, List.mem_map_of_mem hx, hg⟩)

theorem nodup_at {L : List (List Nat)} (h : L.flatten.Nodup) {i j : Nat} (hi : i < L.length) (hj : j < L.length) (hij : i < j) {b : Nat} (hb : b ∈ L[i]) : b ∉ L[j] := by
  induction L generalizing i j with
  | nil => simp at hi
  | cons a L ih =>
    rw [List.flatten_cons, List.nodup_append] at h
    cases i with
    | zero =>
      cases j with
      | zero => omega
      | succ j =>
        intro h2
        exact h.2.2 b hb b (List.mem_flatten.2 ⟨_, List.getElem_mem (by simpa using hj), h2⟩) rfl
    | succ i =>
      cases j with
      | zero => omega
      | succ j => exact ih h.2.1 (by simpa using hi) (by simpa using hj) (by omega) hb

theorem sp_child_far {k n : Int} {s : ByteArray} {A : Option Addr} {cap : Nat} {l : List T} {r : Int} (h : (T.mk k n s A cap l r).blocks.Nodup) {i j : Nat} (hi : i < l.length) (hj : j < l.length) (hij : i < j) {b : Nat} (hb : b ∈ l[j].blocks) : b ∉ l[i].blocks := by
  rw [T.blocks_mk, List.nodup_append] at h
  intro hb2
  have := nodup_at (L := l.map T.blocks) h.2.1 (i := i) (j := j) (by simpa using hi) (by simpa using hj) hij (b := b) (by simpa using hb2)
  exact this (by simpa using hb)

theorem sp_child_nodup {k n : Int} {s : ByteArray} {A : Option Addr} {cap : Nat} {l : List T} {r : Int} (h : (T.mk k n s A cap l r).blocks.Nodup) {x : T} (hx : x ∈ l) : x.blocks.Nodup := by
  rw [T.blocks_mk, List.nodup_append] at h
  have h2 := h.2.1
  clear h
  induction l with
  | nil => cases hx
  | cons a l ih =>
    rw [List.map_cons, List.flatten_cons, List.nodup_append] at h2
    rcases List.mem_cons.1 hx with rfl | hx
    · exact h2.1
    · exact ih hx h2.2.1

/-- One part is spoiled, then written over. -/
theorem sp_push {w wr w2 w3 : World} {lo hi : Nat} {k n : Int} {s : ByteArray} {g cap : Nat} {l : List T} {r : Int} {j : Nat} (inv : SpInv w lo hi k n s (some ⟨g, 0, none⟩) cap l r j wr) (hnd : (T.mk k n s (some ⟨g, 0, none⟩) cap l r).blocks.Nodup) (hj : j < l.length) (hh : hi ≤ w.heap.size) (hlo : ∀ x ∈ l, x.In w lo hi)
    (f2 : Fr (fun i => i ∈ l[j].blocks) wr w2) (f3 : Fr No w2 w3) :
    Blk w3 w.heap.size 27 #[.int .u8 k, .int .i64 n, .string s, .slice (some ⟨g, 0, none⟩) l.length cap, .int .i64 r] ∧ w3.ownsRow lo 27 5 (.slice (some ⟨g, 0, none⟩) l.length cap) l.length (rowCells (spRow l j)) ∧
    (g < w.heap.size → SpInv w lo hi k n s (some ⟨g, 0, none⟩) cap l r (j + 1) (((((w3.setCell ⟨g, j * 5, none⟩ (.int .u8 1)).setCell ⟨g, j * 5 + 1, none⟩ (.int .i64 (-5))).setCell ⟨g, j * 5 + 2, none⟩ (.string ⟨#[]⟩)).setCell ⟨g, j * 5 + 3, none⟩ (.slice none 0 0)).setCell ⟨g, j * 5 + 4, none⟩ (.int .i64 0))) := by
  have F : Fr (fun i => i ∈ l[j].blocks) wr w3 := f2.thenNo f3
  have hmem := List.getElem_mem hj
  have hbl : ∀ b ∈ l[j].blocks, lo ≤ b ∧ b < hi := T.In.blocks _ (hlo _ hmem)
  have hg := sp_child_ne hnd hmem
  have b3 := inv.box.fr F (fun h => by have := hbl _ h; omega)
  have o3 := owns_fr inv.own F (fun g' h => by simp [Value.ownBlock] at h; subst h; exact hg)
  refine ⟨b3, o3, fun hgs => ?_⟩
  have F5 := (Fr.refl (fun i => i = g) w3).five (g := g) (fun _ => rfl) (j * 5) (.int .u8 1) (.int .i64 (-5)) (.string ⟨#[]⟩) (.slice none 0 0) (.int .i64 0)
  have hgm : g ∈ (T.mk k n s (some ⟨g, 0, none⟩) cap l r).blocks := T.mem_blocks (by rintro rfl; simp at hj)
  refine ⟨?_, ?_, ?_, fun i hi' hij => ?_⟩
  · refine (inv.fr.trans' F fun i _ h => T.sub_blocks hmem h).trans' F5 fun i _ h => ?_
    have h' : i = g := h
    rw [h']; exact hgm
  · exact b3.fr F5 (fun h => by have h' : w.heap.size = g := h; omega)
  · have := owns_set5 o3 (spRow_length (Nat.le_of_lt hj)) hj 1 (-5) ⟨#[]⟩ none 0 [] 0
    rw [show T.mk 1 (-5) ⟨#[]⟩ none 0 [] 0 = m5 from rfl, spRow_set hj] at this
    exact this
  · have h1 := inv.sp i hi' (by omega)
    have h2 := T.Sp.fr F _ (fun b hb => sp_child_far hnd hj hi' (by omega) hb) h1
    exact T.Sp.fr F5 _ (fun b hb h => by have h' : b = g := h; subst h'; exact sp_child_ne hnd (List.getElem_mem hi') hb) h2

set_option maxRecDepth 100000 in
set_option maxHeartbeats 8000000 in
theorem spoil_any (t : T) : ∀ (w : World) (lo hi : Nat), t.Sh w lo hi → hi ≤ w.heap.size → lo ≤ w.heap.size → t.v.size ≤ 1000000 →
    Calls Try.prog 44 #[t.val] w fun e w' => (∃ z : Nat, e = .returned (.int .i64 (z : Int)) ∧ 0 < z ∧ z + 1 ≤ 6 * t.v.size) ∧ Fr (fun i => i ∈ t.blocks) w w' := by
  induction t using T.ind with
  | h k n s A cap l r ih =>
    intro w lo hi hsh hh hlow hsz
    have hin := hsh.inn
    have fit := (T.in_mk.1 hin).1
    have hlen := fit.len1
    have hsp := T.sp_mk.1 hsh.sp
    have hnd := hsh.nodup
    rw [T.val_mk]
    have hsize : (T.mk k n s A cap l r).v.size = 1 + ((l.map T.v).map V.size).sum := by rw [T.v_mk, V.size_mk]
    rw [hsize] at hsz ⊢
    have hls := size_sum (l.map T.v)
    rw [List.length_map] at hls
    have hfr0 : Fr (fun i => i ∈ (T.mk k n s A cap l r).blocks) w (w.alloc (.cells #[.int .u8 k, .int .i64 n, .string s, .slice A l.length cap, .int .i64 r] 27)) := (Fr.refl _ w).alloc _
    have hinv0 : SpInv w lo hi k n s A cap l r 0 (w.alloc (.cells #[.int .u8 k, .int .i64 n, .string s, .slice A l.length cap, .int .i64 r] 27)) := by
      refine ⟨hfr0, Blk.new w 27 _, ?_, fun i h _ => T.Sp.fr ((Fr.refl No w).alloc _) _ (fun _ _ h => h) (hsp.2.2.2 _ (List.getElem_mem h))⟩
      rw [spRow_zero]
      by_cases hl : l = []
      · obtain ⟨h1, h2⟩ := hsp.2.1 hl
        subst hl h1 h2
        exact World.ownsRow_nil _ _ _ _
      · exact (hsp.2.2.1 hl).1.alloc _
    have hAg : l ≠ [] → ∃ g, A = some ⟨g, 0, none⟩ ∧ g < hi := fun hl => (hsp.2.2.1 hl).2
    have hlo : ∀ x ∈ l, x.In w lo hi := (T.in_mk.1 hin).2.2
    obtain ⟨i0, hi0, hz0, hz1, hz2⟩ := info_parts value_info
    have HS := hide hsize
    clear hsize hfr0
    go_enter Try.func44, Try.ntmps44
    go_wp2_with fail
    go_loopw [3, 4] (fun v i wr => ∃ j m : Nat, j ≤ l.length ∧ i = .int .i64 (j : Int) ∧ v = .int .i64 (m : Int) ∧ m + j ≤ 6 * (((l.map T.v).map V.size).take j).sum ∧ SpInv w lo hi k n s A cap l r j wr) (fun _ i _ => l.length - (intOf i).toNat)
    case atStart => exact ⟨0, 0, Nat.zero_le _, rfl, rfl, by simp, hinv0⟩
    case round =>
      obtain ⟨j, m, hj, rfl, rfl, hm, inv⟩ := hrel
      obtain ⟨c0, c1, c2, c3, c4, cf⟩ := inv.box.cells5
      have q0 := inv.box.lt
      have hts := sum_take_le ((l.map T.v).map V.size) j
      by_cases hlt : j < l.length
      · obtain ⟨g, rfl, hg⟩ := hAg (by rintro rfl; simp at hlt)
        have hcase := ih l[j] (List.getElem_mem hlt) wr lo hi ⟨inv.sp j hlt (Nat.le_refl _), sp_child_nodup hnd (List.getElem_mem hlt)⟩ (by have := inv.fr.size; omega) (by have := inv.fr.size; omega)
        have hto := sum_take_succ ((l.map T.v).map V.size) j (by simpa using hlt)
        have hts2 := sum_take_le ((l.map T.v).map V.size) (j + 1)
        rw [List.getElem_map, List.getElem_map] at hto
        have hpush := fun w2 w3 (f2 : Fr (fun i => i ∈ l[j].blocks) wr w2) (f3 : Fr No w2 w3) => sp_push inv hnd hlt hh hlo f2 f3
        have hat := spRow_at hlt
        cases hx : l[j] with
        | mk k1 n1 s1 A1 cap1 l1 r1 =>
          rw [hx] at hcase hto hpush hat
          rw [T.val_mk] at hcase
          obtain ⟨e0, e1, e2, e3, e4, ef, eg⟩ := owns_five inv.own hat
          generalize (T.mk k1 n1 s1 A1 cap1 l1 r1).v.size = z at *
          generalize (T.mk k1 n1 s1 A1 cap1 l1 r1).blocks = bl at *
          have hcase2 := hcase (by omega)
          have HC := hide hcase2
          have HTO := hide hto
          have HP := hide hpush
          have HAT := hide hat
          have hmz : m ≤ 6000000 := by omega
          have hm2 : m + j ≤ 6 * (((l.map T.v).map V.size).take j).sum := hm
          have HM := hide hm2
          have hzz : z ≤ 1000000 := by omega
          have hgs : g < w.heap.size := by omega
          clear hcase hcase2 hto hpush hat hx ih inv hinv0 hin hsh hnd hsp hAg hts hts2 hm hm2 hlo
          go_wp2_with fail
          refine HC.out.mono ?_
          rintro e w2 ⟨⟨y, rfl, hy0, hy1⟩, f2⟩
          obtain ⟨b2, o2, -⟩ := HP.out w2 w2 f2 (Fr.refl No w2)
          clear c0 c1 c2 c3 c4 cf q0 e0 e1 e2 e3 e4 ef eg
          obtain ⟨c0, c1, c2, c3, c4, cf⟩ := b2.cells5
          have q0 := b2.lt
          have HB2 := hide b2
          have HO2 := hide o2
          have HF2 := hide f2
          clear b2 o2 f2
          have hyb : y ≤ 6000000 := by omega
          have hnum := fun w3 => num2_any (-5) w3
          have hadd : m + y + (j + 1) ≤ 6 * (((l.map T.v).map V.size).take (j + 1)).sum := by
            rw [HTO.out]; have := HM.out; omega
          have HADD := hide hadd
          clear hadd
          go_wp2_with fail
          go_region_law (go_simp; go_at_call 79; (with_reducible refine (hnum _).mono ?_); rintro e w3 ⟨rfl, f3⟩; obtain ⟨b3, o3, hi3⟩ := HP.out w2 w3 HF2.out ⟨f3.os, f3.tape, f3.output, f3.size, f3.block⟩; obtain ⟨x0, x1, x2, x3, x4, xf, xg⟩ := owns_five o3 HAT.out; obtain ⟨d0, d1, d2, d3, d4, df⟩ := b3.cells5; have HI3 := hide (hi3 hgs); clear b3 o3 hi3)
          all_goals
            go_wp2
            go_roundw
            case rel => exact ⟨j + 1, m + y, hlt, by go_num, by go_num, HADD.out, HI3.out⟩
            case measure => simp [intOf]; omega
      · obtain rfl : l.length = j := by omega
        have hown := inv.own
        rw [spRow_all] at hown
        have hAb : ∀ g, (Value.slice A l.length cap).ownBlock = some g → g ∈ (T.mk k n s A cap l r).blocks ∨ w.heap.size ≤ g := fun g hg => by
          by_cases hl : l = []
          · obtain ⟨h1, _⟩ := hsp.2.1 hl
            subst h1; cases hg
          · obtain ⟨g', rfl, _⟩ := hAg hl
            simp [Value.ownBlock] at hg
            subst hg
            exact .inl (T.mem_blocks hl)
        have hst : Fr (fun i => i ∈ (T.mk k n s A cap l r).blocks) w wr := inv.fr
        have hm0 : m + l.length ≤ 6 * ((l.map T.v).map V.size).sum := by
          rw [List.take_of_length_le (by simp)] at hm; exact hm
        have HM := hide hm0
        have HOWN := hide hown
        have HAB := hide hAb
        have HST := hide hst
        have hmm : m ≤ 6000000 := by omega
        clear hown hAb hst hm hm0 inv ih hinv0 hsp hnd hsh hin hlo hAg hts
        go_wp2_with fail
        clear c0 c1 c2 c3 c4 cf q0
        go_loopw [5, 6] (fun v i wk => ∃ (c : Nat) (A3 : Option Addr) (cap3 : Nat), c ≤ 5 ∧ i = .int .i64 (c : Int) ∧ v = .slice A3 (l.length + c) cap3 ∧ wk.ownsRow lo 27 5 (.slice A3 (l.length + c) cap3) (l.length + c) (rowCells (List.replicate l.length m5 ++ List.replicate c m6)) ∧
          Fr (fun i => i ∈ (T.mk k n s A cap l r).blocks) w wk ∧ (∀ g, (Value.slice A3 (l.length + c) cap3).ownBlock = some g → g ∈ (T.mk k n s A cap l r).blocks ∨ w.heap.size ≤ g)) (fun _ i _ => 5 - (intOf i).toNat)
        case atStart => exact ⟨0, A, cap, by omega, rfl, rfl, by simpa using HOWN.out, HST.out, HAB.out⟩
        case round =>
          obtain ⟨c, A3, cap3, hc, rfl, rfl, own3, fr3, hb3⟩ := hrel
          by_cases hc5 : c < 5
          · have HO3 := hide own3
            have HF3 := hide fr3
            have HB3 := hide hb3
            have hsz3 := fr3.size
            have hnum := fun w3 => num2_any (-6) w3
            clear own3 fr3 hb3
            go_wp2_with fail
            refine (hnum wr).mono ?_
            rintro e w4 ⟨rfl, f4⟩
            have hs4 := f4.size
            have hownA := (owns_fr HO3.out f4 fun _ _ h => h).alloc (.cells #[.int .u8 1, .int .i64 (-6), .string ⟨#[]⟩, .slice none 0 0, .int .i64 0] 27)
            have HF4 := hide f4
            clear f4
            go_wp2_with (at_builtin; refine wpList_append_lies _ (by rfl) _ _ _ (by rfl) lo 27 i0 _ 5 64 Try.underlying24 hi0 hz0 hz1 hz2 (by rfl) (by omega) (.slice A3 (l.length + c) cap3) (l.length + c) (rowCells (List.replicate l.length m5 ++ List.replicate c m6)) (by rfl) hownA ⟨w4.heap.size, 0, none⟩ 1 1 [.int .u8 1, .int .i64 (-6), .string ⟨#[]⟩, .slice none 0 0, .int .i64 0] (by rfl) (by rfl) (World.news_of_block (Blk.new w4 27 _)) (by simp [Value.oneCell']) (by omega) (by unfold maxLen; omega) (by omega) (by simp; omega) (w4.heap.size + 1) (by simp) ?_; intro g cp w5 hown5 hgrow hat hlt5; have HO5 := hide hown5; have HG := hide hgrow; have HA := hide hat; clear hown5 hgrow hat)
            go_roundw
            case rel =>
              refine ⟨c + 1, some ⟨g, 0, none⟩, cp, by omega, by go_num, rfl, ?_, ?_, ?_⟩
              · have h := HO5.out
                rw [List.replicate_succ', ← List.append_assoc, rowCells_snoc]
                exact h
              · refine (((HF3.out.thenNo HF4.out).alloc _).trans' (fr_grown HG.out) fun i hi h => ?_)
                have h' : some i = (Value.slice A3 (l.length + c) cap3).ownBlock := h
                rcases HB3.out i h'.symm with h | h
                · exact h
                · omega
              · intro g' hg'
                simp [Value.ownBlock] at hg'
                subst hg'
                rcases HA.out with h | h
                · exact HB3.out _ h
                · right; omega
            case measure => simp [intOf]; omega
          · obtain rfl : c = 5 := by omega
            have HF3 := hide fr3
            clear fr3 own3 hb3
            go_wp2
            go_ret
            refine ⟨⟨m + (l.length + 5), by go_num, by omega, ?_⟩, HF3.out⟩
            have := HM.out
            omega

end Go.Proofs.Ytihjmipmjogpoaa

/- Chapter 2: value.rename: the references of a value of one's own, renamed in their places. -/
namespace Go.Proofs.Ytihjmipmjogpoaa
open Go.RowKit Go.Maps Go.ChangeMaps

/-- Under which name a reference goes: the first that names it. -/
def nmOf : List Int → List Int → Int → Option Int
  | f :: fs, t :: ts, r => if f = r then some t else nmOf fs ts r
  | _, _, _ => none

/-- A map of names, in a block of its own. -/
def Names (w : World) (b : Nat) (f : Int → Option Int) : Prop :=
  ∃ (n : Nat) (D : DataW Unit), w.ownsMap Try.prog 25 (plainElem Try.prog 25) b n D ∧ ∀ r : Int, -9223372036854775808 ≤ r → r ≤ 9223372036854775807 → Maps.has D (.int .i64 r) = (f r).isSome ∧ D.atKey (.int .i64 r) (.lit (.int .i64 0)) = .lit (.int .i64 ((f r).getD 0))

theorem ownsMap_fr {S : Nat → Prop} {w w' : World} {k : TypeId} {R : Value → Option (DataW Unit × List MemPlace)} {b n : Nat} {D : DataW Unit} (h : w.ownsMap Try.prog k R b n D) (f : Fr S w w') (hs : ¬ S b) : w'.ownsMap Try.prog k R b n D := by
  have hl := h.lt
  obtain ⟨es, clock, hb, h2⟩ := h
  exact ⟨es, clock, (f.block b hl hs).trans hb, h2⟩

theorem Names.fr {S : Nat → Prop} {w w' : World} {b : Nat} {f : Int → Option Int} (h : Names w b f) (fr : Fr S w w') (hs : ¬ S b) : Names w' b f := by
  obtain ⟨n, D, h1, h2⟩ := h
  exact ⟨n, D, ownsMap_fr h1 fr hs, h2⟩

theorem Names.lt {w : World} {b : Nat} {f : Int → Option Int} (h : Names w b f) : b < w.heap.size := by
  obtain ⟨n, D, h1, _⟩ := h
  exact h1.lt

/-- A value's references by other names. -/
def V.ren (f : Int → Option Int) : V → V
  | .mk k n s l r => if k = 4 then .mk k n s l ((f r).getD 0) else .mk k n s (l.map (V.ren f)) r
termination_by v => v
theorem V.ren_mk (f : Int → Option Int) (k n : Int) (s : ByteArray) (l : List V) (r : Int) : (V.mk k n s l r).ren f = if k = 4 then .mk k n s l ((f r).getD 0) else .mk k n s (l.map (V.ren f)) r := by rw [V.ren]

/-- Are all of them named? -/
def V.named (f : Int → Option Int) : V → Bool
  | .mk k _ _ l r => if k = 4 then (f r).isSome else (l.map (V.named f)).all id
termination_by v => v
theorem V.named_mk (f : Int → Option Int) (k n : Int) (s : ByteArray) (l : List V) (r : Int) : (V.mk k n s l r).named f = if k = 4 then (f r).isSome else l.all (V.named f) := by
  rw [V.named, List.all_map]; rfl

def T.ren (f : Int → Option Int) : T → T
  | .mk k n s A cap l r => if k = 4 then .mk k n s A cap l ((f r).getD 0) else .mk k n s A cap (l.map (T.ren f)) r
termination_by t => t
theorem T.ren_mk (f : Int → Option Int) (k n : Int) (s : ByteArray) (A : Option Addr) (cap : Nat) (l : List T) (r : Int) : (T.mk k n s A cap l r).ren f = if k = 4 then .mk k n s A cap l ((f r).getD 0) else .mk k n s A cap (l.map (T.ren f)) r := by rw [T.ren]

theorem T.ren_v (f : Int → Option Int) (t : T) : (t.ren f).v = t.v.ren f := by
  induction t using T.ind with
  | h k n s A cap l r ih =>
    rw [T.ren_mk, T.v_mk, V.ren_mk]
    split
    · rw [T.v_mk]
    · have e : l.map (T.v ∘ T.ren f) = l.map (V.ren f ∘ T.v) := List.map_congr_left fun x hx => ih x hx
      rw [T.v_mk, List.map_map, List.map_map, e]

theorem T.ren_blocks (f : Int → Option Int) (t : T) : (t.ren f).blocks = t.blocks := by
  induction t using T.ind with
  | h k n s A cap l r ih =>
    rw [T.ren_mk]
    split
    · rw [T.blocks_mk, T.blocks_mk]
    · have e : l.map (T.blocks ∘ T.ren f) = l.map T.blocks := List.map_congr_left fun x hx => ih x hx
      rw [T.blocks_mk, T.blocks_mk, List.map_map, e]
      cases l <;> rfl

/-- The cells of a renamed value: the reference alone has turned. -/
theorem T.ren_cells (f : Int → Option Int) (k n : Int) (s : ByteArray) (A : Option Addr) (cap : Nat) (l : List T) (r : Int) : ((T.mk k n s A cap l r).ren f).cells = [.int .u8 k, .int .i64 n, .string s, .slice A l.length cap, .int .i64 (if k = 4 then (f r).getD 0 else r)] := by
  rw [T.ren_mk]
  split <;> simp [T.cells]

/-- One reference in a row. -/
theorem row_set_ref {L : List T} {i : Nat} {k n : Int} {s : ByteArray} {A : Option Addr} {cap : Nat} {l : List T} {r : Int} (h : L[i]? = some (T.mk k n s A cap l r)) (x : T) (r' : Int) (hx : x.cells = [.int .u8 k, .int .i64 n, .string s, .slice A l.length cap, .int .i64 r']) :
    (rowCells L).set (i * 5 + 4) (.int .i64 r') = rowCells (L.set i x) := by
  induction L generalizing i with
  | nil => simp at h
  | cons y L ih =>
    cases i with
    | zero =>
      simp at h
      subst h
      simp only [rowCells, List.flatMap_cons, List.set_cons_zero, Nat.zero_mul, Nat.zero_add, hx]
      simp [T.cells]
    | succ i =>
      simp at h
      have := ih h
      simp only [rowCells, List.flatMap_cons, List.set_cons_succ] at this ⊢
      rw [List.set_append_right _ _ (by rw [T.cells_length]; omega), T.cells_length, show (i + 1) * 5 + 4 - 5 = i * 5 + 4 by omega, this]

theorem row_set_same {L : List T} {i : Nat} {y x : T} (h : L[i]? = some y) (hx : x.cells = y.cells) : rowCells (L.set i x) = rowCells L := by
  induction L generalizing i with
  | nil => simp at h
  | cons z L ih =>
    cases i with
    | zero => simp at h; subst h; simp [rowCells, hx]
    | succ i =>
      simp at h
      have := ih h
      simp only [rowCells, List.flatMap_cons, List.set_cons_succ] at this ⊢
      rw [this]

def renRow (f : Int → Option Int) (l : List T) (j : Nat) : List T := (l.take j).map (T.ren f) ++ l.drop j
theorem renRow_zero (f : Int → Option Int) (l : List T) : renRow f l 0 = l := by simp [renRow]
theorem renRow_all (f : Int → Option Int) (l : List T) : renRow f l l.length = l.map (T.ren f) := by simp [renRow]
theorem renRow_at {f : Int → Option Int} {l : List T} {j : Nat} (h : j < l.length) : (renRow f l j)[j]? = some l[j] := by
  rw [renRow, List.getElem?_append_right (by simp; omega)]
  simp [Nat.min_eq_left (Nat.le_of_lt h), h]
theorem renRow_set {f : Int → Option Int} {l : List T} {j : Nat} (h : j < l.length) : (renRow f l j).set j (l[j].ren f) = renRow f l (j + 1) := by
  have hl : ((l.take j).map (T.ren f)).length = j := by simp; omega
  rw [renRow, renRow, List.set_append_right _ _ (by omega), hl, Nat.sub_self, List.drop_eq_getElem_cons h, List.set_cons_zero, List.take_succ_eq_append_getElem h, List.map_append, List.append_assoc]
  rfl
theorem renRow_length {f : Int → Option Int} {l : List T} {j : Nat} (h : j ≤ l.length) : (renRow f l j).length = l.length := by simp [renRow]; omega

/-- What rename leaves. -/
structure RenP (f : Int → Option Int) (x : T) (b o lo hi : Nat) (w : World) (e : Ending) (w' : World) : Prop where
  e : e = .returned (.bool (x.v.named f))
  fr : Fr (fun i => i = b ∨ i ∈ x.blocks) w w'
  one : ∀ k n s A cap l r, x = T.mk k n s A cap l r → x.v.named f = true → (k = 4 → w' = w.setCell ⟨b, o + 4, none⟩ (.int .i64 ((f r).getD 0))) ∧ (k ≠ 4 → Fr (fun i => i ∈ x.blocks) w w')
  sp : x.v.named f = true → (x.ren f).Sp w' lo hi

end Go.Proofs.Ytihjmipmjogpoaa

/- Chapter 2: a part put in the place of another one: in memory of one's own, and as plain data. -/
namespace Go.Proofs.Ytihjmipmjogpoaa
open Go.RowKit

/-- The parts of a tree. -/
def T.kids : T → List T
  | .mk _ _ _ _ _ l _ => l
def T.base : T → Option Addr
  | .mk _ _ _ A _ _ _ => A

/-- One step down: the spot and the part that stands there. -/
def stp (q : (Nat × Nat) × T) (i : Nat) : (Nat × Nat) × T :=
  match q.2.base, q.2.kids[i]? with
  | some a, some x => ((a.block, i * 5), x)
  | _, _ => q

/-- Where a place leads, from a spot. -/
def loc (p : List Nat) (bo : Nat × Nat) (t : T) : (Nat × Nat) × T := p.foldl stp (bo, t)

theorem loc_nil (bo : Nat × Nat) (t : T) : loc [] bo t = (bo, t) := rfl
theorem loc_cons (i : Nat) (p : List Nat) (bo : Nat × Nat) (k n : Int) (s : ByteArray) (a : Addr) (cap : Nat) (l : List T) (r : Int) (y : T) (h : l[i]? = some y) :
    loc (i :: p) bo (.mk k n s (some a) cap l r) = loc p (a.block, i * 5) y := by
  simp only [loc, List.foldl_cons, stp, T.base, T.kids, h]
theorem loc_snoc (i : Nat) (p : List Nat) (bo : Nat × Nat) (t : T) : loc (p ++ [i]) bo t = stp (loc p bo t) i := by
  simp only [loc, List.foldl_append, List.foldl_cons, List.foldl_nil]

/-- A tree with another part at a place. -/
def T.put : List Nat → T → T → T
  | [], x, _ => x
  | i :: p, x, .mk k n s A cap l r => .mk k n s A cap (match l[i]? with | some y => l.set i (T.put p x y) | none => l) r

theorem T.put_cons {i : Nat} {p : List Nat} {x : T} {k n : Int} {s : ByteArray} {A : Option Addr} {cap : Nat} {l : List T} {r : Int} {y : T} (h : l[i]? = some y) :
    T.put (i :: p) x (.mk k n s A cap l r) = .mk k n s A cap (l.set i (T.put p x y)) r := by
  simp only [T.put, h]

/-- A value with another part at a place. -/
def V.put : List Int → V → V → V
  | [], x, _ => x
  | i :: p, x, .mk k n s l r => .mk k n s (match l[i.toNat]? with | some y => l.set i.toNat (V.put p x y) | none => l) r

theorem V.put_cons {i : Int} {p : List Int} {x : V} {k n : Int} {s : ByteArray} {l : List V} {r : Int} {y : V} (h : l[i.toNat]? = some y) :
    V.put (i :: p) x (.mk k n s l r) = .mk k n s (l.set i.toNat (V.put p x y)) r := by
  simp only [V.put, h]

theorem T.put_v (p : List Nat) (x : T) : ∀ t : T, (T.put p x t).v = V.put (p.map fun i : Nat => (i : Int)) x.v t.v := by
  induction p with
  | nil => intro t; rfl
  | cons i p ih =>
    intro t
    cases t with
    | mk k n s A cap l r =>
      rw [T.v_mk, List.map_cons]
      cases h : l[i]? with
      | none => simp only [T.put, V.put, h, T.v_mk, Int.toNat_natCast, List.getElem?_map, Option.map_none]
      | some y =>
        rw [T.put_cons h, V.put_cons (y := y.v) (by rw [Int.toNat_natCast, List.getElem?_map, h]; rfl), T.v_mk, List.map_set, ih, Int.toNat_natCast]

/-- A row in which one part has turned. -/
theorem perm_set {l : List T} {i : Nat} {y x : T} (h : l[i]? = some y) : ∀ b, b ∈ ((l.set i x).map T.blocks).flatten → b ∈ x.blocks ∨ ∃ j z, j ≠ i ∧ l[j]? = some z ∧ b ∈ z.blocks := by
  intro b hb
  obtain ⟨L, hL, hb⟩ := List.mem_flatten.1 hb
  obtain ⟨z, hz, rfl⟩ := List.mem_map.1 hL
  obtain ⟨j, hj, rfl⟩ := List.mem_iff_getElem.1 hz
  rw [List.getElem_set] at hb
  split at hb
  · exact .inl hb
  · rename_i hne
    rw [List.length_set] at hj
    exact .inr ⟨j, l[j], fun h => hne h.symm, List.getElem?_eq_getElem hj, hb⟩

theorem nodup_set {l : List T} {i : Nat} {y x : T} (h : l[i]? = some y) (hn : (l.map T.blocks).flatten.Nodup) (hx : x.blocks.Nodup) (hd : ∀ b ∈ x.blocks, ∀ j z, j ≠ i → l[j]? = some z → b ∉ z.blocks) : ((l.set i x).map T.blocks).flatten.Nodup := by
  induction l generalizing i with
  | nil => simp at h
  | cons a l ih =>
    rw [List.map_cons, List.flatten_cons, List.nodup_append] at hn
    obtain ⟨n1, n2, n3⟩ := hn
    cases i with
    | zero =>
      rw [List.set_cons_zero, List.map_cons, List.flatten_cons, List.nodup_append]
      refine ⟨hx, n2, fun b hb c hc e => ?_⟩
      subst e
      obtain ⟨L, hL, hc⟩ := List.mem_flatten.1 hc
      obtain ⟨z, hz, rfl⟩ := List.mem_map.1 hL
      obtain ⟨j, hj, rfl⟩ := List.mem_iff_getElem.1 hz
      exact hd b hb (j + 1) l[j] (by omega) (by simp [hj]) hc
    | succ i =>
      simp only [List.getElem?_cons_succ] at h
      rw [List.set_cons_succ, List.map_cons, List.flatten_cons, List.nodup_append]
      refine ⟨n1, ih h n2 (fun b hb j z hj hz => hd b hb (j + 1) z (by omega) (by simpa using hz)), fun b hb c hc e => ?_⟩
      subst e
      rcases perm_set h b hc with h1 | ⟨j, z, hj, hz, h1⟩
      · exact hd b h1 0 a (by omega) rfl hb
      · exact n3 b hb b (List.mem_flatten.2 ⟨_, List.mem_map_of_mem (List.mem_of_getElem? hz), h1⟩) rfl

/-- Five cells written over. -/
def five (w : World) (g o : Nat) (k n : Int) (s : ByteArray) (A : Option Addr) (len cap : Nat) (r : Int) : World :=
  ((((w.setCell ⟨g, o, none⟩ (.int .u8 k)).setCell ⟨g, o + 1, none⟩ (.int .i64 n)).setCell ⟨g, o + 2, none⟩ (.string s)).setCell ⟨g, o + 3, none⟩ (.slice A len cap)).setCell ⟨g, o + 4, none⟩ (.int .i64 r)

theorem five_fr (w : World) (g o : Nat) (k n : Int) (s : ByteArray) (A : Option Addr) (len cap : Nat) (r : Int) : Fr (fun i => i = g) w (five w g o k n s A len cap r) :=
  (Fr.refl (fun i => i = g) w).five (g := g) (fun _ => rfl) o _ _ _ _ _

/-- A part of one's own, stored where a place leads: the tree that is then there. -/
theorem put_store {w : World} {lo hi lo2 hi2 : Nat} {kx nx : Int} {sx : ByteArray} {Ax : Option Addr} {cx : Nat} {lx : List T} {rx : Int} (p : List Nat) :
    ∀ (t : T) (b o : Nat), t.Sp w lo hi → t.blocks.Nodup → b ∉ t.blocks → (∃ y, vAt (p.map fun i : Nat => (i : Int)) t.v = some y) →
      (T.mk kx nx sx Ax cx lx rx).Sp (five w (loc p (b, o) t).1.1 (loc p (b, o) t).1.2 kx nx sx Ax lx.length cx rx) lo2 hi2 → (T.mk kx nx sx Ax cx lx rx).blocks.Nodup → (∀ i ∈ (T.mk kx nx sx Ax cx lx rx).blocks, i ∉ t.blocks) → lo ≤ lo2 → hi ≤ hi2 →
      (T.put p (T.mk kx nx sx Ax cx lx rx) t).Sp (five w (loc p (b, o) t).1.1 (loc p (b, o) t).1.2 kx nx sx Ax lx.length cx rx) lo hi2 ∧ (T.put p (T.mk kx nx sx Ax cx lx rx) t).blocks.Nodup ∧
        (∀ i ∈ (T.put p (T.mk kx nx sx Ax cx lx rx) t).blocks, i ∈ t.blocks ∨ i ∈ (T.mk kx nx sx Ax cx lx rx).blocks) ∧ (p = [] → (loc p (b, o) t).1 = (b, o)) ∧
        (p ≠ [] → (loc p (b, o) t).1.1 ∈ t.blocks ∧ (T.put p (T.mk kx nx sx Ax cx lx rx) t).cells = t.cells) := by
  induction p with
  | nil =>
    intro t b o hsp hnd hb _ hx hxn hxd h0 h1
    exact ⟨T.Sp.more h0 (Nat.le_refl _) _ hx, hxn, fun i hi => .inr hi, fun _ => rfl, fun h => absurd rfl h⟩
  | cons i p ih =>
    intro t b o hsp hnd hb hat hx hxn hxd h0 h1
    cases t with
    | mk k n s A cap l r =>
      rw [T.v_mk, List.map_cons, vAt_cons, if_neg (by omega), Int.toNat_natCast] at hat
      simp only [V.list, List.getElem?_map] at hat
      obtain ⟨fit, h2, h3, h4⟩ := T.sp_mk.1 hsp
      cases hy : l[i]? with
      | none => rw [hy] at hat; obtain ⟨y, hat⟩ := hat; cases hat
      | some y =>
        rw [hy] at hat
        simp only [Option.map_some, Option.bind_some] at hat
        have hmem := List.mem_of_getElem? hy
        have hne : l ≠ [] := by rintro rfl; cases hmem
        obtain ⟨hown, g, rfl, hg⟩ := h3 hne
        have hgl := owns_lt hown g rfl
        rw [loc_cons i p (b, o) k n s ⟨g, 0, none⟩ cap l r y hy] at hx ⊢
        have hgy := sp_child_ne hnd hmem
        have hgb : g ∈ (T.mk k n s (some ⟨g, 0, none⟩) cap l r).blocks := T.mem_blocks hne
        have hyd : ∀ q ∈ (T.mk kx nx sx Ax cx lx rx).blocks, q ∉ y.blocks := fun q hq h => hxd q hq (T.sub_blocks hmem h)
        obtain ⟨e1, e2, e3, e4, e5⟩ := ih y g (i * 5) (h4 y hmem) (sp_child_nodup hnd hmem) hgy hat hx hxn hyd h0 h1
        have hi := (List.getElem?_eq_some_iff.1 hy).1
        have hyi : l[i] = y := (List.getElem?_eq_some_iff.1 hy).2
        rw [T.put_cons hy]
        generalize hL : loc p (g, i * 5) y = L at *
        have F := five_fr w L.1.1 L.1.2 kx nx sx Ax lx.length cx rx
        have hLb : L.1.1 = g ∨ L.1.1 ∈ y.blocks := by
          by_cases hp : p = []
          · rw [e4 hp]; exact .inl rfl
          · exact .inr (e5 hp).1
        have hrow : (five w L.1.1 L.1.2 kx nx sx Ax lx.length cx rx).ownsRow lo 27 5 (.slice (some ⟨g, 0, none⟩) l.length cap) l.length (rowCells (l.set i (T.put p (T.mk kx nx sx Ax cx lx rx) y))) := by
          by_cases hp : p = []
          · subst hp
            rw [e4 rfl]
            exact owns_set5 hown rfl hi kx nx sx Ax cx lx rx
          · rw [row_set_same hy (e5 hp).2]
            refine owns_fr hown F fun g' hg' h => ?_
            simp [Value.ownBlock] at hg'
            subst hg'
            have h' : g = L.1.1 := h
            exact hgy (h' ▸ (e5 hp).1)
        have hsib : ∀ j (hj : j < l.length), j ≠ i → l[j].Sp (five w L.1.1 L.1.2 kx nx sx Ax lx.length cx rx) lo hi2 := fun j hj hji => by
          refine T.Sp.more (Nat.le_refl _) h1 _ (T.Sp.fr F _ (fun q hq h => ?_) (h4 _ (List.getElem_mem hj)))
          have h' : q = L.1.1 := h
          rcases hLb with hb' | hb'
          · rw [h', hb'] at hq
            exact sp_child_ne hnd (List.getElem_mem hj) hq
          · rw [← h', ← hyi] at hb'
            rcases Nat.lt_or_gt_of_ne hji with hlt | hgt
            · exact sp_child_far hnd hj hi hlt hb' hq
            · exact sp_child_far hnd hi hj hgt hq hb'
        have hfl : (l.map T.blocks).flatten.Nodup := by
          rw [T.blocks_mk, List.nodup_append] at hnd
          exact hnd.2.1
        have hpd : ∀ q ∈ (T.put p (T.mk kx nx sx Ax cx lx rx) y).blocks, ∀ j z, j ≠ i → l[j]? = some z → q ∉ z.blocks := fun q hq j z hji hz hqz => by
          obtain ⟨hj, rfl⟩ := List.getElem?_eq_some_iff.1 hz
          rcases e3 q hq with h | h
          · rw [← hyi] at h
            rcases Nat.lt_or_gt_of_ne hji with hlt | hgt
            · exact sp_child_far hnd hj hi hlt h hqz
            · exact sp_child_far hnd hi hj hgt hqz h
          · exact hxd q h (T.sub_blocks (List.getElem_mem hj) hqz)
        have hne2 : l.set i (T.put p (T.mk kx nx sx Ax cx lx rx) y) ≠ [] := by simpa using hne
        have hblk : (T.mk k n s (some ⟨g, 0, none⟩) cap (l.set i (T.put p (T.mk kx nx sx Ax cx lx rx) y)) r).blocks = g :: ((l.set i (T.put p (T.mk kx nx sx Ax cx lx rx) y)).map T.blocks).flatten := by
          rw [T.blocks_mk]
          cases hq : l.set i (T.put p (T.mk kx nx sx Ax cx lx rx) y) with
          | nil => exact absurd hq hne2
          | cons => rfl
        have hin : ∀ q ∈ (T.mk k n s (some ⟨g, 0, none⟩) cap (l.set i (T.put p (T.mk kx nx sx Ax cx lx rx) y)) r).blocks, q ∈ (T.mk k n s (some ⟨g, 0, none⟩) cap l r).blocks ∨ q ∈ (T.mk kx nx sx Ax cx lx rx).blocks := fun q hq => by
          rw [hblk] at hq
          rcases List.mem_cons.1 hq with rfl | hq
          · exact .inl hgb
          · rcases perm_set hy q hq with h | ⟨j, z, _, hz, h⟩
            · rcases e3 q h with h | h
              · exact .inl (T.sub_blocks hmem h)
              · exact .inr h
            · exact .inl (T.sub_blocks (List.mem_of_getElem? hz) h)
        refine ⟨?_, ?_, hin, fun h => (by cases h), fun _ => ⟨?_, ?_⟩⟩
        · refine T.sp_mk.2 ⟨by simpa using fit, fun h => absurd h hne2, fun _ => ⟨by simpa using hrow, g, rfl, by omega⟩, fun z hz => ?_⟩
          obtain ⟨j, hj, rfl⟩ := List.mem_iff_getElem.1 hz
          rw [List.getElem_set]
          split
          · exact e1
          · rename_i hne3
            exact hsib j (by simpa using hj) (fun h => hne3 h.symm)
        · rw [hblk, List.nodup_cons]
          refine ⟨fun h => ?_, nodup_set hy hfl e2 hpd⟩
          rcases perm_set hy g h with h | ⟨j, z, _, hz, h⟩
          · rcases e3 g h with h | h
            · exact hgy h
            · exact hxd g h hgb
          · exact sp_child_ne hnd (List.mem_of_getElem? hz) h
        · rcases hLb with h | h
          · rw [h]; exact hgb
          · exact T.sub_blocks hmem h
        · simp [T.cells]

end Go.Proofs.Ytihjmipmjogpoaa

/- Chapter 2: slices.swapRangeCmpFunc on a row of values. -/
namespace Go.Proofs.Ytihjmipmjogpoaa
open Go.RowKit

/-- A row of values of one's own. -/
def Rw (w : World) (lo g cap : Nat) (L : List T) : Prop := w.ownsRow lo 27 5 (.slice (some ⟨g, 0, none⟩) L.length cap) L.length (rowCells L)

theorem Rw.fr {S : Nat → Prop} {w w' : World} {lo g cap : Nat} {L : List T} (h : Rw w lo g cap L) (f : Fr S w w') (hs : ¬ S g) : Rw w' lo g cap L :=
  owns_fr h f fun g' hg' => by simp [Value.ownBlock] at hg'; subst hg'; exact hs

theorem Rw.set {w : World} {lo g cap : Nat} {L : List T} (h : Rw w lo g cap L) {j : Nat} (hj : j < L.length) (k n : Int) (s : ByteArray) (A : Option Addr) (c : Nat) (l : List T) (r : Int) :
    Rw (five w g (j * 5) k n s A l.length c r) lo g cap (L.set j (T.mk k n s A c l r)) := by
  have h1 := owns_set5 h rfl hj k n s A c l r
  unfold Rw
  rw [List.length_set]
  exact h1

/-- Where the exchange of two pieces stands. -/
def exch (X A Y B Z : List T) (i : Nat) : List T := X ++ B.take i ++ A.drop i ++ Y ++ A.take i ++ B.drop i ++ Z

theorem exch_zero (X A Y B Z : List T) : exch X A Y B Z 0 = X ++ A ++ Y ++ B ++ Z := by simp [exch]
theorem exch_all (X A Y B Z : List T) (n : Nat) (hA : A.length = n) (hB : B.length = n) : exch X A Y B Z n = X ++ B ++ Y ++ A ++ Z := by
  rw [exch, List.take_of_length_le (by omega), List.take_of_length_le (by omega), List.drop_of_length_le (by omega), List.drop_of_length_le (by omega)]
  simp
theorem exch_length (X A Y B Z : List T) (i : Nat) : (exch X A Y B Z i).length = (X ++ A ++ Y ++ B ++ Z).length := by
  simp [exch]; omega

theorem exch_step (X A Y B Z : List T) (n i : Nat) (hA : A.length = n) (hB : B.length = n) (hi : i < n) :
    (exch X A Y B Z i)[X.length + i]? = some (A[i]'(by omega)) ∧ (exch X A Y B Z i)[X.length + n + Y.length + i]? = some (B[i]'(by omega)) ∧
      swp (exch X A Y B Z i) (X.length + i) (X.length + n + Y.length + i) = exch X A Y B Z (i + 1) := by
  have hAi : A.drop i = A[i]'(by omega) :: A.drop (i + 1) := List.drop_eq_getElem_cons (by omega)
  have hBi : B.drop i = B[i]'(by omega) :: B.drop (i + 1) := List.drop_eq_getElem_cons (by omega)
  have hta : A.take (i + 1) = A.take i ++ [A[i]'(by omega)] := List.take_succ_eq_append_getElem (by omega)
  have htb : B.take (i + 1) = B.take i ++ [B[i]'(by omega)] := List.take_succ_eq_append_getElem (by omega)
  have e : exch X A Y B Z i = (X ++ B.take i) ++ A[i]'(by omega) :: (A.drop (i + 1) ++ Y ++ A.take i) ++ B[i]'(by omega) :: (B.drop (i + 1) ++ Z) := by
    rw [exch, hAi, hBi]; simp only [List.append_assoc, List.cons_append, List.nil_append]
  have l1 : (X ++ B.take i).length = X.length + i := by simp; omega
  have l2 : (A.drop (i + 1) ++ Y ++ A.take i).length = n - 1 + Y.length := by simp; omega
  have hm := swp_mid (X ++ B.take i) (A.drop (i + 1) ++ Y ++ A.take i) (B.drop (i + 1) ++ Z) (A[i]'(by omega)) (B[i]'(by omega))
  rw [l1, l2, show X.length + i + 1 + (n - 1 + Y.length) = X.length + n + Y.length + i by omega] at hm
  refine ⟨?_, ?_, ?_⟩
  · rw [e, ← l1]; simp
  · rw [e, List.getElem?_append_right (by simp; omega)]
    have : X.length + n + Y.length + i - ((X ++ B.take i) ++ A[i]'(by omega) :: (A.drop (i + 1) ++ Y ++ A.take i)).length = 0 := by simp; omega
    rw [this]; simp
  · rw [e, hm, exch, hta, htb]; simp only [List.append_assoc, List.cons_append, List.nil_append]

end Go.Proofs.Ytihjmipmjogpoaa

/- Chapter 2: slices.swapRangeCmpFunc on a row of values: the walk. -/
namespace Go.Proofs.Ytihjmipmjogpoaa
open Go.RowKit

set_option maxRecDepth 100000 in
set_option maxHeartbeats 4000000 in
theorem swapRange_any (fv : Value) (X A Y B Z : List T) (n : Nat) (hA : A.length = n) (hB : B.length = n) (w : World) (lo g cap : Nat) (N : Nat) (hN : (X ++ A ++ Y ++ B ++ Z).length = N) (hN2 : N ≤ 1000000) (h : Rw w lo g cap (X ++ A ++ Y ++ B ++ Z)) :
    Calls Try.prog 162 #[.slice (some ⟨g, 0, none⟩) N cap, .int .i64 (X.length : Int), .int .i64 ((X.length + n + Y.length : Nat) : Int), .int .i64 (n : Int), fv] w fun e w' => (∃ v, e = .returned v) ∧ Rw w' lo g cap (X ++ B ++ Y ++ A ++ Z) ∧ Fr (fun i => i = g) w w' := by
  have hsum : X.length + n + Y.length + n ≤ N := by simp at hN; omega
  have hni : (n : Int) ≤ 1000000 := by omega
  have H := hide h
  clear h
  go_enter Try.func162, Try.ntmps162
  go_wp2_with fail
  go_loopw [10] (fun i wr => ∃ j : Nat, j ≤ n ∧ i = .int .i64 j ∧ Rw wr lo g cap (exch X A Y B Z j) ∧ Fr (fun i => i = g) w wr) (fun i _ => n - (intOf i).toNat)
  case atStart => exact ⟨0, Nat.zero_le _, rfl, by rw [exch_zero]; exact H.out, Fr.refl _ _⟩
  case round =>
    obtain ⟨j, hj, rfl, hr, fr⟩ := hrel
    by_cases hlt : j < n
    · obtain ⟨ha, hb, hs⟩ := exch_step X A Y B Z n j hA hB hlt
      have hle : (exch X A Y B Z j).length = N := by rw [exch_length, hN]
      generalize hLL : exch X A Y B Z j = L at *
      generalize A[j]'(by omega) = ta at *
      generalize B[j]'(by omega) = tb at *
      obtain ⟨k1, n1, s1, A1, c1, l1, r1⟩ := ta
      obtain ⟨k2, n2, s2, A2, c2, l2, r2⟩ := tb
      have hr1 := hr
      unfold Rw at hr1
      rw [hle] at hr1
      obtain ⟨p0, p1, p2, p3, p4, pf, pl⟩ := owns_five hr1 ha
      obtain ⟨q0, q1, q2, q3, q4, qf, ql⟩ := owns_five hr1 hb
      have hs' := swp_eq ha hb
      rw [hs] at hs'
      generalize hi : X.length + j = i1 at *
      generalize hi2 : X.length + n + Y.length + j = i2 at *
      have hi1 : i1 < N := by omega
      have hi2' : i2 < N := by omega
      have h12 : i1 < i2 := by omega
      have hc1 : (X.length : Int) + (j : Int) = (i1 : Int) := by omega
      have hc2 : ((X.length + n + Y.length : Nat) : Int) + (j : Int) = (i2 : Int) := by omega
      have hb1 : (i1 : Int) ≤ 1000000 := by omega
      have hb2 : (i2 : Int) ≤ 1000000 := by omega
      have hg1 : ¬ N ≤ i1 := by omega
      have hg2 : ¬ N ≤ i2 := by omega
      have HR := hide hr
      have HF := hide fr
      have HS := hide hs'
      have HLE := hide hle
      clear hr fr hs hs' hr1 ha hb hle hi hi2
      generalize ((X.length + n + Y.length : Nat) : Int) = bb at *
      go_wp2_with fail
      go_region
      all_goals
        go_wp2
        go_roundw
        case rel =>
          refine ⟨j + 1, hlt, by go_num, ?_, ?_⟩
          · rw [HS.out]
            have h1 := Rw.set HR.out (j := i1) (by rw [HLE.out]; exact hi1) k2 n2 s2 A2 c2 l2 r2
            have h2 := Rw.set h1 (j := i2) (by rw [List.length_set, HLE.out]; exact hi2') k1 n1 s1 A1 c1 l1 r1
            exact h2.fr (Fr.drew (Fr.refl No _)) (fun h => h)
          · have f1 := five_fr wr g (i1 * 5) k2 n2 s2 A2 l2.length c2 r2
            exact Fr.drew ((HF.out.trans f1).trans (five_fr _ g (i2 * 5) k1 n1 s1 A1 l1.length c1 r1))
        case measure => simp [intOf]; omega
    · obtain rfl : j = n := by omega
      rw [exch_all X A Y B Z j hA hB] at hr
      have HR := hide hr
      have HF := hide fr
      clear hr fr
      go_wp2
      go_end0
      exact ⟨⟨_, rfl⟩, HR.out, HF.out⟩

end Go.Proofs.Ytihjmipmjogpoaa

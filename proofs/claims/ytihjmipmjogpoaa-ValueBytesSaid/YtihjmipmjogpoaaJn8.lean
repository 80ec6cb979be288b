/- Texts joined: P2, P7, A2, B6. -/
import Derived.Test.YtihjmipmjogpoaaJn7
import Derived.Deep.RegionLaw
import Derived.Laws.AppendOwnNone
/- Chapter 2: the law's own lent: a value in lists of its own, each with a mark in its spare room. -/
namespace Go.Proofs.Ytihjmipmjogpoaa
open Go.RowKit

/-- Each list has a mark behind its last part. -/
def T.Mk (w : World) : T → Prop
  | .mk _ _ _ A cap l _ => (l ≠ [] → ∃ b o, A = some ⟨b, o, none⟩ ∧ l.length + 1 ≤ cap ∧ w.cell? ⟨b, o + l.length * 5 + 1, none⟩ = some (.int .i64 77)) ∧ ∀ x ∈ l, T.Mk w x
termination_by t => t

theorem T.mk_mk {w : World} {k n : Int} {s : ByteArray} {A : Option Addr} {cap : Nat} {l : List T} {r : Int} :
    (T.mk k n s A cap l r).Mk w ↔ (l ≠ [] → ∃ b o, A = some ⟨b, o, none⟩ ∧ l.length + 1 ≤ cap ∧ w.cell? ⟨b, o + l.length * 5 + 1, none⟩ = some (.int .i64 77)) ∧ ∀ x ∈ l, x.Mk w := by
  rw [T.Mk]

theorem T.mem_blocks {k n : Int} {s : ByteArray} {b o cap : Nat} {l : List T} {r : Int} (hl : l ≠ []) : b ∈ (T.mk k n s (some ⟨b, o, none⟩) cap l r).blocks := by
  rw [T.blocks_mk]
  cases l with
  | nil => exact absurd rfl hl
  | cons x l => simp

theorem T.sub_blocks {k n : Int} {s : ByteArray} {A : Option Addr} {cap : Nat} {l : List T} {r : Int} {x : T} (hx : x ∈ l) {b : Nat} (hb : b ∈ x.blocks) : b ∈ (T.mk k n s A cap l r).blocks := by
  rw [T.blocks_mk]
  exact List.mem_append_right _ (List.mem_flatten.2 ⟨_, List.mem_map_of_mem hx, hb⟩)

theorem T.Mk.fr {S : Nat → Prop} {w w' : World} {lo hi : Nat} (hf : Fr S w w') (hh : hi ≤ w.heap.size) (t : T) : t.In w lo hi → (∀ b ∈ t.blocks, ¬ S b) → t.Mk w → t.Mk w' := by
  induction t using T.ind with
  | h k n s A cap l r ih =>
    intro hi' hs
    rw [T.mk_mk, T.mk_mk]
    rintro ⟨h1, h2⟩
    refine ⟨fun hl => ?_, fun x hx => ih x hx ((T.in_mk.1 hi').2.2 x hx) (fun b hb => hs b (T.sub_blocks hx hb)) (h2 x hx)⟩
    obtain ⟨b, o, rfl, hc, h3⟩ := h1 hl
    have hb := T.mem_blocks (k := k) (n := n) (s := s) (b := b) (o := o) (cap := cap) (r := r) hl
    exact ⟨b, o, rfl, hc, (hf.cell (by have := T.In.blocks _ hi' b hb; omega) (hs b hb)).trans h3⟩

theorem T.Mk.no {w w' : World} {lo hi : Nat} (hf : Fr No w w') (hh : hi ≤ w.heap.size) {t : T} (hi' : t.In w lo hi) (h : t.Mk w) : t.Mk w' := T.Mk.fr hf hh t hi' (fun _ _ h => h) h

theorem In.fr_blocks {S : Nat → Prop} {w w' : World} {lo hi : Nat} (hf : Fr S w w') (hh : hi ≤ w.heap.size) (t : T) : (∀ b ∈ t.blocks, ¬ S b) → t.In w lo hi → t.In w' lo hi := by
  induction t using T.ind with
  | h k n s A cap l r ih =>
    intro hs
    rw [T.in_mk, T.in_mk]
    rintro ⟨h1, h2, h3⟩
    refine ⟨h1, fun hl => ?_, fun x hx => ih x hx (fun b hb => hs b (T.sub_blocks hx hb)) (h3 x hx)⟩
    obtain ⟨b, o, rfl, hb0, hb1, hc⟩ := h2 hl
    exact ⟨b, o, rfl, hb0, hb1, fun i x hx j u hu => (hf.cell (by omega) (hs b (T.mem_blocks hl))).trans (hc i x hx j u hu)⟩

/-- What lent gives. -/
def LentP (v : V) (w : World) (e : Ending) (w' : World) : Prop :=
  ∃ t' : T, e = .returned t'.val ∧ t'.v = v ∧ t'.In w' w.heap.size w'.heap.size ∧ t'.Mk w' ∧ Fr No w w'

/-- Where its loop stands. -/
structure LentInv (w : World) (X : Array Value) (k n : Int) (s : ByteArray) (r : Int) (l : List T) (j : Nat) (A : Option Addr) (cap : Nat) (l' : List T) (wr : World) : Prop where
  len : l'.length = j
  vs : l'.map T.v = (l.take j).map T.v
  fr : Fr No w wr
  b0 : Blk wr w.heap.size 27 X
  b1 : Blk wr (w.heap.size + 1) 27 #[.int .u8 0, .int .i64 0, .string ⟨#[]⟩, .slice none 0 0, .int .i64 0]
  b2 : Blk wr (w.heap.size + 1 + 1) 27 #[.int .u8 k, .int .i64 n, .string s, .slice A j cap, .int .i64 r]
  own : wr.ownsRow (w.heap.size + 3) 27 5 (.slice A j cap) j (rowCells l')
  inn : ∀ x ∈ l', x.In wr (w.heap.size + 3) wr.heap.size ∧ x.Mk wr
  sep : ∀ x ∈ l', ∀ b ∈ x.blocks, (Value.slice A j cap).ownBlock ≠ some b
  big : w.heap.size + 3 ≤ wr.heap.size

theorem lent_after {W0 w2 : World} {g base j : Nat} {a b c d e : Value} {v : Value} {xs : List Value} {m : Array Value} (hb : Blk W0 g 27 #[a, b, c, d, e]) (ho : W0.ownsRow base 27 5 v j xs) (fr : Fr No W0.drew w2) :
    (w2.alloc (.cells m 27)).ownsRow base 27 5 v j xs ∧ Blk (w2.alloc (.cells m 27)) g 27 #[a, b, c, d, e] ∧ w2.cell? ⟨g, 3, none⟩ = some d ∧ (w2.alloc (.cells m 27)).cell? ⟨g, 3, none⟩ = some d ∧ (w2.alloc (.cells m 27)).frozen? ⟨g, 3, none⟩ = false ∧ W0.heap.size ≤ w2.heap.size ∧ g < w2.heap.size := by
  have h1 : Blk w2 g 27 #[a, b, c, d, e] := Blk.fr (a := W0.drew) hb fr (fun h => h)
  have h2 := h1.alloc (.cells m 27)
  exact ⟨(owns_fr (a := W0.drew) ho fr fun _ _ h => h).alloc _, h2, h1.cell 3, h2.cell 3, h2.frozen 3, fr.size, h1.lt⟩

theorem lent_grown {W w3 : World} {g : Nat} {v d : Value} (hg : W.grownBy w3 v.ownBlock) (hc : W.cell? ⟨g, 3, none⟩ = some d) (hf : W.frozen? ⟨g, 3, none⟩ = false) (hlt : g < W.heap.size) (hne : some g ≠ v.ownBlock) :
    w3.cell? ⟨g, 3, none⟩ = some d ∧ w3.frozen? ⟨g, 3, none⟩ = false :=
  ⟨(hg.cell_far ⟨g, 3, none⟩ hlt hne).trans hc, (hg.frozen_far ⟨g, 3, none⟩ hlt hne).trans hf⟩

theorem T.cells_mk (k n : Int) (s : ByteArray) (A : Option Addr) (cap : Nat) (l : List T) (r : Int) : (T.mk k n s A cap l r).cells = [.int .u8 k, .int .i64 n, .string s, .slice A l.length cap, .int .i64 r] := rfl

theorem fr_grown {w w' : World} {row : Option Nat} (h : w.grownBy w' row) : Fr (fun i => some i = row) w w' := (Fr.refl _ w).grown h fun k hk _ => hk.symm

theorem owns_le {w : World} {base : Nat} {e : TypeId} {size : Nat} {A : Option Addr} {n cap : Nat} {xs : List Value} (h : w.ownsRow base e size (.slice A n cap) n xs) : n ≤ cap := by
  rcases h.2 with ⟨h, _⟩ | ⟨g, c, cur, h, _, _, hc, _⟩
  · simp at h; omega
  · simp at h; omega

theorem lent_push {w wr w2 w3 : World} {X : Array Value} {k n : Int} {s : ByteArray} {r : Int} {l : List T} {j : Nat} {A2 : Option Addr} {cap2 : Nat} {l' : List T} {t' : T} {g cp : Nat} (inv : LentInv w X k n s r l j A2 cap2 l' wr) (hlt : j < l.length) (hv : t'.v = l[j].v)
    (hin : t'.In w2 wr.heap.size w2.heap.size) (hmk : t'.Mk w2) (f1 : Fr No wr.drew w2) (hown : w3.ownsRow (w.heap.size + 3) 27 5 (.slice (some ⟨g, 0, none⟩) (j + 1) cp) (j + 1) (rowCells l' ++ t'.cells))
    (hgrow : (w2.alloc (.cells t'.cells.toArray 27)).grownBy w3 (Value.slice A2 j cap2).ownBlock) (hat : (Value.slice A2 j cap2).ownBlock = some g ∨ g = w2.heap.size + 1) :
    LentInv w X k n s r l (j + 1) (some ⟨g, 0, none⟩) cp (l' ++ [t']) (w3.setCell ⟨w.heap.size + 1 + 1, 3, none⟩ (.slice (some ⟨g, 0, none⟩) (j + 1) cp)) := by
  have big := inv.big
  have hol := inv.own.lt
  have hs2 : wr.heap.size ≤ w2.heap.size := f1.size
  have hs3 : w2.heap.size + 1 ≤ w3.heap.size := by have := hgrow.size; simpa using this
  have F2 : Fr (fun i => some i = (Value.slice A2 j cap2).ownBlock ∨ i = w.heap.size + 1 + 1) w2 (w3.setCell ⟨w.heap.size + 1 + 1, 3, none⟩ (.slice (some ⟨g, 0, none⟩) (j + 1) cp)) :=
    ((((Fr.refl No w2).alloc (.cells t'.cells.toArray 27)).no).trans' (fr_grown hgrow) (fun i _ h => .inl h)).set (fun _ => .inr rfl) _
  have F1 : Fr (fun i => some i = (Value.slice A2 j cap2).ownBlock ∨ i = w.heap.size + 1 + 1) wr (w3.setCell ⟨w.heap.size + 1 + 1, 3, none⟩ (.slice (some ⟨g, 0, none⟩) (j + 1) cp)) :=
    ((Fr.refl _ wr).drew.thenNo f1).trans F2
  have hgl := (owns_lt hown g rfl)
  have hn0 : ∀ i, i < w.heap.size + 3 → ¬ some i = (Value.slice A2 j cap2).ownBlock := fun i hi h => by have := hol i h.symm; omega
  refine ⟨by simp [inv.len], ?_, inv.fr.trans' F1 (fun i hi h => ?_), inv.b0.fr F1 ?_, inv.b1.fr F1 ?_, ?_, ?_, ?_, ?_, ?_⟩
  · rw [List.map_append, inv.vs, List.take_succ_eq_append_getElem hlt, List.map_append, List.map_singleton, List.map_singleton, hv]
  · rcases h with h | h
    · exact hn0 i (by omega) h
    · omega
  · rintro (h | h)
    · exact hn0 _ (by omega) h
    · omega
  · rintro (h | h)
    · exact hn0 _ (by omega) h
    · omega
  · have F3 : Fr (fun i => some i = (Value.slice A2 j cap2).ownBlock) wr w3 :=
      ((((Fr.refl _ wr).drew.thenNo f1).alloc (.cells t'.cells.toArray 27))).trans' (fr_grown hgrow) (fun i _ h => h)
    have := (inv.b2.fr F3 (hn0 _ (by omega))).set_ 3 (.slice (some ⟨g, 0, none⟩) (j + 1) cp)
    simpa using this
  · rw [rowCells_snoc]
    exact owns_fr hown ((Fr.refl (fun i => i = w.heap.size + 1 + 1) w3).set (fun _ => rfl) _) (fun i hi h => by
      simp [Value.ownBlock] at hi
      have h' : i = w.heap.size + 1 + 1 := h
      omega)
  · intro x hx
    have hsz := F1.size
    have hsz2 := F2.size
    rcases List.mem_append.1 hx with hx | hx
    · obtain ⟨h1, h2⟩ := inv.inn x hx
      have hb : ∀ b ∈ x.blocks, ¬ (some b = (Value.slice A2 j cap2).ownBlock ∨ b = w.heap.size + 1 + 1) := fun b hb h => by
        rcases h with h | h
        · exact inv.sep x hx b hb h.symm
        · have := T.In.blocks x h1 b hb; omega
      exact ⟨T.In.more (Nat.le_refl _) hsz x (In.fr_blocks F1 (Nat.le_refl _) x hb h1), T.Mk.fr F1 (Nat.le_refl _) x h1 hb h2⟩
    · simp at hx; subst hx
      have hb : ∀ b ∈ x.blocks, ¬ (some b = (Value.slice A2 j cap2).ownBlock ∨ b = w.heap.size + 1 + 1) := fun b hb h => by
        have h3 := T.In.blocks x hin b hb
        rcases h with h | h
        · have := hol b h.symm; omega
        · omega
      exact ⟨T.In.more (by omega) hsz2 x (In.fr_blocks F2 (Nat.le_refl _) x hb hin), T.Mk.fr F2 (Nat.le_refl _) x hin hb hmk⟩
  · intro x hx b hb h
    simp [Value.ownBlock] at h
    subst h
    rcases List.mem_append.1 hx with hx | hx
    · rcases hat with h | h
      · exact inv.sep x hx _ hb h
      · have := T.In.blocks x (inv.inn x hx).1 _ hb; omega
    · simp at hx; subst hx
      have h3 := T.In.blocks x hin _ hb
      rcases hat with h | h
      · have := hol _ h; omega
      · omega
  · have := F1.size; omega

theorem lent_end {w wr W : World} {X : Array Value} {k n : Int} {s : ByteArray} {r : Int} {l : List T} {A2 : Option Addr} {cap2 : Nat} {l' : List T} {g cp : Nat} {w2 w3 : World} {m : Array Value} (inv : LentInv w X k n s r l l.length A2 cap2 l' wr) (hl : l.length * 64 ≤ 140737488351232)
    (fit : 0 ≤ k ∧ k < 256 ∧ -9223372036854775808 ≤ n ∧ n ≤ 9223372036854775807 ∧ s.size ≤ 140737488351232 ∧ -9223372036854775808 ≤ r ∧ r ≤ 9223372036854775807) (f1 : Fr No wr.drew w2)
    (hown : w3.ownsRow (w.heap.size + 3) 27 5 (.slice (some ⟨g, 0, none⟩) (l.length + 1) cp) (l.length + 1) (rowCells l' ++ [.int .u8 1, .int .i64 77, .string ⟨#[]⟩, .slice none 0 0, .int .i64 0]))
    (hgrow : (w2.alloc (.cells m 27)).grownBy w3 (Value.slice A2 l.length cap2).ownBlock) (hat : (Value.slice A2 l.length cap2).ownBlock = some g ∨ g = w2.heap.size + 1)
    (hW : Fr (fun i => i = w.heap.size + 1 ∨ i = w.heap.size + 1 + 1) w3 W) :
    (T.mk k n s (some ⟨g, 0, none⟩) cp l' r).v = .mk k n s (l.map T.v) r ∧ (T.mk k n s (some ⟨g, 0, none⟩) cp l' r).In W w.heap.size W.heap.size ∧ (T.mk k n s (some ⟨g, 0, none⟩) cp l' r).Mk W ∧ Fr No w W := by
  have big := inv.big
  have hol := inv.own.lt
  have hle := inv.len
  have hs2 : wr.heap.size ≤ w2.heap.size := f1.size
  have hs3 : w2.heap.size + 1 ≤ w3.heap.size := by have := hgrow.size; simpa using this
  have F2 : Fr (fun i => some i = (Value.slice A2 l.length cap2).ownBlock ∨ (i = w.heap.size + 1 ∨ i = w.heap.size + 1 + 1)) wr W :=
    (((((Fr.refl _ wr).drew.thenNo f1).alloc (.cells m 27))).trans' (fr_grown hgrow) (fun i _ h => .inl h)).trans' hW (fun i _ h => .inr h)
  have hgl := (owns_lt hown g rfl)
  have hcp := owns_le hown
  have hown2 := owns_fr hown hW (fun i hi h => by
    simp [Value.ownBlock] at hi
    have h' : i = w.heap.size + 1 ∨ i = w.heap.size + 1 + 1 := h
    omega)
  have hcell : ∀ i u, (rowCells l' ++ [.int .u8 1, .int .i64 77, .string ⟨#[]⟩, .slice none 0 0, .int .i64 0])[i]? = some u → W.cell? ⟨g, 0 + i, none⟩ = some u := fun i u hu => by
    have := World.ownsRow.cells hown2 (g := g) rfl i u hu
    rwa [add_at] at this
  have hrl := rowCells_length l'
  have hin : ∀ x ∈ l', x.In W w.heap.size W.heap.size ∧ x.Mk W := fun x hx => by
    obtain ⟨h1, h2⟩ := inv.inn x hx
    have hb : ∀ b ∈ x.blocks, ¬ (some b = (Value.slice A2 l.length cap2).ownBlock ∨ (b = w.heap.size + 1 ∨ b = w.heap.size + 1 + 1)) := fun b hb h => by
      have := T.In.blocks x h1 b hb
      rcases h with h | h
      · exact inv.sep x hx b hb h.symm
      · omega
    exact ⟨T.In.more (by omega) F2.size x (In.fr_blocks F2 (Nat.le_refl _) x hb h1), T.Mk.fr F2 (Nat.le_refl _) x h1 hb h2⟩
  refine ⟨?_, T.in_mk.2 ⟨⟨fit.1, fit.2.1, fit.2.2.1, fit.2.2.2.1, fit.2.2.2.2.1, by omega, by omega, fit.2.2.2.2.2.1, fit.2.2.2.2.2.2⟩, fun hne => ⟨g, 0, rfl, by omega, by have := hW.size; omega, fun i x hx c u hu => ?_⟩, fun x hx => (hin x hx).1⟩, T.mk_mk.2 ⟨fun hne => ⟨g, 0, rfl, by omega, ?_⟩, fun x hx => (hin x hx).2⟩, inv.fr.trans' F2 (fun i hi h => ?_)⟩
  · rw [T.v_mk, inv.vs, List.take_of_length_le (Nat.le_refl _)]
  · have h1 := rowCells_get l' i c x u hx hu
    have h2 := hcell (i * 5 + c) u (by rw [List.getElem?_append_left (List.getElem?_eq_some_iff.1 h1).1]; exact h1)
    rwa [← Nat.add_assoc] at h2
  · have h2 := hcell (l'.length * 5 + 1) (.int .i64 77) (by rw [List.getElem?_append_right (by omega), hrl, show l'.length * 5 + 1 - l'.length * 5 = 1 by omega]; rfl)
    rwa [← Nat.add_assoc] at h2
  · rcases h with h | h
    · have := hol i h.symm; omega
    · omega

set_option maxRecDepth 100000 in
set_option maxHeartbeats 8000000 in
theorem lent_any (t : T) : ∀ (w : World) (lo hi : Nat), t.In w lo hi → hi ≤ w.heap.size → Calls Try.prog 40 #[t.val] w (LentP t.v w) := by
  induction t using T.ind with
  | h k n s A cap l r ih =>
    intro w lo hi ht hh
    rw [T.val_mk]
    have fit := (T.in_mk.1 ht).1
    have hlen := fit.len1
    obtain ⟨i0, hi0, hz0, hz1, hz2⟩ := info_parts value_info
    have hmk := fun W => run_make_rowN (P := Try.prog) 24 27 i0 _ Try.underlying24 hi0 hz0 .i64 .i64 0 (l.length + 1) (by omega) (by rw [hz2]; omega) (by omega) W
    rw [hz1] at hmk
    have hmk : ∀ W, (Instr.makeSlice 24 (.int .i64 0) (.int .i64 ((l.length : Int) + 1))).run Try.prog W = .ok (.slice (some ⟨W.heap.size, 0, none⟩) 0 (l.length + 1)) (W.alloc (.cells (madeCells (Value.agg #[.int .u8 0, .int .i64 0, .string ⟨#[]⟩, .slice none 0 0, .int .i64 0]).cells ((l.length + 1) * 5)) 27)) := hmk
    by_cases hl : l.length = 0
    · have hl0 : ((l.length : Int) == 0) = true := by simp [hl]
      obtain rfl : l = [] := List.eq_nil_of_length_eq_zero hl
      clear hmk ih
      go_enter Try.func40, Try.ntmps40
      go_wp2
      refine bodyPost_ret (v := .agg #[.int .u8 k, .int .i64 n, .string s, .slice A 0 cap, .int .i64 r]) (by simp [results, Try.results40, go_sem]) rfl ?_
      refine ⟨T.mk k n s A cap [] r, rfl, by simp [T.v_mk], T.in_mk.2 ⟨fit, fun h => absurd rfl h, by simp⟩, T.mk_mk.2 ⟨fun h => absurd rfl h, by simp⟩, ?_⟩
      repeat (first | with_reducible exact Fr.refl No w | with_reducible refine Fr.setNew ?_ (by first | (simp; done) | (simp; omega)) _ | with_reducible refine Fr.alloc ?_ _)
    · have hl0 : ((l.length : Int) == 0) = false := by simp; intro h; subst h; simp at hl
      have hl1 : (0 : Int) < (l.length : Int) := by omega
      go_enter Try.func40, Try.ntmps40
      go_wp2_with fail
      go_loopw [4] (fun i wr => ∃ (j : Nat) (A2 : Option Addr) (cap2 : Nat) (l' : List T), j ≤ l.length ∧ i = .int .i64 j ∧
          LentInv w #[.int .u8 k, .int .i64 n, .string s, .slice A l.length cap, .int .i64 r] k n s r l j A2 cap2 l' wr)
        (fun i _ => l.length - (intOf i).toNat)
      case atStart =>
        refine ⟨0, some ⟨w.heap.size + 1 + 1 + 1, 0, none⟩, l.length + 1, [], Nat.zero_le _, rfl, rfl, by simp, (((((Fr.refl No w).alloc _).alloc _).alloc _).alloc _), (((Blk.new' w 27 _ rfl).alloc _).alloc _).alloc _, ((Blk.new' (w.alloc _) 27 _ (by simp)).alloc _).alloc _,
          (Blk.new' ((w.alloc _).alloc _) 27 _ (by simp)).alloc _, ?_, by simp, by simp, by simp⟩
        have := World.ownsRow_made (base := w.heap.size + 3) (e := 27) (size := 5) (((w.alloc (.cells #[.int .u8 k, .int .i64 n, .string s, .slice A l.length cap, .int .i64 r] 27)).alloc (.cells #[.int .u8 0, .int .i64 0, .string ⟨#[]⟩, .slice none 0 0, .int .i64 0] 27)).alloc (.cells #[.int .u8 k, .int .i64 n, .string s, .slice (some ⟨w.heap.size + 1 + 1 + 1, 0, none⟩) 0 (l.length + 1), .int .i64 r] 27)) (madeCells #[.int .u8 0, .int .i64 0, .string ⟨#[]⟩, .slice none 0 0, .int .i64 0] ((l.length + 1) * 5)) (l.length + 1) (by simp) (by unfold maxLen; omega) (size_madeCells _ _)
        simp only [World.size_alloc] at this
        exact this
      case round =>
        obtain ⟨j, A2, cap2, l', hj, rfl, inv⟩ := hrel
        have fr := inv.fr
        have big := inv.big
        have own := inv.own
        have hsep0 : (Value.slice A2 j cap2).ownBlock ≠ some (w.heap.size + 1 + 1) := fun h => by have := own.lt _ h; omega
        obtain ⟨c0, c1, c2, c3, c4, cf⟩ := inv.b2.cells5
        obtain ⟨d0, d1, d2, d3, d4, df⟩ := inv.b0.cells5
        by_cases hlt : j < l.length
        · obtain ⟨b, o, k1, n1, s1, A1, cap1, l1, r1, rfl, hb0, hb1, hx, hin, e0, e1, e2, e3, e4⟩ := T.elem (ht.no fr hh) hlt
          have IH := ih l[j] (List.getElem_mem hlt)
          rw [hx] at IH
          have HX := hide hx
          rw [T.val_mk] at IH
          have hh0 : hi ≤ wr.heap.size := by omega
          have IH2 := IH wr.drew lo hi (hin.no ((Fr.refl No wr).drew) hh0) hh0
          have HIH := hide IH2
          have HI := hide inv
          have HB2 := hide inv.b2
          have HO := hide own
          have g0 : b < wr.heap.size := by omega
          have g1 : w.heap.size < wr.heap.size := by omega
          have g2 : w.heap.size + 1 + 1 < wr.heap.size := by omega
          have hv0' : some (w.heap.size + 1 + 1) ≠ (Value.slice A2 j cap2).ownBlock := Ne.symm hsep0
          have HH := hide hh
          clear hx ih inv ht hmk IH IH2 fr own hin hh
          go_wp2_with fail
          go_region_law (first
            | ((refine step_append_lies _ (by rfl) _ _ _ (by rfl) (w.heap.size + 3) 27 i0 _ 5 64 Try.underlying24 hi0 hz0 hz1 hz2 rfl (by omega) (.slice A2 j cap2) j (rowCells l') (by rfl) ownD ⟨w2.heap.size, 0, none⟩ 1 1 [.int .u8 k5, .int .i64 n5, .string s5, .slice A5 l5.length cap5, .int .i64 r5] (by rfl) (by rfl) (World.news_of_block (Blk.new w2 27 _)) (by simp [Value.oneCell']) (by omega) (by unfold maxLen; omega) (by omega) (by simp; omega) _ rfl ?_); intro g cp w3 hown3 hgrow hat hlt3; obtain ⟨c5, f5⟩ := lent_grown hgrow c4D f4D (by simp; omega) hv0')
            | (go_simp; go_at_call 40; (with_reducible refine HIH.out.mono ?_); rintro e w2 ⟨⟨k5, n5, s5, A5, cap5, l5, r5⟩, rfl, hv5, hin5, hmk5, fr1⟩; rw [T.val_mk]; obtain ⟨ownD, bD, c3D, c4D, f4D, hsz2, hlt2⟩ := lent_after (m := #[.int .u8 k5, .int .i64 n5, .string s5, .slice A5 l5.length cap5, .int .i64 r5]) HB2.out HO.out fr1))
          all_goals
            go_wp2
            go_roundw
            case rel =>
              exact ⟨j + 1, _, _, _, hlt, by go_num, lent_push HI.out hlt (hv5.trans (congrArg T.v HX.out).symm) hin5 hmk5 fr1 hown3 hgrow (by simpa using hat)⟩
            case measure => simp [intOf]; omega
        · obtain rfl : l.length = j := by omega
          have HI := hide inv
          have HB2 := hide inv.b2
          have HB1 := hide inv.b1
          have HO := hide own
          have g1 : w.heap.size < wr.heap.size := by omega
          have g2 : w.heap.size + 1 + 1 < wr.heap.size := by omega
          have hv0' : some (w.heap.size + 1 + 1) ≠ (Value.slice A2 l.length cap2).ownBlock := Ne.symm hsep0
          clear ih inv ht hmk fr own hh
          go_wp2_with fail
          go_region_law (first
            | ((refine step_append_lies _ (by rfl) _ _ _ (by rfl) (w.heap.size + 3) 27 i0 _ 5 64 Try.underlying24 hi0 hz0 hz1 hz2 rfl (by omega) (.slice A2 l.length cap2) l.length (rowCells l') (by rfl) ownD ⟨w2.heap.size, 0, none⟩ 1 1 [.int .u8 1, .int .i64 77, .string ⟨#[]⟩, .slice none 0 0, .int .i64 0] (by rfl) (by rfl) (World.news_of_block (Blk.new w2 27 _)) (by simp [Value.oneCell']) (by omega) (by unfold maxLen; omega) (by omega) (by simp; omega) _ rfl ?_); intro g cp w3 hown3 hgrow hat hlt3; obtain ⟨c5, f5⟩ := lent_grown hgrow c4D f4D (by simp; omega) hv0')
            | (go_simp; go_at_call 79; (with_reducible refine (num2_any 77 _).mono ?_); rintro e w2 ⟨rfl, fr1⟩; obtain ⟨ownD, bD, c3D, c4D, f4D, hsz2, hlt2⟩ := lent_after (m := #[.int .u8 1, .int .i64 77, .string ⟨#[]⟩, .slice none 0 0, .int .i64 0]) HB2.out HO.out fr1))
          all_goals
            have F3 : Fr (fun i => some i = (Value.slice A2 l.length cap2).ownBlock) wr w3 :=
              ((((Fr.refl _ wr).drew.thenNo fr1).alloc (.cells #[.int .u8 1, .int .i64 77, .string ⟨#[]⟩, .slice none 0 0, .int .i64 0] 27))).trans' (fr_grown hgrow) (fun i _ h => h)
            have hn0 : ∀ i, i < w.heap.size + 3 → ¬ some i = (Value.slice A2 l.length cap2).ownBlock := fun i hi h => by have := HO.out.lt i h.symm; omega
            have B0 := HI.out.b0.fr F3 (hn0 _ (by omega))
            have B1 := HI.out.b1.fr F3 (hn0 _ (by omega))
            have B2 := HI.out.b2.fr F3 (hn0 _ (by omega))
            obtain ⟨x0, x1, x2, x3, x4, xf⟩ := B0.cells5
            obtain ⟨y0, y1, y2, y3, y4, yf⟩ := B1.cells5
            obtain ⟨z0, z1, z2, z3, z4, zf⟩ := B2.cells5
            have hcp := owns_le hown3
            have hcp2 : (l.length : Int) ≤ (cp : Int) := by omega
            have q0 := B0.lt
            have q1 := B1.lt
            have q2 := B2.lt
            have HOWN := hide hown3
            have HGR := hide hgrow
            have HAT := hide hat
            have HF1 := hide fr1
            clear F3 hn0 B0 B1 B2 hown3 hgrow hat fr1 hcp c0 c1 c2 c3 c4 cf d0 d1 d2 d3 d4 df c5 f5 c3D c4D f4D bD ownD
            go_wp2
            refine bodyPost_ret (v := .agg #[.int .u8 k, .int .i64 n, .string s, .slice (some ⟨g, 0, none⟩) l.length cp, .int .i64 r]) (by simp [results, Try.results40, go_sem, *]) rfl ?_
            generalize hW : World.setCell _ _ _ = W
            have hfr : Fr (fun i => i = w.heap.size + 1 ∨ i = w.heap.size + 1 + 1) w3 W := by
              rw [← hW]
              repeat (first | with_reducible exact Fr.refl _ w3 | with_reducible refine Fr.set ?_ (by simp) _)
            have hl' := HI.out.len
            obtain ⟨e1, e2, e3, e4⟩ := lent_end HI.out hlen ⟨fit.k0, fit.k1, fit.n0, fit.n1, fit.s1, fit.r0, fit.r1⟩ HF1.out HOWN.out HGR.out (by simpa using HAT.out) hfr
            exact ⟨T.mk k n s (some ⟨g, 0, none⟩) cp l' r, by rw [T.val_mk, hl'], by rw [e1, T.v_mk], e2, e3, e4⟩

end Go.Proofs.Ytihjmipmjogpoaa

/- Chapter 2: the document's answer: Deep, Refs. -/
namespace Go.Proofs.Ytihjmipmjogpoaa
open Go.RowKit

set_option maxRecDepth 100000 in
set_option maxHeartbeats 2000000 in
/-- The document's Deep. -/
theorem refDeep_any (t : T) : ∀ (w : World) (lo hi : Nat), t.In w lo hi → hi ≤ w.heap.size → t.v.dep ≤ 16 → Calls Try.prog 63 #[t.val] w fun e w' => e = .returned (.int .i64 (t.v.dep : Int)) ∧ Fr No w w' := by
  induction t using T.ind with
  | h k n s A cap l r ih =>
    intro w lo hi ht hh hd
    rw [T.val_mk]
    have fit := (T.in_mk.1 ht).1
    have hlen := fit.len1
    have hK := Blk.new' w 27 #[.int .u8 k, .int .i64 n, .string s, .slice A l.length cap, .int .i64 r] rfl
    have fr1 := (Fr.refl No w).alloc (.cells #[.int .u8 k, .int .i64 n, .string s, .slice A l.length cap, .int .i64 r] 27)
    by_cases h3 : k = 3
    case neg =>
      have h3' : (k != 3) = true := by simpa using h3
      have e : (T.mk k n s A cap l r).v.dep = 0 := by rw [T.v_mk, V.dep_mk, if_neg h3]
      rw [e]
      clear ih
      go_enter Try.func63, Try.ntmps63
      go_wp2
      go_ret
      exact ⟨rfl, fr1⟩
    subst h3
    have e : (T.mk 3 n s A cap l r).v.dep = top ((l.map T.v).map V.dep) + 1 := by rw [T.v_mk, V.dep_mk, if_pos rfl]; omega
    rw [e] at hd ⊢
    have hchild : ∀ x ∈ l, x.v.dep ≤ 15 := by
      intro x hx
      have := le_top (List.mem_map_of_mem (f := V.dep) (List.mem_map_of_mem (f := T.v) hx))
      omega
    clear e
    go_enter Try.func63, Try.ntmps63
    go_wp2_with fail
    go_loopw [3, 4, 5] (fun v i _ wr => ∃ j m : Nat, j ≤ l.length ∧ i = .int .i64 j ∧ v = .int .i64 (m : Int) ∧ m = top (((l.map T.v).map V.dep).take j) ∧ m ≤ 16 ∧ Fr No (w.alloc (.cells #[.int .u8 3, .int .i64 n, .string s, .slice A l.length cap, .int .i64 r] 27)) wr) (fun _ i _ _ => l.length - (intOf i).toNat)
    case atStart =>
      exact ⟨0, 0, Nat.zero_le _, rfl, rfl, by simp [top], by omega, Fr.refl _ _⟩
    case round =>
      obtain ⟨j, m, hj, rfl, rfl, hm, hm17, fr⟩ := hrel
      have frw := fr1.trans fr
      have HM := hide hm
      obtain ⟨c0, c1, c2, c3, c4, cf⟩ := (hK.fr fr fun h => h).cells5
      clear hm
      by_cases hlt : j < l.length
      · obtain ⟨b, o, k1, n1, s1, A1, cap1, l1, r1, rfl, hb0, hb1, hx, hin, e0, e1, e2, e3, e4⟩ := T.elem (ht.no frw hh) hlt
        have IH := ih l[j] (List.getElem_mem hlt)
        have hc := hchild l[j] (List.getElem_mem hlt)
        have hto := top_take_succ ((l.map T.v).map V.dep) j (by simpa using hlt)
        rw [List.getElem_map, List.getElem_map] at hto
        rw [hx] at IH hc hto
        rw [T.val_mk] at IH
        generalize (T.mk k1 n1 s1 A1 cap1 l1 r1).v = u at *
        have g0 : b < wr.heap.size := by have := frw.size; omega
        have IH2 := IH wr lo hi hin (by have := frw.size; omega) (by omega)
        have HIH := hide IH2
        have HF := hide fr
        have HT := hide hto
        clear hx ih fr frw fr1 hto hchild hin IH IH2
        generalize hq : u.dep = q at *
        have HQ := hide hq
        clear hq
        go_wp2_with fail
        refine HIH.out.mono ?_
        rintro e w2 ⟨rfl, fr2⟩
        have HF2 := hide fr2
        clear fr2
        by_cases hlt2 : m < q
        · go_wp2
          go_roundw
          case rel => exact ⟨j + 1, q, hlt, by go_num, rfl, by rw [HT.out, ← HM.out, Nat.max_eq_right (by omega)], by omega, HF.out.trans HF2.out⟩
          case measure => simp [intOf]; omega
        · go_wp2
          go_roundw
          case rel => exact ⟨j + 1, m, hlt, by go_num, rfl, by rw [HT.out, ← HM.out, Nat.max_eq_left (by omega)], by omega, HF.out.trans HF2.out⟩
          case measure => simp [intOf]; omega
      · obtain rfl : l.length = j := by omega
        have HW := hide frw
        clear ih
        have hm2 : m = top ((l.map T.v).map V.dep) := by rw [HM.out, List.take_of_length_le (by simp)]
        have HM2 := hide hm2
        clear hm2
        go_wp2
        go_ret
        exact ⟨by rw [← HM2.out]; rfl, HW.out⟩

/-- The references of a value, by the document. -/
def V.rf : V → List Int
  | .mk k _ _ l r => if k = 4 then [r] else (l.map V.rf).flatten
termination_by v => v
theorem V.rf_mk (k n : Int) (s : ByteArray) (l : List V) (r : Int) : (V.mk k n s l r).rf = if k = 4 then [r] else (l.map V.rf).flatten := by rw [V.rf]

theorem rf_walkL (l : List V) : ∀ (i : Nat) (p : List Int), (∀ v ∈ l, ∀ p, refsOf (v.walk p) = v.rf) → refsOf (walkL (l.map V.walk) i p) = (l.map V.rf).flatten := by
  induction l with
  | nil => intro i p _; rfl
  | cons x l ih =>
    intro i p h
    simp only [List.map_cons, walkL, refsOf_append, List.flatten_cons]
    rw [h x (by simp), ih (i + 1) p fun v hv => h v (by simp [hv])]

theorem rf_walk (v : V) : v.ok = true → ∀ p, refsOf (v.walk p) = v.rf := by
  induction v using V.ind with
  | h k n s l r ih =>
    intro hok p
    rw [V.ok_mk, Bool.and_eq_true, List.all_eq_true] at hok
    rw [V.walk_mk, V.rf_mk]
    simp only [refsOf]
    by_cases h4 : k = 4
    · obtain rfl : l = [] := List.eq_nil_of_length_eq_zero (fok_len (by omega) hok.1)
      simp [h4, walkL, refsOf]
    · rw [if_neg h4, if_neg h4, rf_walkL l 0 p fun v hv => ih v hv (hok.2 v hv)]

theorem refs_rf {v : V} (h : v.may = true) : v.refs = v.rf := by
  rw [V.refs, if_pos h, rf_walk v (may_ok h)]

theorem rf_length (v : V) : v.rf.length ≤ v.size := by
  induction v using V.ind with
  | h k n s l r ih =>
    rw [V.rf_mk, V.size_mk]
    split
    · simp
    · have : ((l.map V.rf).flatten).length ≤ (l.map V.size).sum := by
        rename_i h4
        clear h4
        induction l with
        | nil => simp
        | cons x l ih2 =>
          have h1 := ih x (by simp)
          have h2 := ih2 fun v hv => ih v (by simp [hv])
          simp only [List.map_cons, List.flatten_cons, List.length_append, List.sum_cons]
          omega
      omega

abbrev refCells (L : List Int) : List Value := L.map fun r => Value.int .i64 r

/-- What the document's Refs gives. -/
def RfP (L : List Int) (w : World) (e : Ending) (w' : World) : Prop :=
  ∃ v, e = .returned v ∧ w'.ownsRow w.heap.size 25 1 v L.length (refCells L) ∧ (L = [] → v = .slice none 0 0) ∧ Fr No w w'

set_option maxRecDepth 100000 in
set_option maxHeartbeats 4000000 in
theorem refRefs_any (t : T) : ∀ (w : World) (lo hi : Nat), t.In w lo hi → hi ≤ w.heap.size → t.v.size ≤ 1000000 → Calls Try.prog 62 #[t.val] w (RfP t.v.rf w) := by
  induction t using T.ind with
  | h k n s A cap l r ih =>
    intro w lo hi ht hh hsz
    rw [T.val_mk]
    have fit := (T.in_mk.1 ht).1
    have hlen := fit.len1
    have hK := Blk.new' w 27 #[.int .u8 k, .int .i64 n, .string s, .slice A l.length cap, .int .i64 r] rfl
    have fr1 := (Fr.refl No w).alloc (.cells #[.int .u8 k, .int .i64 n, .string s, .slice A l.length cap, .int .i64 r] 27)
    by_cases h4 : k = 4
    · subst h4
      have e : (T.mk 4 n s A cap l r).v.rf = [r] := by rw [T.v_mk, V.rf_mk, if_pos rfl]
      rw [e]
      have hB := Blk.new (w.alloc (.cells #[.int .u8 4, .int .i64 n, .string s, .slice A l.length cap, .int .i64 r] 27)) 25 #[.int .i64 r]
      have hP : RfP [r] w (.returned (.slice (some ⟨w.heap.size + 1, 0, none⟩) 1 1)) ((w.alloc (.cells #[.int .u8 4, .int .i64 n, .string s, .slice A l.length cap, .int .i64 r] 27)).alloc (.cells #[.int .i64 r] 25)) := by
        refine ⟨_, rfl, ⟨rfl, .inr ⟨w.heap.size + 1, 1, #[.int .i64 r], rfl, by omega, ?_, Nat.le_refl _, by unfold maxLen; omega, rfl, rfl⟩⟩, (fun h => by cases h), fr1.alloc _⟩
        rw [World.size_alloc] at hB
        exact hB
      have HP := hide hP
      clear ih hP hB
      go_enter Try.func62, Try.ntmps62
      go_wp2
      go_ret
      exact HP.out
    have h4' : (k == 4) = false := by simpa using h4
    have hrf : (T.mk k n s A cap l r).v.rf = ((l.map T.v).map V.rf).flatten := by rw [T.v_mk, V.rf_mk, if_neg h4]
    have hsize : (T.mk k n s A cap l r).v.size = 1 + ((l.map T.v).map V.size).sum := by rw [T.v_mk, V.size_mk]
    rw [hsize] at hsz
    have HRF := hide hrf
    clear hsize hrf
    obtain ⟨i0, hi0, hz0, hz1, hz2⟩ := info_parts ref_info
    go_enter Try.func62, Try.ntmps62
    go_wp2_with fail
    go_loopw [3, 4] (fun v i wr => ∃ (j : Nat) (A3 : Option Addr) (c3 : Nat) (L : List Int), j ≤ l.length ∧ i = .int .i64 j ∧ v = .slice A3 L.length c3 ∧ L = (((l.map T.v).take j).map V.rf).flatten ∧ wr.ownsRow (w.heap.size + 1) 25 1 v L.length (refCells L) ∧ (L = [] → v = .slice none 0 0) ∧ L.length ≤ (((l.map T.v).map V.size).take j).sum ∧ Fr No w wr ∧ Blk wr w.heap.size 27 #[.int .u8 k, .int .i64 n, .string s, .slice A l.length cap, .int .i64 r]) (fun _ i _ => l.length - (intOf i).toNat)
    case atStart =>
      exact ⟨0, none, 0, [], Nat.zero_le _, rfl, rfl, by simp, World.ownsRow_nil _ _ _ _, fun _ => rfl, by simp, fr1, hK⟩
    case round =>
      obtain ⟨j, A3, c3, L, hj, rfl, rfl, hL, own, hnil, hLs, fr, blk⟩ := hrel
      obtain ⟨c0, c1, c2, c3', c4, cf⟩ := blk.cells5
      have q0 := blk.lt
      have hts := sum_take_le ((l.map T.v).map V.size) j
      by_cases hlt : j < l.length
      · obtain ⟨b, o, k1, n1, s1, A1, cap1, l1, r1, rfl, hb0, hb1, hx, hin, e0, e1, e2, e3, e4⟩ := T.elem (ht.no fr hh) hlt
        have hto := sum_take_succ ((l.map T.v).map V.size) j (by simpa using hlt)
        have hts2 := sum_take_le ((l.map T.v).map V.size) (j + 1)
        rw [List.getElem_map, List.getElem_map, hx] at hto
        have hj' : j < (l.map T.v).length := by simpa using hlt
        have hap : (((l.map T.v).take (j + 1)).map V.rf).flatten = L ++ (T.mk k1 n1 s1 A1 cap1 l1 r1).v.rf := by
          rw [List.take_succ_eq_append_getElem hj', List.map_append, List.flatten_append, ← hL, List.getElem_map, hx]; simp
        have hrl := rf_length (T.mk k1 n1 s1 A1 cap1 l1 r1).v
        have IH := ih l[j] (List.getElem_mem hlt) wr lo hi (by rw [hx]; exact hin) (by have := fr.size; omega)
        rw [hx, T.val_mk] at IH
        generalize (T.mk k1 n1 s1 A1 cap1 l1 r1).v = u at *
        have IH2 := IH (by omega)
        have hus : u.size ≤ 1000000 := by omega
        have g0 : b < wr.heap.size := by have := fr.size; omega
        have HIH := hide IH2
        have HO := hide own
        have HF := hide fr
        have HB := hide blk
        have HN := hide hnil
        have HAP := hide hap
        have HTO := hide hto
        have HLS := hide hLs
        clear ih IH IH2 own fr blk hnil hap hto hL hx hin ht hLs hts2
        generalize hR : u.rf = R at *
        have HR := hide hR
        have hRl : R.length ≤ 1000000 := by omega
        have hLl : L.length ≤ 1000000 := by have := HLS.out; omega
        clear hR
        go_wp2_with fail
        refine HIH.out.mono ?_
        rintro e w2 ⟨vc, rfl, oc, hcn, f2⟩
        have hs2 := f2.size
        have hsw := HF.out.size
        have own2 := owns_fr HO.out f2 fun _ _ h => h
        have HF2 := hide f2
        have HB2 := hide (HB.out.fr f2 fun h => h)
        rcases List.eq_nil_or_concat R with rfl | ⟨R', x, hRe⟩
        · obtain rfl := hcn rfl
          clear hcn f2
          go_wp2_with (at_builtin; refine wpList_append_own_none (by rfl) _ _ _ (by rfl) (w.heap.size + 1) 25 i0 1 Try.underlying100 hi0 (.slice A3 L.length c3) L.length (refCells L) (by rfl) own2 (by rfl) ?_)
          go_roundw
          case rel => exact ⟨j + 1, A3, c3, L, hlt, by go_num, rfl, by rw [HAP.out]; simp, own2, HN.out, by rw [HTO.out]; have := HLS.out; omega, HF.out.trans HF2.out, HB2.out⟩
          case measure => simp [intOf]; omega
        · have hne : 0 < R.length := by rw [hRe]; simp
          clear hRe hcn
          obtain ⟨gc, cc, rfl, hg1, hg2⟩ := oc.form hne
          have hnews := World.ownsRow.cells oc (g := gc) rfl
          have HNE := hide hnews
          clear hnews oc f2
          go_wp2_with (at_builtin; refine wpList_append_lies _ (by rfl) _ _ _ (by rfl) (w.heap.size + 1) 25 i0 _ 1 8 Try.underlying100 hi0 hz0 hz1 hz2 (by rfl) (by omega) (.slice A3 L.length c3) L.length (refCells L) (by rfl) own2 ⟨gc, 0, none⟩ R.length cc (refCells R) (by rfl) (by simp) HNE.out (by simp [Value.oneCell']) hne (by unfold maxLen; omega) (by omega) (by omega) w2.heap.size rfl ?_; intro g cp w3 hown3 hgrow hat hlt3; have HO3 := hide hown3; have HG := hide hgrow; have HA := hide hat; clear hown3 hgrow hat)
          go_roundw
          case rel =>
            have hl2 := owns_lt own2
            have e : (L ++ R).length = L.length + R.length := List.length_append
            have hnb : ∀ i, i < w.heap.size + 1 → ¬ some i = (Value.slice A3 L.length c3).ownBlock := fun i hi h => by
              have := hl2 i h.symm; omega
            refine ⟨j + 1, some ⟨g, 0, none⟩, cp, L ++ R, hlt, by go_num, by rw [e], HAP.out.symm, ?_, fun h => ?_, ?_, ?_, HB2.out.fr (fr_grown HG.out) (hnb _ (by omega))⟩
            · have := HO3.out
              rw [e, refCells, List.map_append]
              exact this
            · exfalso
              have e0 : (L ++ R).length = 0 := by rw [h]; rfl
              omega
            · rw [HTO.out, e]; have := HLS.out; omega
            · exact (HF.out.trans HF2.out).trans' (fr_grown HG.out) fun i hi h => hnb i (by omega) h
          case measure => simp [intOf]; omega
      · obtain rfl : l.length = j := by omega
        have hLe : L = ((l.map T.v).map V.rf).flatten := by rw [hL, List.take_of_length_le (by simp)]
        have hP : RfP (T.mk k n s A cap l r).v.rf w (.returned (.slice A3 L.length c3)) wr := by
          rw [HRF.out, ← hLe]
          exact ⟨_, rfl, owns_mono own (by omega), hnil, fr⟩
        have HP := hide hP
        clear hP own hnil fr ih ht
        go_wp2
        go_ret
        exact HP.out

end Go.Proofs.Ytihjmipmjogpoaa

/- Chapter 2: the law's own small: is a value small enough to be copied whole? -/
namespace Go.Proofs.Ytihjmipmjogpoaa
open Go.RowKit

/-- What small answers. -/
def smallOf (v : V) (room deep : Int) : Int := if (v.size : Int) ≤ room ∧ (v.ht : Int) ≤ deep then v.size else -1

theorem smallOf_no {v : V} {room deep : Int} (h : ¬ ((v.size : Int) ≤ room ∧ (v.ht : Int) ≤ deep)) : smallOf v room deep = -1 := if_neg h
theorem smallOf_yes {v : V} {room deep : Int} (h : (v.size : Int) ≤ room ∧ (v.ht : Int) ≤ deep) : smallOf v room deep = v.size := if_pos h

theorem sum_len (l : List V) : l.length ≤ (l.map V.size).sum := by
  induction l with
  | nil => simp
  | cons x l ih => have := x.size_pos; simp; omega

/-- A part that does not fit. -/
theorem small_stop {k n : Int} {s : ByteArray} {l : List V} {r room deep : Int} {j : Nat} (hj : j < l.length) (h : ¬ ((l[j].size : Int) ≤ room - (1 + sizeTo l j : Nat) ∧ (l[j].ht : Int) ≤ deep - 1)) : smallOf (.mk k n s l r) room deep = -1 := by
  refine smallOf_no fun ⟨h1, h2⟩ => h ⟨?_, ?_⟩
  · rw [V.size_mk] at h1
    have := sizeTo_succ l j hj
    have := sizeTo_le l (j + 1)
    omega
  · have := ht_child (k := k) (n := n) (s := s) (r := r) (List.getElem_mem hj)
    omega

theorem small_done {k n : Int} {s : ByteArray} {l : List V} {r room deep : Int} (h1 : ((1 + sizeTo l l.length : Nat) : Int) ≤ room) (h0 : 0 ≤ deep) (h2 : ∀ x ∈ l, (x.ht : Int) ≤ deep - 1) : smallOf (.mk k n s l r) room deep = ((1 + sizeTo l l.length : Nat) : Int) := by
  have e : (V.mk k n s l r).size = 1 + sizeTo l l.length := by rw [V.size_mk, sizeTo_all]
  rw [smallOf_yes ⟨by rw [e]; exact h1, ?_⟩, e]
  have : (V.mk k n s l r).ht ≤ deep.toNat := by
    rw [V.ht_mk]
    refine top1_le fun y hy => ?_
    obtain ⟨x, hx, rfl⟩ := List.mem_map.1 hy
    have := h2 x hx
    omega
  omega

set_option maxRecDepth 100000 in
set_option maxHeartbeats 4000000 in
theorem small_any (t : T) : ∀ (room deep : Int) (w : World) (lo hi : Nat), t.In w lo hi → hi ≤ w.heap.size → -10000 ≤ room → room ≤ 10000 → -1 ≤ deep → deep ≤ 100 →
    Calls Try.prog 39 #[t.val, .int .i64 room, .int .i64 deep] w fun e w' => e = .returned (.int .i64 (smallOf t.v room deep)) ∧ Fr No w w' := by
  induction t using T.ind with
  | h k n s A cap l r ih =>
    intro room deep w lo hi ht hh hr0 hr1 hd0 hd1
    rw [T.val_mk]
    have hlen := (T.in_mk.1 ht).1.len1
    have fr1 := (Fr.refl No w).alloc (.cells #[.int .u8 k, .int .i64 n, .string s, .slice A l.length cap, .int .i64 r] 27)
    have hK := Blk.new' w 27 #[.int .u8 k, .int .i64 n, .string s, .slice A l.length cap, .int .i64 r] rfl
    have hsz : (T.mk k n s A cap l r).v.size = 1 + (((l.map T.v).map V.size).sum) := by rw [T.v_mk, V.size_mk]
    have hls := sum_len (l.map T.v)
    rw [List.length_map] at hls
    by_cases hb : deep < 0 ∨ room < 1 ∨ room ≤ (l.length : Int)
    · have e : smallOf (T.mk k n s A cap l r).v room deep = -1 := smallOf_no fun ⟨h1, h2⟩ => by omega
      rw [e]
      clear ih hsz
      by_cases hb1 : deep < 0
      · go_enter Try.func39, Try.ntmps39
        go_wp2
        go_ret
        exact ⟨rfl, fr1⟩
      have hb1' : decide (deep < 0) = false := by simpa using hb1
      by_cases hb2 : room < 1
      · go_enter Try.func39, Try.ntmps39
        go_wp2
        go_ret
        exact ⟨rfl, fr1⟩
      have hb2' : decide (room < 1) = false := by simpa using hb2
      have hb3 : room ≤ (l.length : Int) := by omega
      go_enter Try.func39, Try.ntmps39
      go_wp2
      go_ret
      exact ⟨rfl, fr1⟩
    · have hb1 : decide (deep < 0) = false := by simp; omega
      have hb2 : decide (room < 1) = false := by simp; omega
      have hb3 : ¬ room ≤ (l.length : Int) := by omega
      have hd2 : 0 ≤ deep := by omega
      have hr2 : 1 ≤ room := by omega
      have HSZ := hide hsz
      clear hb hsz
      obtain ⟨c0, c1, c2, c3, c4, cf⟩ := hK.cells5
      have q0 := hK.lt
      go_enter Try.func39, Try.ntmps39
      go_wp2_with fail
      go_loopw [7, 8, 9] (fun v i _ wr => ∃ j m : Nat, j ≤ l.length ∧ i = .int .i64 (j : Int) ∧ v = .int .i64 (m : Int) ∧ m = 1 + sizeTo (l.map T.v) j ∧ (m : Int) ≤ room ∧ (∀ x ∈ (l.map T.v).take j, (x.ht : Int) ≤ deep - 1) ∧ Fr No (w.alloc (.cells #[.int .u8 k, .int .i64 n, .string s, .slice A l.length cap, .int .i64 r] 27)) wr) (fun _ i _ _ => l.length - (intOf i).toNat)
      case atStart => exact ⟨0, 1, Nat.zero_le _, rfl, rfl, by simp [sizeTo_zero], by omega, by simp, Fr.refl _ _⟩
      case round =>
        obtain ⟨j, m, hj, rfl, rfl, hm, hmr, hall, fr⟩ := hrel
        obtain ⟨d0, d1, d2, d3, d4, df⟩ := (hK.fr fr fun h => h).cells5
        have frw := fr1.trans fr
        have HM := hide hm
        have HA := hide hall
        clear hm hall c0 c1 c2 c3 c4 cf
        by_cases hlt : j < l.length
        · obtain ⟨b, o, k1, n1, s1, A1, cap1, l1, r1, rfl, hb0, hb1', hx, hin, e0, e1, e2, e3, e4⟩ := T.elem (ht.no frw hh) hlt
          have hIH := fun room deep => ih l[j] (List.getElem_mem hlt) room deep wr lo hi (by rw [hx]; exact hin) (by have := frw.size; omega)
          have hj' : j < (l.map T.v).length := by simpa using hlt
          have hxv : (l.map T.v)[j] = (T.mk k1 n1 s1 A1 cap1 l1 r1).v := by rw [List.getElem_map, hx]
          have hto := sizeTo_succ (l.map T.v) j hj'
          have hst := fun h => small_stop (k := k) (n := n) (s := s) (r := r) (room := room) (deep := deep) hj' h
          rw [hxv] at hto hst
          rw [hx, T.val_mk] at hIH
          generalize (T.mk k1 n1 s1 A1 cap1 l1 r1).v = u at *
          have g0 : b < wr.heap.size := by have := frw.size; omega
          have hle : m ≤ 10000 := by omega
          have HF := hide fr
          have HW := hide frw
          have hup := u.size_pos
          by_cases hfit : (u.size : Int) ≤ room - (m : Int) ∧ (u.ht : Int) ≤ deep - 1
          · have hc := hIH (room - (m : Int)) (deep - 1) (by omega) (by omega) (by omega) (by omega)
            rw [smallOf_yes hfit] at hc
            have HC := hide hc
            have HT := hide hto
            have HX := hide hxv
            obtain ⟨hf1, hf2⟩ := hfit
            have hnn : ¬ ((u.size : Int) < 0) := by omega
            clear hIH hst hto hxv hx ih fr frw fr1 hc hin hls
            generalize hq : u.size = q at *
            have HQ := hide hq
            clear hq
            go_wp2_with fail
            refine HC.out.mono ?_
            rintro e w2 ⟨rfl, fr2⟩
            have HF2 := hide fr2
            clear fr2
            go_wp2
            go_roundw
            case rel =>
              refine ⟨j + 1, m + q, hlt, by go_num, by go_num, ?_, by omega, ?_, HF.out.trans HF2.out⟩
              · rw [HT.out, HM.out]; omega
              · intro x hx2
                rw [List.take_succ_eq_append_getElem hj', List.mem_append, HX.out] at hx2
                rcases hx2 with h | h
                · exact HA.out x h
                · simp at h; subst h; exact hf2
            case measure => simp [intOf]; omega
          · have hc := hIH (room - (m : Int)) (deep - 1) (by omega) (by omega) (by omega) (by omega)
            rw [smallOf_no hfit] at hc
            have hno : smallOf (T.mk k n s (some ⟨b, o, none⟩) cap l r).v room deep = -1 := by rw [T.v_mk]; exact hst (by rw [← HM.out]; exact hfit)
            have HC := hide hc
            have HNO := hide hno
            clear hIH hst hto hxv hx ih fr frw fr1 hc hin hls hfit hno
            go_wp2_with fail
            refine HC.out.mono ?_
            rintro e w2 ⟨rfl, fr2⟩
            have HF2 := hide (HW.out.trans fr2)
            clear fr2
            go_wp2
            go_ret
            exact ⟨by rw [HNO.out]; rfl, HF2.out⟩
        · obtain rfl : l.length = j := by omega
          have hdone : smallOf (T.mk k n s A cap l r).v room deep = (m : Int) := by
            rw [T.v_mk, HM.out]
            have h1 : (l.map T.v).length = l.length := by simp
            have := small_done (k := k) (n := n) (s := s) (l := l.map T.v) (r := r) (room := room) (deep := deep) (by rw [h1, ← HM.out]; exact hmr) hd2 (fun x hx => HA.out x (by rw [List.take_of_length_le (by simp)]; exact hx))
            rw [this, h1]
          have HD := hide hdone
          have HW := hide frw
          clear hdone ih fr frw fr1 hls
          go_wp2
          go_ret
          exact ⟨by rw [HD.out]; rfl, HW.out⟩

end Go.Proofs.Ytihjmipmjogpoaa

/- Chapter 2: the document's answer: look, Parts, May. -/
namespace Go.Proofs.Ytihjmipmjogpoaa
open Go.RowKit

def lookOf (v : V) (p q : Nat) : Int := if v.fits p q = true then (v.size : Int) else -1

theorem look_no {v : V} {p q : Nat} (h : v.fits p q = false) : lookOf v p q = -1 := by simp [lookOf, h]
theorem look_leaf {k n : Int} {s : ByteArray} {l : List V} {r : Int} {p q : Nat} (hk : k ≠ 3) (hp : 1 ≤ p) (h : fok k n s l.length r = true) : lookOf (.mk k n s l r) p q = 1 := by
  obtain ⟨h1, h2⟩ := fits_leaf (k := k) (n := n) (s := s) (l := l) (r := r) (p := p) (q := q) hk hp
  simp [lookOf, h1, h, h2 h]
theorem look_bad {k n : Int} {s : ByteArray} {l : List V} {r : Int} {p q : Nat} (hk : k ≠ 3) (hp : 1 ≤ p) (h : fok k n s l.length r = false) : lookOf (.mk k n s l r) p q = -1 :=
  look_no ((fits_leaf hk hp).1.trans h)
theorem look_bad3 {n : Int} {s : ByteArray} {l : List V} {r : Int} {p q : Nat} (h : fok 3 n s l.length r = false) : lookOf (.mk 3 n s l r) p q = -1 :=
  look_no (by simp [V.fits, V.ok_mk, h])
theorem look_off {k n : Int} {s : ByteArray} {l : List V} {r : Int} {p q : Nat} (h : 4 < k) : lookOf (.mk k n s l r) p q = -1 :=
  look_no (by simp [V.fits, V.ok_mk, fok, show ¬ k = 0 by omega, show ¬ k = 1 by omega, show ¬ k = 2 by omega, show ¬ k = 3 by omega, show ¬ k = 4 by omega])

theorem str_ne {s : ByteArray} (h : ¬ s = ⟨#[]⟩) : s.toList.isEmpty = false := by
  cases hl : s.toList with
  | nil => exact absurd (toList_nil hl) h
  | cons x l => rfl

theorem str_ne2 {s : ByteArray} (h : ¬ s = ⟨#[]⟩) : decide (s.toList = []) = false := by
  have := str_ne h
  cases hl : s.toList with
  | nil => rw [hl] at this; cases this
  | cons x l => rfl

set_option maxRecDepth 100000 in
set_option maxHeartbeats 8000000 in
theorem look_any (t : T) : ∀ (p q : Nat) (w : World) (lo hi : Nat), t.In w lo hi → hi ≤ w.heap.size → p ≤ 512 → q ≤ 16 →
    Calls Try.prog 122 #[t.val, .int .i64 p, .int .i64 q] w fun e w' => e = .returned (.int .i64 (lookOf t.v p q)) ∧ Fr No w w' := by
  induction t using T.ind with
  | h k n s A cap l r ih =>
    intro p q w lo hi ht hh hp hq
    rw [T.val_mk]
    have fit := (T.in_mk.1 ht).1
    have hlen := fit.len1
    have hss := fit.s1
    have hk0 := fit.k0
    have fr1 := (Fr.refl No w).alloc (.cells #[.int .u8 k, .int .i64 n, .string s, .slice A l.length cap, .int .i64 r] 27)
    have hK := Blk.new' w 27 #[.int .u8 k, .int .i64 n, .string s, .slice A l.length cap, .int .i64 r] rfl
    rw [T.v_mk]
    have hll : (l.map T.v).length = l.length := by simp
    by_cases hp1 : (p : Int) < 1
    · have e : lookOf (.mk k n s (l.map T.v) r) p q = -1 := look_no (by obtain rfl : p = 0 := by omega
                                                                        exact fits_zero _ _)
      rw [e]
      clear ih hll
      go_enter Try.func122, Try.ntmps122
      go_wp2
      go_ret
      exact ⟨rfl, fr1⟩
    have hpp : 1 ≤ p := by omega
    have HLL := hide hll
    clear hll
    have tl := toL0
    by_cases hk4 : 4 < k
    · rw [look_off (n := n) (s := s) (l := l.map T.v) (r := r) (p := p) (q := q) hk4]
      have a1 : (k != 1) = true := by simp; omega
      have a2 : (k != 2) = true := by simp; omega
      have a3 : (k != 3) = true := by simp; omega
      have a4 : (k != 4) = true := by simp; omega
      clear ih tl
      by_cases hc : n = 0
      case neg =>
        have z : (n != 0) = true := by simpa using hc
        go_enter Try.func122, Try.ntmps122
        go_wp2
        go_ret
        exact ⟨rfl, fr1⟩
      subst hc
      by_cases hc : s = ⟨#[]⟩
      case neg =>
        have z := str_ne hc
        have z2 := str_ne2 hc
        go_enter Try.func122, Try.ntmps122
        go_wp2
        go_ret
        exact ⟨rfl, fr1⟩
      subst hc; have tl := toL0
      by_cases hc : l.length = 0
      case neg =>
        have z : (0 : Int) < (l.length : Int) := by omega
        go_enter Try.func122, Try.ntmps122
        go_wp2
        go_ret
        exact ⟨rfl, fr1⟩
      obtain rfl : l = [] := List.eq_nil_of_length_eq_zero hc; clear hc
      by_cases hc : r = 0
      case neg =>
        have z : (r != 0) = true := by simpa using hc
        go_enter Try.func122, Try.ntmps122
        go_wp2
        go_ret
        exact ⟨rfl, fr1⟩
      subst hc
      go_enter Try.func122, Try.ntmps122
      go_wp2
      go_ret
      exact ⟨rfl, fr1⟩
    have hkk : k = 0 ∨ k = 1 ∨ k = 2 ∨ k = 3 ∨ k = 4 := by omega
    clear hk4 hk0
    rcases hkk with rfl | rfl | rfl | rfl | rfl
    · -- kind 0
      by_cases hc : n = 0
      case neg =>
        have hf : fok 0 n s (l.map T.v).length r = false := by
          simp [fok, hc]
        have z : (n != 0) = true := by simpa using hc
        rw [look_bad (k := 0) (by decide) hpp (p := p) (q := q) hf]
        clear ih hf
        go_enter Try.func122, Try.ntmps122
        go_wp2
        go_ret
        exact ⟨rfl, fr1⟩
      subst hc
      by_cases hc : s = ⟨#[]⟩
      case neg =>
        have hf : fok 0 0 s (l.map T.v).length r = false := by
          simp [fok, str_ne2 hc]; try exact fun h => absurd (toList_nil h) hc
        have z := str_ne hc
        have z2 := str_ne2 hc
        rw [look_bad (k := 0) (by decide) hpp (p := p) (q := q) hf]
        clear ih hf
        go_enter Try.func122, Try.ntmps122
        go_wp2
        go_ret
        exact ⟨rfl, fr1⟩
      subst hc
      by_cases hc : l.length = 0
      case neg =>
        have hf : fok 0 0 ⟨#[]⟩ (l.map T.v).length r = false := by
          rw [HLL.out]; simp [fok, hc]
        have z : (0 : Int) < (l.length : Int) := by omega
        rw [look_bad (k := 0) (by decide) hpp (p := p) (q := q) hf]
        clear ih hf
        go_enter Try.func122, Try.ntmps122
        go_wp2
        go_ret
        exact ⟨rfl, fr1⟩
      obtain rfl : l = [] := List.eq_nil_of_length_eq_zero hc; clear hc
      by_cases hc : r = 0
      case neg =>
        have hf : fok 0 0 ⟨#[]⟩ 0 r = false := by
          simp [fok, hc]
        have z : (r != 0) = true := by simpa using hc
        rw [look_bad (k := 0) (by decide) hpp (p := p) (q := q) hf]
        clear ih hf
        go_enter Try.func122, Try.ntmps122
        go_wp2
        go_ret
        exact ⟨rfl, fr1⟩
      subst hc
      rw [show ([] : List T).map T.v = [] from rfl]
      rw [(look_leaf (k := 0) (n := 0) (s := ⟨#[]⟩) (l := []) (r := 0) (p := p) (q := q) (by decide) hpp (by simp [fok, toL0]; try omega))]
      clear ih
      go_enter Try.func122, Try.ntmps122
      go_wp2
      go_ret
      exact ⟨rfl, fr1⟩
    · -- kind 1
      by_cases hc : s = ⟨#[]⟩
      case neg =>
        have hf : fok 1 n s (l.map T.v).length r = false := by
          simp [fok, str_ne2 hc]; try exact fun h => absurd (toList_nil h) hc
        have z := str_ne hc
        have z2 := str_ne2 hc
        rw [look_bad (k := 1) (by decide) hpp (p := p) (q := q) hf]
        clear ih hf
        go_enter Try.func122, Try.ntmps122
        go_wp2
        go_ret
        exact ⟨rfl, fr1⟩
      subst hc
      by_cases hc : l.length = 0
      case neg =>
        have hf : fok 1 n ⟨#[]⟩ (l.map T.v).length r = false := by
          rw [HLL.out]; simp [fok, hc]
        have z : (0 : Int) < (l.length : Int) := by omega
        rw [look_bad (k := 1) (by decide) hpp (p := p) (q := q) hf]
        clear ih hf
        go_enter Try.func122, Try.ntmps122
        go_wp2
        go_ret
        exact ⟨rfl, fr1⟩
      obtain rfl : l = [] := List.eq_nil_of_length_eq_zero hc; clear hc
      by_cases hc : r = 0
      case neg =>
        have hf : fok 1 n ⟨#[]⟩ 0 r = false := by
          simp [fok, hc]
        have z : (r != 0) = true := by simpa using hc
        rw [look_bad (k := 1) (by decide) hpp (p := p) (q := q) hf]
        clear ih hf
        go_enter Try.func122, Try.ntmps122
        go_wp2
        go_ret
        exact ⟨rfl, fr1⟩
      subst hc
      rw [show ([] : List T).map T.v = [] from rfl]
      rw [(look_leaf (k := 1) (n := n) (s := ⟨#[]⟩) (l := []) (r := 0) (p := p) (q := q) (by decide) hpp (by simp [fok, toL0]; try omega))]
      clear ih
      go_enter Try.func122, Try.ntmps122
      go_wp2
      go_ret
      exact ⟨rfl, fr1⟩
    · -- kind 2
      by_cases hc : n = 0
      case neg =>
        have hf : fok 2 n s (l.map T.v).length r = false := by
          simp [fok, hc]
        have z : (n != 0) = true := by simpa using hc
        rw [look_bad (k := 2) (by decide) hpp (p := p) (q := q) hf]
        clear ih hf
        go_enter Try.func122, Try.ntmps122
        go_wp2
        go_ret
        exact ⟨rfl, fr1⟩
      subst hc
      by_cases hc : l.length = 0
      case neg =>
        have hf : fok 2 0 s (l.map T.v).length r = false := by
          rw [HLL.out]; simp [fok, hc]
        have z : (0 : Int) < (l.length : Int) := by omega
        rw [look_bad (k := 2) (by decide) hpp (p := p) (q := q) hf]
        clear ih hf
        go_enter Try.func122, Try.ntmps122
        go_wp2
        go_ret
        exact ⟨rfl, fr1⟩
      obtain rfl : l = [] := List.eq_nil_of_length_eq_zero hc; clear hc
      by_cases hc : r = 0
      case neg =>
        have hf : fok 2 0 s 0 r = false := by
          simp [fok, hc]
        have z : (r != 0) = true := by simpa using hc
        rw [look_bad (k := 2) (by decide) hpp (p := p) (q := q) hf]
        clear ih hf
        go_enter Try.func122, Try.ntmps122
        go_wp2
        go_ret
        exact ⟨rfl, fr1⟩
      subst hc
      by_cases hc : s.size ≤ 256
      case neg =>
        have hf : fok 2 0 s 0 0 = false := by
          simp [fok]; omega
        have z : (256 : Int) < (s.size : Int) := by omega
        rw [look_bad (k := 2) (by decide) hpp (p := p) (q := q) hf]
        clear ih hf
        go_enter Try.func122, Try.ntmps122
        go_wp2
        go_ret
        exact ⟨rfl, fr1⟩
      have z : ¬ (256 : Int) < (s.size : Int) := by omega
      rw [show ([] : List T).map T.v = [] from rfl]
      rw [(look_leaf (k := 2) (n := 0) (s := s) (l := []) (r := 0) (p := p) (q := q) (by decide) hpp (by simp [fok, toL0]; try omega))]
      clear ih
      go_enter Try.func122, Try.ntmps122
      go_wp2
      go_ret
      exact ⟨rfl, fr1⟩
    · -- kind 3
      by_cases hc : n = 0
      case neg =>
        have hf : fok 3 n s (l.map T.v).length r = false := by
          simp [fok, hc]
        have z : (n != 0) = true := by simpa using hc
        rw [look_bad3 (p := p) (q := q) hf]
        clear ih hf
        go_enter Try.func122, Try.ntmps122
        go_wp2
        go_ret
        exact ⟨rfl, fr1⟩
      subst hc
      by_cases hc : s = ⟨#[]⟩
      case neg =>
        have hf : fok 3 0 s (l.map T.v).length r = false := by
          simp [fok, str_ne2 hc]; try exact fun h => absurd (toList_nil h) hc
        have z := str_ne hc
        have z2 := str_ne2 hc
        rw [look_bad3 (p := p) (q := q) hf]
        clear ih hf
        go_enter Try.func122, Try.ntmps122
        go_wp2
        go_ret
        exact ⟨rfl, fr1⟩
      subst hc
      by_cases hc : r = 0
      case neg =>
        have hf : fok 3 0 ⟨#[]⟩ (l.map T.v).length r = false := by
          simp [fok, hc]
        have z : (r != 0) = true := by simpa using hc
        rw [look_bad3 (p := p) (q := q) hf]
        clear ih hf
        go_enter Try.func122, Try.ntmps122
        go_wp2
        go_ret
        exact ⟨rfl, fr1⟩
      subst hc
      by_cases hq1 : (q : Int) < 1
      · rw [look_no (fits_short (n := 0) (s := ⟨#[]⟩) (l := l.map T.v) (r := 0) (p := p) (q := q) (.inr (by omega)))]
        clear ih
        go_enter Try.func122, Try.ntmps122
        go_wp2
        go_ret
        exact ⟨rfl, fr1⟩
      have hq2 : decide ((q : Int) < 1) = false := by simpa using hq1
      have hq3 : 1 ≤ q := by omega
      by_cases hlp : (p : Int) ≤ (l.length : Int)
      · have hlp' : decide (p ≤ l.length) = true := by simp; omega
        rw [look_no (fits_short (n := 0) (s := ⟨#[]⟩) (l := l.map T.v) (r := 0) (p := p) (q := q) (.inl (by rw [HLL.out]; omega)))]
        clear ih
        go_enter Try.func122, Try.ntmps122
        go_wp2
        go_ret
        exact ⟨rfl, fr1⟩
      have hlp' : decide (p ≤ l.length) = false := by simp; omega
      obtain ⟨c0, c1, c2, c3, c4, cf⟩ := hK.cells5
      have q0 := hK.lt
      go_enter Try.func122, Try.ntmps122
      go_wp2_with fail
      go_loopw [7, 8, 9] (fun v i _ wr => ∃ j m : Nat, j ≤ l.length ∧ i = .int .i64 (j : Int) ∧ v = .int .i64 (m : Int) ∧ m = 1 + sizeTo (l.map T.v) j ∧ m ≤ p ∧ fitsTo (l.map T.v) (q - 1) j ∧ Fr No (w.alloc (.cells #[.int .u8 3, .int .i64 0, .string ⟨#[]⟩, .slice A l.length cap, .int .i64 0] 27)) wr) (fun _ i _ _ => l.length - (intOf i).toNat)
      case atStart => exact ⟨0, 1, Nat.zero_le _, rfl, rfl, by simp [sizeTo_zero], by omega, fitsTo_zero _ _, Fr.refl _ _⟩
      case round =>
        obtain ⟨j, m, hj, rfl, rfl, hm, hmr, hall, fr⟩ := hrel
        obtain ⟨d0, d1, d2, d3, d4, df⟩ := (hK.fr fr fun h => h).cells5
        have frw := fr1.trans fr
        have HM := hide hm
        have HA := hide hall
        clear hm hall c0 c1 c2 c3 c4 cf
        by_cases hlt : j < l.length
        · obtain ⟨b, o, k1, n1, s1, A1, cap1, l1, r1, rfl, hb0, hb1', hx, hin, e0, e1, e2, e3, e4⟩ := T.elem (ht.no frw hh) hlt
          have hc := ih l[j] (List.getElem_mem hlt) (p - m) (q - 1) wr lo hi (by rw [hx]; exact hin) (by have := frw.size; omega) (by omega) (by omega)
          have hj' : j < (l.map T.v).length := by simpa using hlt
          have hxv : (l.map T.v)[j] = (T.mk k1 n1 s1 A1 cap1 l1 r1).v := by rw [List.getElem_map, hx]
          have hto := sizeTo_succ (l.map T.v) j hj'
          have hst := fun h => fits_stop (n := 0) (s := ⟨#[]⟩) (r := 0) (p := p) (q := q) hj' hq3 h
          have hfs := fun h1 h2 => fitsTo_succ HA.out hj' h1 h2
          rw [hxv] at hto hst hfs
          rw [hx, T.val_mk] at hc
          generalize (T.mk k1 n1 s1 A1 cap1 l1 r1).v = u at *
          have g0 : b < wr.heap.size := by have := frw.size; omega
          have HF := hide fr
          have HW := hide frw
          have hup := u.size_pos
          have x1 : ((p - m : Nat) : Int) = (p : Int) - (m : Int) := by omega
          have x2 : ((q - 1 : Nat) : Int) = (q : Int) - 1 := by omega
          rw [x1, x2] at hc
          clear x1 x2
          cases hfit : u.fits (p - m) (q - 1) with
          | true =>
            have h1 : u.ok = true ∧ u.size ≤ p - m ∧ u.dep ≤ q - 1 := by
              simp [V.fits] at hfit; exact ⟨hfit.1.1, hfit.1.2, hfit.2⟩
            have e : lookOf u (p - m) (q - 1) = (u.size : Int) := by simp [lookOf, hfit]
            rw [e] at hc
            have HC := hide hc
            have HT := hide hto
            have HFS := hide (hfs h1.1 h1.2.2)
            have hf1 := h1.2.1
            have hnn : ¬ ((u.size : Int) < 0) := by omega
            clear hst hto hxv hx ih fr frw fr1 hc hin hfs hfit e h1
            generalize hqq : u.size = z at *
            have HQ := hide hqq
            clear hqq
            go_wp2_with fail
            refine HC.out.mono ?_
            rintro e w2 ⟨rfl, fr2⟩
            have HF2 := hide fr2
            clear fr2
            go_wp2
            go_roundw
            case rel =>
              exact ⟨j + 1, m + z, hlt, by go_num, by go_num, by rw [HT.out, HM.out]; omega, by omega, HFS.out, HF.out.trans HF2.out⟩
            case measure => simp [intOf]; omega
          | false =>
            rw [look_no hfit] at hc
            have hno : lookOf (.mk 3 0 ⟨#[]⟩ (l.map T.v) 0) p q = -1 := look_no (hst (by rw [show p - 1 - sizeTo (l.map T.v) j = p - m from by rw [HM.out]; omega]; exact hfit))
            have HC := hide hc
            have HNO := hide hno
            clear hst hto hxv hx ih fr frw fr1 hc hin hfit hno hfs
            go_wp2_with fail
            refine HC.out.mono ?_
            rintro e w2 ⟨rfl, fr2⟩
            have HF2 := hide (HW.out.trans fr2)
            clear fr2
            go_wp2
            go_ret
            exact ⟨by rw [HNO.out]; rfl, HF2.out⟩
        · obtain rfl : l.length = j := by omega
          have hdone : lookOf (.mk 3 0 ⟨#[]⟩ (l.map T.v) 0) p q = (m : Int) := by
            obtain ⟨a, b⟩ := fits_done (n := 0) (s := ⟨#[]⟩) (l := l.map T.v) (r := 0) (p := p) (q := q) (by rw [HLL.out]; have := HM.out; omega) hpp hq3 (by rw [HLL.out]; exact HA.out)
            have c : fok 3 0 ⟨#[]⟩ (l.map T.v).length 0 = true := by simp [fok, toL0]
            rw [lookOf, a, if_pos c, b, HLL.out, ← HM.out]
          have HD := hide hdone
          have HW := hide frw
          clear hdone ih fr frw fr1
          go_wp2
          go_ret
          exact ⟨by rw [HD.out]; rfl, HW.out⟩
    · -- kind 4
      by_cases hc : n = 0
      case neg =>
        have hf : fok 4 n s (l.map T.v).length r = false := by
          simp [fok, hc]
        have z : (n != 0) = true := by simpa using hc
        rw [look_bad (k := 4) (by decide) hpp (p := p) (q := q) hf]
        clear ih hf
        go_enter Try.func122, Try.ntmps122
        go_wp2
        go_ret
        exact ⟨rfl, fr1⟩
      subst hc
      by_cases hc : s = ⟨#[]⟩
      case neg =>
        have hf : fok 4 0 s (l.map T.v).length r = false := by
          simp [fok, str_ne2 hc]; try exact fun h => absurd (toList_nil h) hc
        have z := str_ne hc
        have z2 := str_ne2 hc
        rw [look_bad (k := 4) (by decide) hpp (p := p) (q := q) hf]
        clear ih hf
        go_enter Try.func122, Try.ntmps122
        go_wp2
        go_ret
        exact ⟨rfl, fr1⟩
      subst hc
      by_cases hc : l.length = 0
      case neg =>
        have hf : fok 4 0 ⟨#[]⟩ (l.map T.v).length r = false := by
          rw [HLL.out]; simp [fok, hc]
        have z : (0 : Int) < (l.length : Int) := by omega
        rw [look_bad (k := 4) (by decide) hpp (p := p) (q := q) hf]
        clear ih hf
        go_enter Try.func122, Try.ntmps122
        go_wp2
        go_ret
        exact ⟨rfl, fr1⟩
      obtain rfl : l = [] := List.eq_nil_of_length_eq_zero hc; clear hc
      by_cases hc : 1 ≤ r
      case neg =>
        have hf : fok 4 0 ⟨#[]⟩ 0 r = false := by
          simp [fok]; omega
        have z : r < 1 := by omega
        rw [look_bad (k := 4) (by decide) hpp (p := p) (q := q) hf]
        clear ih hf
        go_enter Try.func122, Try.ntmps122
        go_wp2
        go_ret
        exact ⟨rfl, fr1⟩
      have z : ¬ r < 1 := by omega
      rw [show ([] : List T).map T.v = [] from rfl]
      rw [(look_leaf (k := 4) (n := 0) (s := ⟨#[]⟩) (l := []) (r := r) (p := p) (q := q) (by decide) hpp (by simp [fok, toL0]; try omega))]
      clear ih
      go_enter Try.func122, Try.ntmps122
      go_wp2
      go_ret
      exact ⟨rfl, fr1⟩

/-- The document's Parts. -/
theorem refParts_any (t : T) (w : World) (lo hi : Nat) (ht : t.In w lo hi) (hh : hi ≤ w.heap.size) :
    Calls Try.prog 60 #[t.val] w fun e w' => e = .returned (.int .i64 (t.v.meas : Int)) ∧ Fr No w w' := by
  have IH := fun w' h h' => look_any t 512 16 w' lo hi h h' (by decide) (by decide)
  cases t with
  | mk k n s A cap l r =>
    rw [T.val_mk] at *
    have hpos := (T.mk k n s A cap l r).v.size_pos
    generalize (T.mk k n s A cap l r).v = u at *
    have hin := ht.no ((Fr.refl No w).alloc (.cells #[.int .u8 k, .int .i64 n, .string s, .slice A l.length cap, .int .i64 r] 27)) hh
    cases hm : u.fits 512 16 with
    | true =>
      have e : u.meas = u.size := by simp [V.meas, V.may, hm]
      have e2 : lookOf u 512 16 = (u.size : Int) := by simp [lookOf, hm]
      have hle : u.size ≤ 512 := by simp [V.fits] at hm; omega
      rw [e]
      rw [e2] at IH
      clear hm e e2
      go_enter Try.func60, Try.ntmps60
      go_wp2_with fail
      refine (IH _ hin (by simp; omega)).mono ?_
      rintro e w2 ⟨rfl, fr2⟩
      go_wp2
      go_ret
      exact ⟨rfl, ((Fr.refl No w).alloc _).trans fr2⟩
    | false =>
      have e : u.meas = 0 := by simp [V.meas, V.may, hm]
      have e2 : lookOf u 512 16 = -1 := look_no hm
      rw [e]
      rw [e2] at IH
      clear hm e e2
      go_enter Try.func60, Try.ntmps60
      go_wp2_with fail
      refine (IH _ hin (by simp; omega)).mono ?_
      rintro e w2 ⟨rfl, fr2⟩
      go_wp2
      go_ret
      exact ⟨rfl, ((Fr.refl No w).alloc _).trans fr2⟩

/-- The document's May. -/
theorem refMay_any (t : T) (w : World) (lo hi : Nat) (ht : t.In w lo hi) (hh : hi ≤ w.heap.size) :
    Calls Try.prog 109 #[t.val] w fun e w' => e = .returned (.bool t.v.may) ∧ Fr No w w' := by
  have IH := fun w' h h' => refParts_any t w' lo hi h h'
  cases hm : t.v.may
  · have HM : t.v.meas = 0 := by simp [V.meas, hm]
    rw [HM] at IH
    cases t with
    | mk k n s A cap l r =>
      rw [T.val_mk] at *
      go_enter Try.func109, Try.ntmps109
      go_wp2_with fail
      refine (IH _ (ht.no ((Fr.refl No w).alloc _) hh) (by simp; omega)).mono ?_
      rintro e w2 ⟨rfl, fr2⟩
      go_wp2
      go_ret
      exact ⟨rfl, ((Fr.refl No w).alloc _).trans fr2⟩
  · have HM : 0 < t.v.meas := by simp [V.meas, hm]; exact t.v.size_pos
    cases t with
    | mk k n s A cap l r =>
      rw [T.val_mk] at *
      generalize (T.mk k n s A cap l r).v.meas = z at *
      go_enter Try.func109, Try.ntmps109
      go_wp2_with fail
      refine (IH _ (ht.no ((Fr.refl No w).alloc _) hh) (by simp; omega)).mono ?_
      rintro e w2 ⟨rfl, fr2⟩
      go_wp2
      go_ret
      exact ⟨by simp, ((Fr.refl No w).alloc _).trans fr2⟩

end Go.Proofs.Ytihjmipmjogpoaa

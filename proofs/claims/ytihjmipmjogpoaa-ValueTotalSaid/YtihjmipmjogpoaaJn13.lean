/- Texts joined: P9, P10, P11, S15. -/
import Derived.Test.YtihjmipmjogpoaaJn12
/- Chapter 2: the document's answer: Own. -/
namespace Go.Proofs.Ytihjmipmjogpoaa
open Go.RowKit

/-- What the document's Own gives. -/
def ROwnP (v : V) (w : World) (e : Ending) (w' : World) : Prop :=
  ∃ t' : T, e = .returned t'.val ∧ t'.v = v ∧ t'.In w' w.heap.size w'.heap.size ∧ Fr No w w'

/-- Where its loop stands. -/
structure ROInv (w : World) (X : Array Value) (k n : Int) (s : ByteArray) (r : Int) (l : List T) (j : Nat) (A : Option Addr) (cap : Nat) (l' : List T) (wr : World) : Prop where
  len : l'.length = j
  vs : l'.map T.v = (l.take j).map T.v
  fr : Fr No w wr
  b0 : Blk wr w.heap.size 27 X
  b1 : Blk wr (w.heap.size + 1) 27 #[.int .u8 0, .int .i64 0, .string ⟨#[]⟩, .slice none 0 0, .int .i64 0]
  b2 : Blk wr (w.heap.size + 1 + 1) 27 #[.int .u8 k, .int .i64 n, .string s, .slice A j cap, .int .i64 r]
  own : wr.ownsRow (w.heap.size + 3) 27 5 (.slice A j cap) j (rowCells l')
  inn : ∀ x ∈ l', x.In wr (w.heap.size + 3) wr.heap.size
  sep : ∀ x ∈ l', ∀ b ∈ x.blocks, (Value.slice A j cap).ownBlock ≠ some b
  big : w.heap.size + 3 ≤ wr.heap.size

theorem ro_push {w wr w2 w3 : World} {X : Array Value} {k n : Int} {s : ByteArray} {r : Int} {l : List T} {j : Nat} {A2 : Option Addr} {cap2 : Nat} {l' : List T} {t' : T} {g cp : Nat} (inv : ROInv w X k n s r l j A2 cap2 l' wr) (hlt : j < l.length) (hv : t'.v = l[j].v)
    (hin : t'.In w2 wr.heap.size w2.heap.size) (f1 : Fr No wr.drew w2) (hown : w3.ownsRow (w.heap.size + 3) 27 5 (.slice (some ⟨g, 0, none⟩) (j + 1) cp) (j + 1) (rowCells l' ++ t'.cells))
    (hgrow : (w2.alloc (.cells t'.cells.toArray 27)).grownBy w3 (Value.slice A2 j cap2).ownBlock) (hat : (Value.slice A2 j cap2).ownBlock = some g ∨ g = w2.heap.size + 1) :
    ROInv w X k n s r l (j + 1) (some ⟨g, 0, none⟩) cp (l' ++ [t']) (w3.setCell ⟨w.heap.size + 1 + 1, 3, none⟩ (.slice (some ⟨g, 0, none⟩) (j + 1) cp)) := by
  have big := inv.big
  have hol := inv.own.lt
  have hs2 : wr.heap.size ≤ w2.heap.size := f1.size
  have hs3 : w2.heap.size + 1 ≤ w3.heap.size := by have := hgrow.size; simpa using this
  have F2 : Fr (fun i => some i = (Value.slice A2 j cap2).ownBlock ∨ i = w.heap.size + 1 + 1) w2 (w3.setCell ⟨w.heap.size + 1 + 1, 3, none⟩ (.slice (some ⟨g, 0, none⟩) (j + 1) cp)) :=
    ((((Fr.refl No w2).alloc (.cells t'.cells.toArray 27)).no).trans' (fr_grown hgrow) (fun i _ h => .inl h)).set (fun _ => .inr rfl) _
  have F1 : Fr (fun i => some i = (Value.slice A2 j cap2).ownBlock ∨ i = w.heap.size + 1 + 1) wr (w3.setCell ⟨w.heap.size + 1 + 1, 3, none⟩ (.slice (some ⟨g, 0, none⟩) (j + 1) cp)) :=
    ((Fr.refl _ wr).drew.thenNo f1).trans F2
  have hgl := (owns_lt hown g rfl)
  have hn0 : ∀ i, i < w.heap.size + 3 → ¬ some i = (Value.slice A2 j cap2).ownBlock := fun i hi h => by have := hol i h.symm; omega
  refine ⟨by simp [inv.len], ?_, inv.fr.trans' F1 (fun i hi h => ?_), inv.b0.fr F1 ?_, inv.b1.fr F1 ?_, ?_, ?_, ?_, ?_, ?_⟩
  · rw [List.map_append, inv.vs, List.take_succ_eq_append_getElem hlt, List.map_append, List.map_singleton, List.map_singleton, hv]
  · rcases h with h | h
    · exact hn0 i (by omega) h
    · omega
  · rintro (h | h)
    · exact hn0 _ (by omega) h
    · omega
  · rintro (h | h)
    · exact hn0 _ (by omega) h
    · omega
  · have F3 : Fr (fun i => some i = (Value.slice A2 j cap2).ownBlock) wr w3 :=
      ((((Fr.refl _ wr).drew.thenNo f1).alloc (.cells t'.cells.toArray 27))).trans' (fr_grown hgrow) (fun i _ h => h)
    have := (inv.b2.fr F3 (hn0 _ (by omega))).set_ 3 (.slice (some ⟨g, 0, none⟩) (j + 1) cp)
    simpa using this
  · rw [rowCells_snoc]
    exact owns_fr hown ((Fr.refl (fun i => i = w.heap.size + 1 + 1) w3).set (fun _ => rfl) _) (fun i hi h => by
      simp [Value.ownBlock] at hi
      have h' : i = w.heap.size + 1 + 1 := h
      omega)
  · intro x hx
    have hsz := F1.size
    have hsz2 := F2.size
    rcases List.mem_append.1 hx with hx | hx
    · have h1 := inv.inn x hx
      have hb : ∀ b ∈ x.blocks, ¬ (some b = (Value.slice A2 j cap2).ownBlock ∨ b = w.heap.size + 1 + 1) := fun b hb h => by
        rcases h with h | h
        · exact inv.sep x hx b hb h.symm
        · have := T.In.blocks x h1 b hb; omega
      exact T.In.more (Nat.le_refl _) hsz x (In.fr_blocks F1 (Nat.le_refl _) x hb h1)
    · simp at hx; subst hx
      have hb : ∀ b ∈ x.blocks, ¬ (some b = (Value.slice A2 j cap2).ownBlock ∨ b = w.heap.size + 1 + 1) := fun b hb h => by
        have h3 := T.In.blocks x hin b hb
        rcases h with h | h
        · have := hol b h.symm; omega
        · omega
      exact T.In.more (by omega) hsz2 x (In.fr_blocks F2 (Nat.le_refl _) x hb hin)
  · intro x hx b hb h
    simp [Value.ownBlock] at h
    subst h
    rcases List.mem_append.1 hx with hx | hx
    · rcases hat with h | h
      · exact inv.sep x hx _ hb h
      · have := T.In.blocks x (inv.inn x hx) _ hb; omega
    · simp at hx; subst hx
      have h3 := T.In.blocks x hin _ hb
      rcases hat with h | h
      · have := hol _ h; omega
      · omega
  · have := F1.size; omega

set_option maxRecDepth 100000 in
set_option maxHeartbeats 8000000 in
theorem refOwn_any (t : T) : ∀ (w : World) (lo hi : Nat), t.In w lo hi → hi ≤ w.heap.size → Calls Try.prog 125 #[t.val] w (ROwnP t.v w) := by
  induction t using T.ind with
  | h k n s A cap l r ih =>
    intro w lo hi ht hh
    rw [T.val_mk]
    have fit := (T.in_mk.1 ht).1
    have hlen := fit.len1
    obtain ⟨i0, hi0, hz0, hz1, hz2⟩ := info_parts value_info
    go_enter Try.func125, Try.ntmps125
    go_wp2_with fail
    go_loopw [4] (fun i wr => ∃ (j : Nat) (A2 : Option Addr) (cap2 : Nat) (l' : List T), j ≤ l.length ∧ i = .int .i64 j ∧
        ROInv w #[.int .u8 k, .int .i64 n, .string s, .slice A l.length cap, .int .i64 r] k n s r l j A2 cap2 l' wr)
      (fun i _ => l.length - (intOf i).toNat)
    case atStart =>
      exact ⟨0, none, 0, [], Nat.zero_le _, rfl, rfl, by simp, ((((Fr.refl No w).alloc _).alloc _).alloc _), ((Blk.new' w 27 _ rfl).alloc _).alloc _, (Blk.new' (w.alloc _) 27 _ (by simp)).alloc _,
        Blk.new' ((w.alloc _).alloc _) 27 _ (by simp), World.ownsRow_nil _ _ _ _, by simp, by simp, by simp⟩
    case round =>
      obtain ⟨j, A2, cap2, l', hj, rfl, inv⟩ := hrel
      have fr := inv.fr
      have big := inv.big
      have own := inv.own
      have hsep0 : (Value.slice A2 j cap2).ownBlock ≠ some (w.heap.size + 1 + 1) := fun h => by have := own.lt _ h; omega
      obtain ⟨c0, c1, c2, c3, c4, cf⟩ := inv.b2.cells5
      obtain ⟨d0, d1, d2, d3, d4, df⟩ := inv.b0.cells5
      by_cases hlt : j < l.length
      · obtain ⟨b, o, k1, n1, s1, A1, cap1, l1, r1, rfl, hb0, hb1, hx, hin, e0, e1, e2, e3, e4⟩ := T.elem (ht.no fr hh) hlt
        have IH := ih l[j] (List.getElem_mem hlt)
        rw [hx] at IH
        have HX := hide hx
        rw [T.val_mk] at IH
        have hh0 : hi ≤ wr.heap.size := by omega
        have IH2 := IH wr.drew lo hi (hin.no ((Fr.refl No wr).drew) hh0) hh0
        have HIH := hide IH2
        have HI := hide inv
        have HB2 := hide inv.b2
        have HO := hide own
        have g0 : b < wr.heap.size := by omega
        have g1 : w.heap.size < wr.heap.size := by omega
        have g2 : w.heap.size + 1 + 1 < wr.heap.size := by omega
        have hv0' : some (w.heap.size + 1 + 1) ≠ (Value.slice A2 j cap2).ownBlock := Ne.symm hsep0
        have HH := hide hh
        clear hx ih inv ht IH IH2 fr own hin hh
        go_wp2_with fail
        go_region_law (first
          | ((refine step_append_lies _ (by rfl) _ _ _ (by rfl) (w.heap.size + 3) 27 i0 _ 5 64 Try.underlying24 hi0 hz0 hz1 hz2 rfl (by omega) (.slice A2 j cap2) j (rowCells l') (by rfl) ownD ⟨w2.heap.size, 0, none⟩ 1 1 [.int .u8 k5, .int .i64 n5, .string s5, .slice A5 l5.length cap5, .int .i64 r5] (by rfl) (by rfl) (World.news_of_block (Blk.new w2 27 _)) (by simp [Value.oneCell']) (by omega) (by unfold maxLen; omega) (by omega) (by simp; omega) _ rfl ?_); intro g cp w3 hown3 hgrow hat hlt3; obtain ⟨c5, f5⟩ := lent_grown hgrow c4D f4D (by simp; omega) hv0')
          | (go_simp; go_at_call 125; (with_reducible refine HIH.out.mono ?_); rintro e w2 ⟨⟨k5, n5, s5, A5, cap5, l5, r5⟩, rfl, hv5, hin5, fr1⟩; rw [T.val_mk]; obtain ⟨ownD, bD, c3D, c4D, f4D, hsz2, hlt2⟩ := lent_after (m := #[.int .u8 k5, .int .i64 n5, .string s5, .slice A5 l5.length cap5, .int .i64 r5]) HB2.out HO.out fr1))
        all_goals
          go_wp2
          go_roundw
          case rel =>
            exact ⟨j + 1, _, _, _, hlt, by go_num, ro_push HI.out hlt (hv5.trans (congrArg T.v HX.out).symm) hin5 fr1 hown3 hgrow (by simpa using hat)⟩
          case measure => simp [intOf]; omega
      · obtain rfl : l.length = j := by omega
        obtain ⟨y0, y1, y2, y3, y4, yf⟩ := inv.b1.cells5
        have q1 := inv.b1.lt
        have q2 := inv.b2.lt
        have hil := inv.len
        have HI := hide inv
        have hb : ∀ x ∈ l', ∀ b ∈ x.blocks, w.heap.size + 3 ≤ b ∧ b < wr.heap.size := fun x hx b hb => T.In.blocks x (inv.inn x hx) b hb
        have HBL := hide hb
        clear ih inv ht fr own hh hb
        go_wp2_with fail
        refine bodyPost_ret (v := .agg #[.int .u8 k, .int .i64 n, .string s, .slice A2 l.length cap2, .int .i64 r]) (by simp [results, Try.results125, go_sem, *]) rfl ?_
        generalize hW : World.setCell _ _ _ = W
        have hfr : Fr (fun i => i = w.heap.size + 1) wr W := by
          rw [← hW]
          repeat (first | with_reducible exact Fr.refl _ wr | with_reducible refine Fr.set ?_ (by simp) _)
        have inv := HI.out
        have hol := inv.own.lt
        have own2 := owns_fr inv.own hfr (fun g hg h => by have := hol g hg; have h' : g = w.heap.size + 1 := h; omega)
        have hle := owns_le own2
        have hinn : ∀ x ∈ l', x.In W w.heap.size W.heap.size := fun x hx => T.In.more (by omega) hfr.size x (In.fr_blocks hfr (Nat.le_refl _) x (fun b hb h => by have := HBL.out x hx b hb; have h' : b = w.heap.size + 1 := h; omega) (inv.inn x hx))
        refine ⟨T.mk k n s A2 cap2 l' r, by rw [T.val_mk, hil], ?_, T.in_mk.2 ⟨⟨fit.k0, fit.k1, fit.n0, fit.n1, fit.s1, by rw [hil]; exact hlen, by rw [hil]; exact hle, fit.r0, fit.r1⟩, fun hne => ?_, hinn⟩, inv.fr.trans' hfr (fun i hi h => by have h' : i = w.heap.size + 1 := h; omega)⟩
        · rw [T.v_mk, T.v_mk, inv.vs, List.take_of_length_le (Nat.le_refl _)]
        · have hpos : 0 < l.length := by
            cases l' with
            | nil => exact absurd rfl hne
            | cons x l' => simp at hil; omega
          obtain ⟨g, c, hA, hg0, hg1⟩ := own2.form hpos
          simp only [Value.slice.injEq, true_and] at hA
          obtain ⟨rfl, rfl⟩ := hA
          refine ⟨g, 0, rfl, by omega, hg1, fun i x hx c u hu => ?_⟩
          have := World.ownsRow.cells own2 (g := g) rfl _ _ (rowCells_get l' i c x u hx hu)
          rw [add_at, ← Nat.add_assoc] at this
          exact this

end Go.Proofs.Ytihjmipmjogpoaa

/- Chapter 2: lists of values, lent; kept; may all be? -/
namespace Go.Proofs.Ytihjmipmjogpoaa
open Go.RowKit

/-- What lentAll gives. -/
structure LentAllP (l : List T) (w : World) (e : Ending) (w' : World) (g c : Nat) (l' : List T) : Prop where
  e : e = .returned (.slice (some ⟨g, 0, none⟩) l.length c)
  len : l'.length = l.length
  vs : l'.map T.v = l.map T.v
  inn : (T.row (some ⟨g, 0, none⟩) c l').In w' w.heap.size w'.heap.size
  mks : ∀ x ∈ l', x.Mk w'
  g0 : w.heap.size ≤ g
  g1 : g < w'.heap.size
  cap : l.length + 1 ≤ c
  mark : w'.cell? ⟨g, l.length * 5 + 1, none⟩ = some (.int .i64 78)
  fr : Fr No w w'

structure LAInv (w : World) (l : List T) (j : Nat) (A : Option Addr) (cap : Nat) (l' : List T) (wr : World) : Prop where
  len : l'.length = j
  vs : l'.map T.v = (l.take j).map T.v
  fr : Fr No w wr
  own : wr.ownsRow w.heap.size 27 5 (.slice A j cap) j (rowCells l')
  inn : ∀ x ∈ l', x.In wr w.heap.size wr.heap.size ∧ x.Mk wr
  sep : ∀ x ∈ l', ∀ b ∈ x.blocks, (Value.slice A j cap).ownBlock ≠ some b

theorem la_step {w wr w2 w3 : World} {l : List T} {j : Nat} {A2 : Option Addr} {cap2 : Nat} {l' : List T} {m : Array Value} (inv : LAInv w l j A2 cap2 l' wr) (f1 : Fr No wr w2) (hgrow : (w2.alloc (.cells m 27)).grownBy w3 (Value.slice A2 j cap2).ownBlock) :
    Fr No w w3 ∧ (∀ x ∈ l', x.In w3 w.heap.size w3.heap.size ∧ x.Mk w3) := by
  have hol := inv.own.lt
  have F1 : Fr (fun i => some i = (Value.slice A2 j cap2).ownBlock) wr w3 := ((Fr.refl _ wr).thenNo f1 |>.alloc (.cells m 27)).trans' (fr_grown hgrow) (fun i _ h => h)
  refine ⟨inv.fr.trans' F1 (fun i hi h => by have := hol i h.symm; omega), fun x hx => ?_⟩
  obtain ⟨h1, h2⟩ := inv.inn x hx
  have hb : ∀ b ∈ x.blocks, ¬ (some b = (Value.slice A2 j cap2).ownBlock) := fun b hb h => inv.sep x hx b hb h.symm
  exact ⟨T.In.more (Nat.le_refl _) F1.size x (In.fr_blocks F1 (Nat.le_refl _) x hb h1), T.Mk.fr F1 (Nat.le_refl _) x h1 hb h2⟩

theorem la_push {w wr w2 w3 : World} {l : List T} {j : Nat} {A2 : Option Addr} {cap2 : Nat} {l' : List T} {t' : T} {g cp : Nat} (inv : LAInv w l j A2 cap2 l' wr) (hlt : j < l.length) (hv : t'.v = l[j].v)
    (hin : t'.In w2 wr.heap.size w2.heap.size) (hmk : t'.Mk w2) (f1 : Fr No wr w2) (hown : w3.ownsRow w.heap.size 27 5 (.slice (some ⟨g, 0, none⟩) (j + 1) cp) (j + 1) (rowCells l' ++ t'.cells))
    (hgrow : (w2.alloc (.cells t'.cells.toArray 27)).grownBy w3 (Value.slice A2 j cap2).ownBlock) (hat : (Value.slice A2 j cap2).ownBlock = some g ∨ g = w2.heap.size + 1) :
    LAInv w l (j + 1) (some ⟨g, 0, none⟩) cp (l' ++ [t']) w3 := by
  obtain ⟨hf, hl'⟩ := la_step inv f1 hgrow
  have hol := inv.own.lt
  have hs0 := inv.fr.size
  have hs2 : wr.heap.size ≤ w2.heap.size := f1.size
  have F2 : Fr (fun i => some i = (Value.slice A2 j cap2).ownBlock) w2 w3 := (((Fr.refl No w2).alloc (.cells t'.cells.toArray 27)).no).trans' (fr_grown hgrow) (fun i _ h => h)
  refine ⟨by simp [inv.len], ?_, hf, by rw [rowCells_snoc]; exact hown, ?_, ?_⟩
  · rw [List.map_append, inv.vs, List.take_succ_eq_append_getElem hlt, List.map_append, List.map_singleton, List.map_singleton, hv]
  · intro x hx
    rcases List.mem_append.1 hx with hx | hx
    · exact hl' x hx
    · simp at hx; subst hx
      have hb : ∀ b ∈ x.blocks, ¬ (some b = (Value.slice A2 j cap2).ownBlock) := fun b hb h => by
        have h3 := T.In.blocks x hin b hb
        have := hol b h.symm; omega
      exact ⟨T.In.more (by omega) F2.size x (In.fr_blocks F2 (Nat.le_refl _) x hb hin), T.Mk.fr F2 (Nat.le_refl _) x hin hb hmk⟩
  · intro x hx b hb h
    simp [Value.ownBlock] at h
    subst h
    rcases List.mem_append.1 hx with hx | hx
    · rcases hat with h | h
      · exact inv.sep x hx _ hb h
      · have := T.In.blocks x (inv.inn x hx).1 _ hb; omega
    · simp at hx; subst hx
      have h3 := T.In.blocks x hin _ hb
      rcases hat with h | h
      · have := hol _ h; omega
      · omega

set_option maxRecDepth 100000 in
set_option maxHeartbeats 8000000 in
theorem lentAll_any (A : Option Addr) (cap : Nat) (l : List T) (w : World) (lo hi : Nat) (ht : (T.row A cap l).In w lo hi) (hh : hi ≤ w.heap.size) :
    Calls Try.prog 64 #[.slice A l.length cap] w fun e w' => ∃ g c l', LentAllP l w e w' g c l' := by
  have hlen := (T.in_mk.1 ht).1.len1
  obtain ⟨i0, hi0, hz0, hz1, hz2⟩ := info_parts value_info
  have hmk := fun W => run_make_rowN (P := Try.prog) 24 27 i0 _ Try.underlying24 hi0 hz0 .i64 .i64 0 (l.length + 1) (by omega) (by rw [hz2]; omega) (by omega) W
  rw [hz1] at hmk
  have hmk : ∀ W, (Instr.makeSlice 24 (.int .i64 0) (.int .i64 ((l.length : Int) + 1))).run Try.prog W = .ok (.slice (some ⟨W.heap.size, 0, none⟩) 0 (l.length + 1)) (W.alloc (.cells (madeCells (Value.agg #[.int .u8 0, .int .i64 0, .string ⟨#[]⟩, .slice none 0 0, .int .i64 0]).cells ((l.length + 1) * 5)) 27)) := hmk
  go_enter Try.func64, Try.ntmps64
  go_wp2_with fail
  go_loopw [3, 4] (fun v i wr => ∃ (j : Nat) (A2 : Option Addr) (cap2 : Nat) (l' : List T), j ≤ l.length ∧ i = .int .i64 j ∧ v = .slice A2 j cap2 ∧ LAInv w l j A2 cap2 l' wr) (fun _ i _ => l.length - (intOf i).toNat)
  case atStart =>
    refine ⟨0, some ⟨w.heap.size, 0, none⟩, l.length + 1, [], Nat.zero_le _, rfl, rfl, rfl, by simp, (Fr.refl No w).alloc _, ?_, by simp, by simp⟩
    exact World.ownsRow_made (base := w.heap.size) (e := 27) (size := 5) w (madeCells #[.int .u8 0, .int .i64 0, .string ⟨#[]⟩, .slice none 0 0, .int .i64 0] ((l.length + 1) * 5)) (l.length + 1) (Nat.le_refl _) (by unfold maxLen; omega) (size_madeCells _ _)
  case round =>
    obtain ⟨j, A2, cap2, l', hj, rfl, rfl, inv⟩ := hrel
    have fr := inv.fr
    have hsz := fr.size
    by_cases hlt : j < l.length
    · obtain ⟨b, o, k1, n1, s1, A1, cap1, l1, r1, rfl, hb0, hb1, hx, hin, e0, e1, e2, e3, e4⟩ := T.elem (ht.no fr hh) hlt
      have hc := lent_any l[j] wr lo hi (by rw [hx]; exact hin) (by omega)
      rw [hx, T.val_mk] at hc
      have HC := hide hc
      have HX := hide hx
      have HI := hide inv
      have g0 : b < wr.heap.size := by omega
      clear hc hx inv ht hmk fr hin
      go_wp2_with fail
      refine HC.out.mono ?_
      rintro e w2 ⟨⟨k5, n5, s5, A5, cap5, l5, r5⟩, rfl, hv5, hin5, hmk5, f1⟩
      rw [T.val_mk]
      have hs2 := f1.size
      have hownA := (owns_fr HI.out.own f1 fun _ _ h => h).alloc (.cells #[.int .u8 k5, .int .i64 n5, .string s5, .slice A5 l5.length cap5, .int .i64 r5] 27)
      have HV5 := hide hv5
      have HIN5 := hide hin5
      have HMK5 := hide hmk5
      have HF1 := hide f1
      clear hv5 hin5 hmk5 f1
      go_wp2_with (at_builtin; refine wpList_append_lies _ (by rfl) _ _ _ (by rfl) w.heap.size 27 i0 _ 5 64 Try.underlying24 hi0 hz0 hz1 hz2 (by rfl) (by omega) (.slice A2 j cap2) j (rowCells l') (by rfl) hownA ⟨w2.heap.size, 0, none⟩ 1 1 [.int .u8 k5, .int .i64 n5, .string s5, .slice A5 l5.length cap5, .int .i64 r5] (by rfl) (by rfl) (World.news_of_block (Blk.new w2 27 _)) (by simp [Value.oneCell']) (by omega) (by unfold maxLen; omega) (by omega) (by simp; omega) (w2.heap.size + 1) (by simp) ?_; intro g cp w3 hown3 hgrow hat hlt3; have HP := hide (la_push HI.out hlt (HV5.out.trans (congrArg T.v HX.out).symm) HIN5.out HMK5.out HF1.out hown3 hgrow hat); clear hown3 hgrow hat hlt3)
      go_roundw
      case rel => exact ⟨j + 1, _, _, _, hlt, by go_num, rfl, HP.out⟩
      case measure => simp [intOf]; omega
    · obtain rfl : l.length = j := by omega
      have HI := hide inv
      have hnum := fun w3 => num2_any 78 w3
      clear inv ht hmk fr
      go_wp2_with fail
      refine (hnum wr).mono ?_
      rintro e w2 ⟨rfl, f1⟩
      have hs2 := f1.size
      have hownA := (owns_fr HI.out.own f1 fun _ _ h => h).alloc (.cells #[.int .u8 1, .int .i64 78, .string ⟨#[]⟩, .slice none 0 0, .int .i64 0] 27)
      have HF1 := hide f1
      clear f1 hnum
      go_wp2_with (at_builtin; refine wpList_append_lies _ (by rfl) _ _ _ (by rfl) w.heap.size 27 i0 _ 5 64 Try.underlying24 hi0 hz0 hz1 hz2 (by rfl) (by omega) (.slice A2 l.length cap2) l.length (rowCells l') (by rfl) hownA ⟨w2.heap.size, 0, none⟩ 1 1 [.int .u8 1, .int .i64 78, .string ⟨#[]⟩, .slice none 0 0, .int .i64 0] (by rfl) (by rfl) (World.news_of_block (Blk.new w2 27 _)) (by simp [Value.oneCell']) (by omega) (by unfold maxLen; omega) (by omega) (by simp; omega) (w2.heap.size + 1) (by simp) ?_; intro g cp w3 hown3 hgrow hat hlt3; have hcp := owns_le hown3; have hcp2 : (l.length : Int) ≤ (cp : Int) := (by omega); have HO3 := hide hown3; have HG := hide hgrow; have HA := hide hat; clear hown3 hgrow hat)
      go_ret
      obtain ⟨hf, hl'⟩ := la_step HI.out HF1.out HG.out
      have hll := HI.out.len
      have hcell : ∀ i u, (rowCells l' ++ [.int .u8 1, .int .i64 78, .string ⟨#[]⟩, .slice none 0 0, .int .i64 0])[i]? = some u → w3.cell? ⟨g, 0 + i, none⟩ = some u := fun i u hu => by
        have := World.ownsRow.cells HO3.out (g := g) rfl i u hu
        rwa [add_at] at this
      have hrl := rowCells_length l'
      have hgl := owns_lt HO3.out g rfl
      refine ⟨g, cp, l', rfl, hll, ?_, T.in_mk.2 ⟨⟨by decide, by decide, by decide, by decide, by decide, by rw [hll]; exact hlen, by rw [hll]; omega, by decide, by decide⟩, fun _ => ⟨g, 0, rfl, hgl.1, hgl.2, fun i x hx c u hu => ?_⟩, fun x hx => (hl' x hx).1⟩, fun x hx => (hl' x hx).2, hgl.1, hgl.2, by omega, ?_, hf⟩
      · rw [HI.out.vs, List.take_of_length_le (Nat.le_refl _)]
      · have h1 := rowCells_get l' i c x u hx hu
        have h2 := hcell (i * 5 + c) u (by rw [List.getElem?_append_left (List.getElem?_eq_some_iff.1 h1).1]; exact h1)
        rwa [← Nat.add_assoc] at h2
      · have h2 := hcell (l'.length * 5 + 1) (.int .i64 78) (by rw [List.getElem?_append_right (by omega), hrl, show l'.length * 5 + 1 - l'.length * 5 = 1 by omega]; rfl)
        rwa [Nat.zero_add, hll] at h2

set_option maxRecDepth 100000 in
set_option maxHeartbeats 8000000 in
theorem keptAll_any (g c cap : Nat) (A : Option Addr) (l' l : List T) (w : World) (lo hi lo' hi' : Nat) (ha : (T.row (some ⟨g, 0, none⟩) c l').In w lo hi) (hh : hi ≤ w.heap.size) (hm : ∀ x ∈ l', x.Mk w) (hb : (T.row A cap l).In w lo' hi') (hh' : hi' ≤ w.heap.size) (hg : g < hi)
    (hll : l'.length = l.length) (hv : l'.map T.v = l.map T.v) (hc : l.length + 1 ≤ c) (hmark : w.cell? ⟨g, l.length * 5 + 1, none⟩ = some (.int .i64 78)) :
    Calls Try.prog 67 #[.slice (some ⟨g, 0, none⟩) l.length c, .slice A l.length cap] w fun e w' => e = .returned (.bool true) ∧ Fr No w w' := by
  have hlen := (T.in_mk.1 hb).1.len1
  have HLL := hide hll
  have HV := hide hv
  have hcc : (l.length : Int) + 1 ≤ (c : Int) := by omega
  have HC := hide hc
  have HMK := hide hmark
  have HM := hide hm
  clear hll hv hc hmark hm
  go_enter Try.func67, Try.ntmps67
  go_wp2_with fail
  go_loopw [5] (fun i wr => ∃ j : Nat, j ≤ l.length ∧ i = .int .i64 j ∧ Fr No w wr) (fun i _ => l.length - (intOf i).toNat)
  case atStart => exact ⟨0, Nat.zero_le _, rfl, Fr.refl _ _⟩
  case round =>
    obtain ⟨j, hj, rfl, fr⟩ := hrel
    have hsz := fr.size
    by_cases hlt : j < l.length
    · have hlt' : j < l'.length := by have := HLL.out; omega
      obtain ⟨b, o, k1, n1, s1, A1, cap1, l1, r1, hA1, hb0, hb1, hx, hin, e0, e1, e2, e3, e4⟩ := T.elem (ha.no fr hh) hlt'
      simp only [Option.some.injEq, Addr.mk.injEq, and_true] at hA1
      obtain ⟨rfl, rfl⟩ := hA1
      obtain ⟨b', o', k2, n2, s2, A2, cap2, l2, r2, rfl, hb0', hb1', hx', hin', f0, f1, f2, f3, f4⟩ := T.elem (hb.no fr hh') hlt
      have hm1 : (T.mk k1 n1 s1 A1 cap1 l1 r1).Mk wr := by
        have h1 := (T.in_mk.1 ha).2.2 _ (List.getElem_mem hlt')
        have h2 := T.Mk.no fr hh h1 (HM.out _ (List.getElem_mem hlt'))
        rw [hx] at h2
        exact h2
      have hve : (T.mk k1 n1 s1 A1 cap1 l1 r1).v = (T.mk k2 n2 s2 A2 cap2 l2 r2).v := by
        have := congrArg (fun q => q[j]?) HV.out
        simp [hlt, hlt'] at this
        rw [hx, hx'] at this
        exact this
      have IH := fun w1 (f : Fr No wr w1) => kept_any (T.mk k1 n1 s1 A1 cap1 l1 r1) (T.mk k2 n2 s2 A2 cap2 l2 r2) w1 lo hi lo' hi' (hin.no f (by omega)) (by have := f.size; omega) (T.Mk.no f (by omega) hin hm1) (hin'.no f (by omega)) (by have := f.size; omega) hve
      rw [T.val_mk, T.val_mk] at IH
      have HIH := hide IH
      have g0 : g < wr.heap.size := by omega
      have g1 : b' < wr.heap.size := by omega
      have HF := hide fr
      simp only [Nat.zero_add] at e0 e1 e2 e3 e4
      clear hx hx' fr ha hb hm1 hve IH hin hin'
      go_wp2_with fail
      go_region_held3 (fun w' => (∀ c i, c < wr.heap.size → w'.cell? ⟨c, i, none⟩ = wr.cell? ⟨c, i, none⟩) ∧ Fr No wr w')
        (first | exact ⟨fun _ _ _ => rfl, Fr.drew (Fr.refl No wr)⟩ | (have hq : Fr No wr _ := (‹_ ∧ Fr No wr _›).2.trans ‹Fr No _ _›; exact ⟨hq.cells, hq⟩))
        (first
          | (go_at_call 45; have hs0 := (‹_ ∧ Fr No wr _›).2; ((with_reducible refine (HIH.out _ ?_).mono ?_); (exact hs0); rintro e w2 ⟨rfl, fr1⟩)))
      have HF2 := hide (‹_ ∧ Fr No wr _›).2
      go_wp2
      go_roundw
      case rel => exact ⟨j + 1, hlt, by go_num, HF.out.trans HF2.out⟩
      case measure => simp [intOf]; omega
    · obtain rfl : l.length = j := by omega
      have hcell := (fr.cell (b := g) (o := l.length * 5 + 1) (s := none) (by omega) (fun h => h)).trans HMK.out
      have g0 : g < wr.heap.size := by omega
      have HW := hide fr
      clear fr ha hb
      go_wp2
      go_ret
      exact ⟨rfl, HW.out⟩

end Go.Proofs.Ytihjmipmjogpoaa

/- Chapter 2: Of, the program's and the document's. -/
namespace Go.Proofs.Ytihjmipmjogpoaa
open Go.RowKit

theorem all1_any (t : T) (w : World) (lo hi : Nat) (ht : t.In w lo hi) (hh : hi ≤ w.heap.size) : Calls Try.prog 152 #[t.val] w fun e w' => e = .returned (.bool (!t.v.may)) ∧ Fr No w w' := by
  have IH := fun w' h h' => may_any t w' lo hi h h'
  cases t with
  | mk k n s A cap l r =>
    rw [T.val_mk] at *
    generalize (T.mk k n s A cap l r).v.may = z at *
    cases z
    all_goals
      go_enter Try.func152, Try.ntmps152
      go_wp2_with fail
      refine (IH _ (ht.no ((Fr.refl No w).alloc _) hh) (by simp; omega)).mono ?_
      rintro e w2 ⟨rfl, fr2⟩
      go_wp2
      go_ret
      exact ⟨rfl, ((Fr.refl No w).alloc _).trans fr2⟩

set_option maxRecDepth 100000 in
set_option maxHeartbeats 4000000 in
theorem indexV_any (A : Option Addr) (cap : Nat) (l : List T) (w : World) (lo hi : Nat) (ht : (T.row A cap l).In w lo hi) (hh : hi ≤ w.heap.size) :
    Calls Try.prog 158 #[.slice A l.length cap, .func (.func 152) #[] #[]] w fun e w' => (∃ z : Int, e = .returned (.int .i64 z) ∧ ((0 ≤ z ∧ (l.map T.v).all V.may = false) ∨ (z = -1 ∧ (l.map T.v).all V.may = true))) ∧ Fr No w w' := by
  have hlen := (T.in_mk.1 ht).1.len1
  have hB := all1_any
  go_enter Try.func158, Try.ntmps158
  go_wp2_with fail
  go_loopw [8] (fun i wr => ∃ j : Nat, j ≤ l.length ∧ i = .int .i64 j ∧ Fr No w wr ∧ ∀ v ∈ (l.map T.v).take j, v.may = true) (fun i _ => l.length - (intOf i).toNat)
  case atStart => exact ⟨0, Nat.zero_le _, rfl, Fr.refl _ _, by simp⟩
  case round =>
    obtain ⟨j, hj, rfl, fr, hall⟩ := hrel
    have HA := hide hall
    have hsz := fr.size
    clear hall
    by_cases hlt : j < l.length
    · obtain ⟨b, o, k1, n1, s1, A1, cap1, l1, r1, rfl, hb0, hb1, hx, hin, e0, e1, e2, e3, e4⟩ := T.elem (ht.no fr hh) hlt
      have hc := hB l[j] wr lo hi (by rw [hx]; exact hin) (by omega)
      have hj' : j < (l.map T.v).length := by simpa using hlt
      have hxv : (l.map T.v)[j] = (T.mk k1 n1 s1 A1 cap1 l1 r1).v := by rw [List.getElem_map, hx]
      rw [hx, T.val_mk] at hc
      generalize (T.mk k1 n1 s1 A1 cap1 l1 r1).v = u at *
      have g0 : b < wr.heap.size := by omega
      have htk : (l.map T.v).take (j + 1) = (l.map T.v).take j ++ [u] := by rw [List.take_succ_eq_append_getElem hj', hxv]
      have hmem : u ∈ l.map T.v := by rw [← hxv]; exact List.getElem_mem hj'
      have HT := hide htk
      have HM := hide hmem
      have HF := hide fr
      clear hx hxv htk hmem fr hin hB ht
      cases hm : u.may with
      | false =>
        rw [hm] at hc
        have HC := hide hc
        have hno : (l.map T.v).all V.may = false := by
          rw [Bool.eq_false_iff]
          intro h
          rw [List.all_eq_true.1 h u HM.out] at hm
          cases hm
        have HN := hide hno
        clear hc hno hm
        go_wp2_with fail
        refine HC.out.mono ?_
        rintro e w2 ⟨rfl, f2⟩
        have HF2 := hide (HF.out.trans f2)
        clear f2
        go_wp2
        go_ret
        exact ⟨⟨_, rfl, .inl ⟨by omega, HN.out⟩⟩, HF2.out⟩
      | true =>
        rw [hm] at hc
        have HC := hide hc
        have HMM := hide hm
        clear hc hm
        go_wp2_with fail
        refine HC.out.mono ?_
        rintro e w2 ⟨rfl, f2⟩
        have HF2 := hide (HF.out.trans f2)
        clear f2
        go_wp2
        go_roundw
        case rel =>
          refine ⟨j + 1, hlt, by go_num, HF2.out, fun v hv => ?_⟩
          rw [HT.out] at hv
          rcases List.mem_append.1 hv with hv | hv
          · exact HA.out v hv
          · simp at hv; subst hv; exact HMM.out
        case measure => simp [intOf]; omega
    · obtain rfl : l.length = j := by omega
      have hyes : (l.map T.v).all V.may = true := List.all_eq_true.2 fun v hv => HA.out v (by rw [List.take_of_length_le (by simp)]; exact hv)
      have HY := hide hyes
      have HF := hide fr
      clear fr hyes ht hB
      go_wp2
      go_ret
      exact ⟨⟨-1, rfl, .inr ⟨rfl, HY.out⟩⟩, HF.out⟩

theorem containsV_any (A : Option Addr) (cap : Nat) (l : List T) (w : World) (lo hi : Nat) (ht : (T.row A cap l).In w lo hi) (hh : hi ≤ w.heap.size) :
    Calls Try.prog 151 #[.slice A l.length cap, .func (.func 152) #[] #[]] w fun e w' => e = .returned (.bool (!(l.map T.v).all V.may)) ∧ Fr No w w' := by
  have hI := indexV_any A cap l w lo hi ht hh
  generalize (l.map T.v).all V.may = q at *
  clear ht
  go_enter Try.func151, Try.ntmps151
  go_wp2_with fail
  refine hI.mono ?_
  rintro e w2 ⟨⟨z, rfl, hz⟩, fr2⟩
  rcases hz with ⟨h0, rfl⟩ | ⟨rfl, rfl⟩
  · have h1 : decide ((0 : Int) ≤ z) = true := by simpa using h0
    go_wp2
    go_ret
    exact ⟨rfl, fr2⟩
  · go_wp2
    go_ret
    exact ⟨rfl, fr2⟩

/-- May all be? -/
theorem allV_any (A : Option Addr) (cap : Nat) (l : List T) (w : World) (lo hi : Nat) (ht : (T.row A cap l).In w lo hi) (hh : hi ≤ w.heap.size) :
    Calls Try.prog 123 #[.slice A l.length cap] w fun e w' => e = .returned (.bool ((l.map T.v).all V.may)) ∧ Fr No w w' := by
  have hI := containsV_any A cap l w lo hi ht hh
  generalize (l.map T.v).all V.may = q at *
  clear ht
  cases q
  all_goals
    go_enter Try.func123, Try.ntmps123
    go_wp2_with fail
    refine hI.mono ?_
    rintro e w2 ⟨rfl, fr2⟩
    go_wp2
    go_ret
    exact ⟨rfl, fr2⟩

set_option maxRecDepth 100000 in
set_option maxHeartbeats 4000000 in
/-- The document's MayAll. -/
theorem refMayAll_any (A : Option Addr) (cap : Nat) (l : List T) (w : World) (lo hi : Nat) (ht : (T.row A cap l).In w lo hi) (hh : hi ≤ w.heap.size) :
    Calls Try.prog 124 #[.slice A l.length cap] w fun e w' => e = .returned (.bool ((l.map T.v).all V.may)) ∧ Fr No w w' := by
  have hlen := (T.in_mk.1 ht).1.len1
  have hB := refMay_any
  go_enter Try.func124, Try.ntmps124
  go_wp2_with fail
  go_loopw [3] (fun i wr => ∃ j : Nat, j ≤ l.length ∧ i = .int .i64 j ∧ Fr No w wr ∧ ∀ v ∈ (l.map T.v).take j, v.may = true) (fun i _ => l.length - (intOf i).toNat)
  case atStart => exact ⟨0, Nat.zero_le _, rfl, Fr.refl _ _, by simp⟩
  case round =>
    obtain ⟨j, hj, rfl, fr, hall⟩ := hrel
    have HA := hide hall
    have hsz := fr.size
    clear hall
    by_cases hlt : j < l.length
    · obtain ⟨b, o, k1, n1, s1, A1, cap1, l1, r1, rfl, hb0, hb1, hx, hin, e0, e1, e2, e3, e4⟩ := T.elem (ht.no fr hh) hlt
      have hc := hB l[j] wr lo hi (by rw [hx]; exact hin) (by omega)
      have hj' : j < (l.map T.v).length := by simpa using hlt
      have hxv : (l.map T.v)[j] = (T.mk k1 n1 s1 A1 cap1 l1 r1).v := by rw [List.getElem_map, hx]
      rw [hx, T.val_mk] at hc
      generalize (T.mk k1 n1 s1 A1 cap1 l1 r1).v = u at *
      have g0 : b < wr.heap.size := by omega
      have htk : (l.map T.v).take (j + 1) = (l.map T.v).take j ++ [u] := by rw [List.take_succ_eq_append_getElem hj', hxv]
      have hmem : u ∈ l.map T.v := by rw [← hxv]; exact List.getElem_mem hj'
      have HT := hide htk
      have HM := hide hmem
      have HF := hide fr
      clear hx hxv htk hmem fr hin hB ht
      cases hm : u.may with
      | false =>
        rw [hm] at hc
        have HC := hide hc
        have hno : (l.map T.v).all V.may = false := by
          rw [Bool.eq_false_iff]
          intro h
          rw [List.all_eq_true.1 h u HM.out] at hm
          cases hm
        have HN := hide hno
        clear hc hno hm
        go_wp2_with fail
        refine HC.out.mono ?_
        rintro e w2 ⟨rfl, f2⟩
        have HF2 := hide (HF.out.trans f2)
        clear f2
        go_wp2
        go_ret
        exact ⟨by rw [HN.out]; rfl, HF2.out⟩
      | true =>
        rw [hm] at hc
        have HC := hide hc
        have HMM := hide hm
        clear hc hm
        go_wp2_with fail
        refine HC.out.mono ?_
        rintro e w2 ⟨rfl, f2⟩
        have HF2 := hide (HF.out.trans f2)
        clear f2
        go_wp2
        go_roundw
        case rel =>
          refine ⟨j + 1, hlt, by go_num, HF2.out, fun v hv => ?_⟩
          rw [HT.out] at hv
          rcases List.mem_append.1 hv with hv | hv
          · exact HA.out v hv
          · simp at hv; subst hv; exact HMM.out
        case measure => simp [intOf]; omega
    · obtain rfl : l.length = j := by omega
      have hyes : (l.map T.v).all V.may = true := List.all_eq_true.2 fun v hv => HA.out v (by rw [List.take_of_length_le (by simp)]; exact hv)
      have HY := hide hyes
      have HF := hide fr
      clear fr hyes ht hB
      go_wp2
      go_ret
      exact ⟨by rw [HY.out]; rfl, HF.out⟩

/-- What Of answers. -/
def ofV (l : List V) : V × Int := if l.all V.may = true then (if (V.mk 3 0 ⟨#[]⟩ l 0).may = true then (V.mk 3 0 ⟨#[]⟩ l 0, 0) else (V.zero, 4)) else (V.zero, 2)

theorem T.row_v (A : Option Addr) (cap : Nat) (l : List T) : (T.row A cap l).v = V.mk 3 0 ⟨#[]⟩ (l.map T.v) 0 := by rw [T.row, T.v_mk]

/-- A value that is known, and an error's number. -/
def InE (v : V) (n : Int) (w : World) (e : Ending) (w' : World) : Prop :=
  ∃ t' : T, e = .returned (.tuple #[t'.val, .int .i64 n]) ∧ t'.v = v ∧ t'.In w' w.heap.size w'.heap.size ∧ Fr No w w'

set_option maxRecDepth 100000 in
set_option maxHeartbeats 4000000 in
theorem vOf_any (A : Option Addr) (cap : Nat) (l : List T) (w : World) (lo hi : Nat) (ht : (T.row A cap l).In w lo hi) (hh : hi ≤ w.heap.size) :
    Calls Try.prog 65 #[.slice A l.length cap] w (OwnE2 (ofV (l.map T.v)).1 (ofV (l.map T.v)).2 w) := by
  have hA := fun w' h h' => allV_any A cap l w' lo hi h h'
  have hM := fun w' h h' => may_any (T.row A cap l) w' lo hi h h'
  have hO := fun w' h h' => own2_any (T.row A cap l) w' lo hi h h'
  rw [T.row_v] at hM hO
  have hval : (T.row A cap l).val = .agg #[.int .u8 3, .int .i64 0, .string ⟨#[]⟩, .slice A l.length cap, .int .i64 0] := rfl
  rw [hval] at hM hO
  clear hval
  have fr0 := (Fr.refl No w).alloc (.cells #[.int .u8 0, .int .i64 0, .string ⟨#[]⟩, .slice none 0 0, .int .i64 0] 27)
  have bz0 := Blk.new w 27 #[.int .u8 0, .int .i64 0, .string ⟨#[]⟩, .slice none 0 0, .int .i64 0]
  have ht0 := ht.no fr0 hh
  have hs0 : w.heap.size < (w.alloc (.cells #[.int .u8 0, .int .i64 0, .string ⟨#[]⟩, .slice none 0 0, .int .i64 0] 27)).heap.size := by simp
  clear ht
  cases ha : (l.map T.v).all V.may with
  | false =>
    have e1 : ofV (l.map T.v) = (V.zero, 2) := by simp only [ofV]; rw [ha]; rfl
    rw [e1]
    rw [ha] at hA
    clear ha e1 hM hO
    go_enter Try.func65, Try.ntmps65
    go_wp2_with fail
    generalize World.alloc w _ = w0 at *
    refine (hA w0 ht0 (by omega)).mono ?_
    rintro e w2 ⟨rfl, f2⟩
    have bz2 := bz0.fr f2 fun h => h
    obtain ⟨d0, d1, d2, d3, d4, df⟩ := bz2.cells5
    have q0 := bz2.lt
    have HF := hide (fr0.trans f2)
    clear hA ht0 bz0 fr0 f2 bz2
    go_wp2
    refine bodyPost_ret (v := .tuple #[.agg #[.int .u8 0, .int .i64 0, .string ⟨#[]⟩, .slice none 0 0, .int .i64 0], .int .i64 2]) (by simp [results, Try.results65, go_sem, *]) rfl ?_
    have hF2 := HF.out
    refine ⟨T.zero, rfl, T.zero_v, T.zero_sh _ _ _, ?_⟩
    repeat (first | with_reducible exact hF2 | with_reducible refine Fr.setNew ?_ (Nat.le_refl _) _)
  | true =>
    rw [ha] at hA
    cases hm : (V.mk 3 0 ⟨#[]⟩ (l.map T.v) 0).may with
    | false =>
      have e1 : ofV (l.map T.v) = (V.zero, 4) := by simp only [ofV]; rw [ha, hm]; rfl
      rw [e1]
      rw [hm] at hM
      clear ha hm e1 hO
      go_enter Try.func65, Try.ntmps65
      go_wp2_with fail
      generalize World.alloc w _ = w0 at *
      refine (hA w0 ht0 (by omega)).mono ?_
      rintro e w2 ⟨rfl, f2⟩
      have bz2 := bz0.fr f2 fun h => h
      have ht2 := ht0.no f2 (by omega)
      have HF := hide (fr0.trans f2)
      have hs2 := (fr0.trans f2).size
      clear hA ht0 bz0 fr0 f2
      go_wp2_with fail
      have f3 := (Fr.refl No w2).alloc (.cells #[.int .u8 3, .int .i64 0, .string ⟨#[]⟩, .slice A l.length cap, .int .i64 0] 27)
      have HF3 := hide (HF.out.trans f3)
      have bz3 := bz2.fr f3 fun h => h
      have ht3 := ht2.no f3 (by omega)
      have hs3 := f3.size
      clear bz2 ht2 f3
      generalize World.alloc w2 _ = w3 at *
      refine (hM w3 ht3 (by omega)).mono ?_
      rintro e w4 ⟨rfl, f4⟩
      have bz4 := bz3.fr f4 fun h => h
      obtain ⟨d0, d1, d2, d3, d4, df⟩ := bz4.cells5
      have q0 := bz4.lt
      have HF4 := hide (HF3.out.trans f4)
      clear hM ht3 bz3 f4 bz4
      go_wp2
      refine bodyPost_ret (v := .tuple #[.agg #[.int .u8 0, .int .i64 0, .string ⟨#[]⟩, .slice none 0 0, .int .i64 0], .int .i64 4]) (by simp [results, Try.results65, go_sem, *]) rfl ?_
      have hF2 := HF4.out
      refine ⟨T.zero, rfl, T.zero_v, T.zero_sh _ _ _, ?_⟩
      repeat (first | with_reducible exact hF2 | with_reducible refine Fr.setNew ?_ (Nat.le_refl _) _)
    | true =>
      have e1 : ofV (l.map T.v) = (V.mk 3 0 ⟨#[]⟩ (l.map T.v) 0, 0) := by simp only [ofV]; rw [ha, hm]; rfl
      rw [e1]
      rw [hm] at hM
      generalize V.mk 3 0 ⟨#[]⟩ (l.map T.v) 0 = u at *
      clear ha hm e1
      go_enter Try.func65, Try.ntmps65
      go_wp2_with fail
      generalize World.alloc w _ = w0 at *
      refine (hA w0 ht0 (by omega)).mono ?_
      rintro e w2 ⟨rfl, f2⟩
      have bz2 := bz0.fr f2 fun h => h
      have ht2 := ht0.no f2 (by omega)
      have HF := hide (fr0.trans f2)
      have hs2 := (fr0.trans f2).size
      clear hA ht0 bz0 fr0 f2
      have hsz2 : w.heap.size < w2.heap.size := bz2.lt
      go_wp2_with fail
      have f3 := (Fr.refl No w2).alloc (.cells #[.int .u8 3, .int .i64 0, .string ⟨#[]⟩, .slice A l.length cap, .int .i64 0] 27)
      have HF3 := hide (HF.out.trans f3)
      have bz3 := bz2.fr f3 fun h => h
      have bv3 := Blk.new w2 27 #[.int .u8 3, .int .i64 0, .string ⟨#[]⟩, .slice A l.length cap, .int .i64 0]
      have ht3 := ht2.no f3 (by omega)
      have hs3 := f3.size
      clear bz2 ht2 f3
      generalize World.alloc w2 _ = w3 at *
      refine (hM w3 ht3 (by omega)).mono ?_
      rintro e w4 ⟨rfl, f4⟩
      have bz4 := bz3.fr f4 fun h => h
      have bv4 := bv3.fr f4 fun h => h
      have ht4 := ht3.no f4 (by omega)
      obtain ⟨c0, c1, c2, c3, c4, -⟩ := bv4.cells5
      have qv := bv4.lt
      have HF4 := hide (HF3.out.trans f4)
      have hs4 := f4.size
      clear hM ht3 bz3 bv3 f4 bv4
      go_wp2_with fail
      refine (hO w4 ht4 (by omega)).mono ?_
      rintro e w5 ⟨⟨k5, n5, s5, A5, cap5, l5, r5⟩, rfl, hv5, hsh5, f5⟩
      rw [T.val_mk]
      have bz5 := bz4.fr f5 fun h => h
      obtain ⟨d0, d1, d2, d3, d4, df⟩ := bz5.cells5
      have q0 := bz5.lt
      have HF5 := hide (HF4.out.trans f5)
      have HV := hide hv5
      have HSH := hide hsh5
      have hs5 := f5.size
      clear hO ht4 bz4 f5 bz5 hv5 hsh5 c0 c1 c2 c3 c4 qv
      go_wp2
      refine bodyPost_ret (v := .tuple #[.agg #[.int .u8 k5, .int .i64 n5, .string s5, .slice A5 l5.length cap5, .int .i64 r5], .int .i64 0]) (by simp [results, Try.results65, go_sem, *]) rfl ?_
      have hF2 := HF5.out
      refine ⟨T.mk k5 n5 s5 A5 cap5 l5 r5, rfl, HV.out, ?_, ?_⟩
      · refine (T.Sh.fr' (S := (· = w.heap.size)) HSH.out ?_ (fun i h0 h1 h2 => by have h' : i = w.heap.size := h2; omega)).more (by omega) (by simp)
        repeat (first | with_reducible exact Fr.refl _ w5 | with_reducible refine Fr.set ?_ (by simp) _)
      · repeat (first | with_reducible exact hF2 | with_reducible refine Fr.setNew ?_ (Nat.le_refl _) _)

set_option maxRecDepth 100000 in
set_option maxHeartbeats 4000000 in
theorem refOf_any (A : Option Addr) (cap : Nat) (l : List T) (w : World) (lo hi : Nat) (ht : (T.row A cap l).In w lo hi) (hh : hi ≤ w.heap.size) :
    Calls Try.prog 66 #[.slice A l.length cap] w (InE (ofV (l.map T.v)).1 (ofV (l.map T.v)).2 w) := by
  have hA := fun w' h h' => refMayAll_any A cap l w' lo hi h h'
  have hM := fun w' h h' => refMay_any (T.row A cap l) w' lo hi h h'
  have hO := fun w' h h' => refOwn_any (T.row A cap l) w' lo hi h h'
  rw [T.row_v] at hM hO
  have hval : (T.row A cap l).val = .agg #[.int .u8 3, .int .i64 0, .string ⟨#[]⟩, .slice A l.length cap, .int .i64 0] := rfl
  rw [hval] at hM hO
  clear hval
  have fr0 := (Fr.refl No w).alloc (.cells #[.int .u8 0, .int .i64 0, .string ⟨#[]⟩, .slice none 0 0, .int .i64 0] 27)
  have bz0 := Blk.new w 27 #[.int .u8 0, .int .i64 0, .string ⟨#[]⟩, .slice none 0 0, .int .i64 0]
  have ht0 := ht.no fr0 hh
  have hs0 : w.heap.size < (w.alloc (.cells #[.int .u8 0, .int .i64 0, .string ⟨#[]⟩, .slice none 0 0, .int .i64 0] 27)).heap.size := by simp
  clear ht
  cases ha : (l.map T.v).all V.may with
  | false =>
    have e1 : ofV (l.map T.v) = (V.zero, 2) := by simp only [ofV]; rw [ha]; rfl
    rw [e1]
    rw [ha] at hA
    clear ha e1 hM hO
    go_enter Try.func66, Try.ntmps66
    go_wp2_with fail
    generalize World.alloc w _ = w0 at *
    refine (hA w0 ht0 (by omega)).mono ?_
    rintro e w2 ⟨rfl, f2⟩
    have bz2 := bz0.fr f2 fun h => h
    obtain ⟨d0, d1, d2, d3, d4, df⟩ := bz2.cells5
    have q0 := bz2.lt
    have HF := hide (fr0.trans f2)
    clear hA ht0 bz0 fr0 f2 bz2
    go_wp2
    refine bodyPost_ret (v := .tuple #[.agg #[.int .u8 0, .int .i64 0, .string ⟨#[]⟩, .slice none 0 0, .int .i64 0], .int .i64 2]) (by simp [results, Try.results66, go_sem, *]) rfl ?_
    have hF2 := HF.out
    refine ⟨T.zero, rfl, T.zero_v, (T.zero_sh _ _ _).inn, ?_⟩
    repeat (first | with_reducible exact hF2 | with_reducible refine Fr.setNew ?_ (Nat.le_refl _) _)
  | true =>
    rw [ha] at hA
    cases hm : (V.mk 3 0 ⟨#[]⟩ (l.map T.v) 0).may with
    | false =>
      have e1 : ofV (l.map T.v) = (V.zero, 4) := by simp only [ofV]; rw [ha, hm]; rfl
      rw [e1]
      rw [hm] at hM
      clear ha hm e1 hO
      go_enter Try.func66, Try.ntmps66
      go_wp2_with fail
      generalize World.alloc w _ = w0 at *
      refine (hA w0 ht0 (by omega)).mono ?_
      rintro e w2 ⟨rfl, f2⟩
      have bz2 := bz0.fr f2 fun h => h
      have ht2 := ht0.no f2 (by omega)
      have HF := hide (fr0.trans f2)
      have hs2 := (fr0.trans f2).size
      clear hA ht0 bz0 fr0 f2
      go_wp2_with fail
      have f3 := (Fr.refl No w2).alloc (.cells #[.int .u8 3, .int .i64 0, .string ⟨#[]⟩, .slice A l.length cap, .int .i64 0] 27)
      have HF3 := hide (HF.out.trans f3)
      have bz3 := bz2.fr f3 fun h => h
      have ht3 := ht2.no f3 (by omega)
      have hs3 := f3.size
      clear bz2 ht2 f3
      generalize World.alloc w2 _ = w3 at *
      refine (hM w3 ht3 (by omega)).mono ?_
      rintro e w4 ⟨rfl, f4⟩
      have bz4 := bz3.fr f4 fun h => h
      obtain ⟨d0, d1, d2, d3, d4, df⟩ := bz4.cells5
      have q0 := bz4.lt
      have HF4 := hide (HF3.out.trans f4)
      clear hM ht3 bz3 f4 bz4
      go_wp2
      refine bodyPost_ret (v := .tuple #[.agg #[.int .u8 0, .int .i64 0, .string ⟨#[]⟩, .slice none 0 0, .int .i64 0], .int .i64 4]) (by simp [results, Try.results66, go_sem, *]) rfl ?_
      have hF2 := HF4.out
      refine ⟨T.zero, rfl, T.zero_v, (T.zero_sh _ _ _).inn, ?_⟩
      repeat (first | with_reducible exact hF2 | with_reducible refine Fr.setNew ?_ (Nat.le_refl _) _)
    | true =>
      have e1 : ofV (l.map T.v) = (V.mk 3 0 ⟨#[]⟩ (l.map T.v) 0, 0) := by simp only [ofV]; rw [ha, hm]; rfl
      rw [e1]
      rw [hm] at hM
      generalize V.mk 3 0 ⟨#[]⟩ (l.map T.v) 0 = u at *
      clear ha hm e1
      go_enter Try.func66, Try.ntmps66
      go_wp2_with fail
      generalize World.alloc w _ = w0 at *
      refine (hA w0 ht0 (by omega)).mono ?_
      rintro e w2 ⟨rfl, f2⟩
      have bz2 := bz0.fr f2 fun h => h
      have ht2 := ht0.no f2 (by omega)
      have HF := hide (fr0.trans f2)
      have hs2 := (fr0.trans f2).size
      clear hA ht0 bz0 fr0 f2
      have hsz2 : w.heap.size < w2.heap.size := bz2.lt
      go_wp2_with fail
      have f3 := (Fr.refl No w2).alloc (.cells #[.int .u8 3, .int .i64 0, .string ⟨#[]⟩, .slice A l.length cap, .int .i64 0] 27)
      have HF3 := hide (HF.out.trans f3)
      have bz3 := bz2.fr f3 fun h => h
      have bv3 := Blk.new w2 27 #[.int .u8 3, .int .i64 0, .string ⟨#[]⟩, .slice A l.length cap, .int .i64 0]
      have ht3 := ht2.no f3 (by omega)
      have hs3 := f3.size
      clear bz2 ht2 f3
      generalize World.alloc w2 _ = w3 at *
      refine (hM w3 ht3 (by omega)).mono ?_
      rintro e w4 ⟨rfl, f4⟩
      have bz4 := bz3.fr f4 fun h => h
      have bv4 := bv3.fr f4 fun h => h
      have ht4 := ht3.no f4 (by omega)
      obtain ⟨c0, c1, c2, c3, c4, -⟩ := bv4.cells5
      have qv := bv4.lt
      have HF4 := hide (HF3.out.trans f4)
      have hs4 := f4.size
      clear hM ht3 bz3 bv3 f4 bv4
      go_wp2_with fail
      refine (hO w4 ht4 (by omega)).mono ?_
      rintro e w5 ⟨⟨k5, n5, s5, A5, cap5, l5, r5⟩, rfl, hv5, hsh5, f5⟩
      rw [T.val_mk]
      have bz5 := bz4.fr f5 fun h => h
      obtain ⟨d0, d1, d2, d3, d4, df⟩ := bz5.cells5
      have q0 := bz5.lt
      have HF5 := hide (HF4.out.trans f5)
      have HV := hide hv5
      have HSH := hide hsh5
      have hs5 := f5.size
      clear hO ht4 bz4 f5 bz5 hv5 hsh5 c0 c1 c2 c3 c4 qv
      go_wp2
      refine bodyPost_ret (v := .tuple #[.agg #[.int .u8 k5, .int .i64 n5, .string s5, .slice A5 l5.length cap5, .int .i64 r5], .int .i64 0]) (by simp [results, Try.results66, go_sem, *]) rfl ?_
      have hF2 := HF5.out
      refine ⟨T.mk k5 n5 s5 A5 cap5 l5 r5, rfl, HV.out, ?_, ?_⟩
      · refine (T.In.fr (S := (· = w.heap.size)) HSH.out ?_ (Nat.le_refl _) (fun i h0 h1 h2 => by have h' : i = w.heap.size := h2; omega)).more (by omega) (by simp)
        repeat (first | with_reducible exact Fr.refl _ w5 | with_reducible refine Fr.set ?_ (by simp) _)
      · repeat (first | with_reducible exact hF2 | with_reducible refine Fr.setNew ?_ (Nat.le_refl _) _)

end Go.Proofs.Ytihjmipmjogpoaa

/- Chapter 2: slices.SortStableFunc, value.Sort. -/
namespace Go.Proofs.Ytihjmipmjogpoaa
open Go.RowKit

theorem perm_flat {l l' : List (List Nat)} (h : l.Perm l') : l.flatten.Perm l'.flatten := by
  induction h with
  | nil => exact .refl _
  | cons x _ ih => simp only [List.flatten_cons]; exact ih.append_left x
  | swap x y l => simp only [List.flatten_cons, ← List.append_assoc]; exact (List.perm_append_comm).append_right _
  | trans _ _ ih1 ih2 => exact ih1.trans ih2

theorem stable_none (w : World) : Calls Try.prog 153 #[.slice none 0 0, .int .i64 0, .func (.func 118) #[] #[]] w fun e w' => (∃ v, e = .returned v) ∧ w' = w := by
  have hI : ∀ w1, Calls Try.prog 159 #[.slice none 0 0, .int .i64 0, .int .i64 0, .func (.func 118) #[] #[]] w1 fun e w' => (∃ v, e = .returned v) ∧ w' = w1 := by
    intro w1
    go_enter Try.func159, Try.ntmps159
    go_wp2_with fail
    refine wp_loop_rounds 1 ?_
    rw [rounds_succ]
    go_wp2
    go_end0
    exact ⟨⟨_, rfl⟩, rfl⟩
  go_enter Try.func153, Try.ntmps153
  go_wp2_with fail
  refine wp_loop_rounds 1 ?_
  rw [rounds_succ]
  go_wp2_with fail
  refine (hI _).mono ?_
  rintro e w1 ⟨⟨v, rfl⟩, rfl⟩
  go_wp2_with fail
  refine wp_loop_rounds 1 ?_
  rw [rounds_succ]
  go_wp2
  go_end0
  exact ⟨⟨_, rfl⟩, rfl⟩

theorem sortStable_any (L : List T) (w : World) (lo g cap N : Nat) (hN : L.length = N) (hN2 : N ≤ 1000000) (h : Rw w lo g cap L) (hE : Els w g L) :
    Calls Try.prog 132 #[.slice (some ⟨g, 0, none⟩) N cap, .func (.func 118) #[] #[]] w fun e w' => (∃ v, e = .returned v) ∧ (∃ C, C.Perm L ∧ C.Pairwise leT ∧ Rw w' lo g cap C) ∧ Fr (fun i => i = g) w w' := by
  have hc := stable_any L w lo g cap N hN hN2 h hE
  have HC := hide hc
  clear hc h hE hN
  go_enter Try.func132, Try.ntmps132
  go_wp2_with fail
  refine HC.out.mono ?_
  rintro e w1 ⟨⟨v, rfl⟩, h2, h3⟩
  have H2 := hide h2
  have H3 := hide h3
  clear h2 h3
  go_wp2
  go_end0
  exact ⟨⟨_, rfl⟩, H2.out, H3.out⟩

theorem sortStable_none (w : World) : Calls Try.prog 132 #[.slice none 0 0, .func (.func 118) #[] #[]] w fun e w' => (∃ v, e = .returned v) ∧ w' = w := by
  have hc := stable_none w
  go_enter Try.func132, Try.ntmps132
  go_wp2_with fail
  refine hc.mono ?_
  rintro e w1 ⟨⟨v, rfl⟩, rfl⟩
  go_wp2
  go_end0
  exact ⟨⟨_, rfl⟩, rfl⟩

/-- Where the copying of a row stands. -/
structure Cp (w : World) (l : List T) (j : Nat) (v : Value) (l' : List T) (wr : World) : Prop where
  len : l'.length = j
  vs : l'.map T.v = (l.take j).map T.v
  fr : Fr No w wr
  own : wr.ownsRow w.heap.size 27 5 v j (rowCells l')
  sp : ∀ x ∈ l', x.Sp wr w.heap.size wr.heap.size
  nd : ((l'.map T.blocks).flatten).Nodup
  sep : ∀ x ∈ l', ∀ b ∈ x.blocks, v.ownBlock ≠ some b

theorem Cp.push {w wr W w2 w3 : World} {l : List T} {j : Nat} {v : Value} {l' : List T} {t' : T} {g cp : Nat} (inv : Cp w l j v l' wr) (hlt : j < l.length) (hv : t'.v = l[j].v) (fW : Fr No wr W)
    (hsh : t'.Sh w2 W.heap.size w2.heap.size) (f1 : Fr No W w2) (hown : w3.ownsRow w.heap.size 27 5 (.slice (some ⟨g, 0, none⟩) (j + 1) cp) (j + 1) (rowCells l' ++ t'.cells))
    (hgrow : (w2.alloc (.cells t'.cells.toArray 27)).grownBy w3 v.ownBlock) (hat : v.ownBlock = some g ∨ g = w2.heap.size + 1) : Cp w l (j + 1) (.slice (some ⟨g, 0, none⟩) (j + 1) cp) (l' ++ [t']) w3 := by
  have hin := hsh.inn
  have hinn : ∀ x ∈ l', x.In wr w.heap.size wr.heap.size := fun x hx => T.Sp.inn x (inv.sp x hx)
  have hol := inv.own.lt
  have hsw : w.heap.size ≤ wr.heap.size := inv.fr.size
  have hsW : wr.heap.size ≤ W.heap.size := fW.size
  have hs2 : W.heap.size ≤ w2.heap.size := f1.size
  have hs3 : w2.heap.size + 1 ≤ w3.heap.size := by have := hgrow.size; simpa using this
  have F2 : Fr (fun i => some i = v.ownBlock) w2 w3 := ((((Fr.refl No w2).alloc (.cells t'.cells.toArray 27)).no).trans' (fr_grown hgrow) (fun i _ h => h))
  have F1 : Fr (fun i => some i = v.ownBlock) wr w3 := ((fW.trans f1).no (S := fun i => some i = v.ownBlock)).trans F2
  refine ⟨by simp [inv.len], ?_, inv.fr.trans' F1 (fun i hi h => by have := hol i h.symm; omega), by rw [rowCells_snoc]; exact hown, ?_, ?_, ?_⟩
  · rw [List.map_append, inv.vs, List.take_succ_eq_append_getElem hlt, List.map_append, List.map_singleton, List.map_singleton, hv]
  · intro x hx
    rcases List.mem_append.1 hx with hx | hx
    · have hb : ∀ b ∈ x.blocks, ¬ some b = v.ownBlock := fun b hb h => inv.sep x hx b hb h.symm
      exact T.Sp.more (Nat.le_refl _) F1.size x (T.Sp.fr F1 x hb (inv.sp x hx))
    · simp at hx; subst hx
      have hb : ∀ b ∈ x.blocks, ¬ some b = v.ownBlock := fun b hb h => by
        have h3 := T.In.blocks x hin b hb
        have := hol b h.symm
        omega
      exact T.Sp.more (by omega) F2.size x (T.Sp.fr F2 x hb hsh.sp)
  · rw [List.map_append, List.flatten_append, List.nodup_append]
    refine ⟨inv.nd, by simpa using hsh.nodup, fun a ha b hb e => ?_⟩
    subst e
    obtain ⟨L, hL, ha⟩ := List.mem_flatten.1 ha
    obtain ⟨x, hx, rfl⟩ := List.mem_map.1 hL
    have h1 := T.In.blocks x (hinn x hx) a ha
    have h2 := T.In.blocks t' hin a (by simpa using hb)
    omega
  · intro x hx b hb h
    simp [Value.ownBlock] at h
    subst h
    rcases List.mem_append.1 hx with hx | hx
    · rcases hat with h | h
      · exact inv.sep x hx _ hb h
      · have := T.In.blocks x (hinn x hx) _ hb; omega
    · simp at hx; subst hx
      have h3 := T.In.blocks x hin _ hb
      rcases hat with h | h
      · have := hol _ h; omega
      · omega

/-- A row of values in memory of its own, sorted. -/
structure SortR (l : List V) (w : World) (A : Option Addr) (cap : Nat) (C : List T) (w' : World) : Prop where
  perm : (C.map T.v).Perm l
  srt : C.Pairwise leT
  own : w'.ownsRow w.heap.size 27 5 (.slice A C.length cap) C.length (rowCells C)
  sp : ∀ x ∈ C, x.Sp w' w.heap.size w'.heap.size
  nd : ((C.map T.blocks).flatten).Nodup
  sep : ∀ x ∈ C, ∀ b ∈ x.blocks, (Value.slice A C.length cap).ownBlock ≠ some b
  fr : Fr No w w'

/-- What Sort answers. -/
def SortP (l : List V) (w : World) (e : Ending) (w' : World) : Prop :=
  (l.all V.may = true → ∃ A cap C, e = .returned (.tuple #[.slice A C.length cap, .int .i64 0]) ∧ SortR l w A cap C w') ∧ (l.all V.may = false → e = .returned (.tuple #[.slice none 0 0, .int .i64 2]) ∧ Fr No w w')

theorem Cp.sorted {w w1 w2 : World} {l : List T} {g cap : Nat} {l' C : List T} (h : Cp w l l.length (.slice (some ⟨g, 0, none⟩) l.length cap) l' w1) (p : C.Perm l') (s : C.Pairwise leT) (hr : Rw w2 w.heap.size g cap C) (f : Fr (fun i => i = g) w1 w2) :
    SortR (l.map T.v) w (some ⟨g, 0, none⟩) cap C w2 := by
  have hol := (owns_lt h.own g rfl).1
  refine ⟨?_, s, hr, fun x hx => ?_, (perm_flat (p.map T.blocks)).nodup_iff.2 h.nd, fun x hx b hb e => ?_, h.fr.trans' f (fun i hi e => by have e' : i = g := e; omega)⟩
  · have := p.map T.v
    rw [h.vs, List.take_of_length_le (Nat.le_refl _)] at this
    exact this
  · have hx' := p.mem_iff.1 hx
    exact T.Sp.more (Nat.le_refl _) f.size x (T.Sp.fr f x (fun b hb e => h.sep x hx' b hb (by have e' : b = g := e; rw [e']; rfl)) (h.sp x hx'))
  · exact h.sep x (p.mem_iff.1 hx) b hb (by simpa [Value.ownBlock] using e)

theorem Cp.els {w w1 : World} {l : List T} {g cap : Nat} {l' : List T} (h : Cp w l l.length (.slice (some ⟨g, 0, none⟩) l.length cap) l' w1) : Els w1 g l' :=
  ⟨fun x hx => T.In.more (Nat.zero_le _) (Nat.le_refl _) x (T.Sp.inn x (h.sp x hx)), fun x hx hg => h.sep x hx g hg rfl⟩

set_option maxRecDepth 100000 in
set_option maxHeartbeats 4000000 in
theorem sort_any (A : Option Addr) (cap : Nat) (l : List T) (hl : l.length ≤ 1000000) (w : World) (lo hi : Nat) (ht : (T.row A cap l).In w lo hi) (hh : hi ≤ w.heap.size) :
    Calls Try.prog 76 #[.slice A l.length cap] w (SortP (l.map T.v) w) := by
  have hA := fun w' h h' => allV_any A cap l w' lo hi h h'
  have hO := own2_any
  obtain ⟨i0, hi0, hz0, hz1, hz2⟩ := info_parts value_info
  cases ha : (l.map T.v).all V.may with
  | false =>
    rw [ha] at hA
    have HA := hide ha
    clear ha hO hi0 hz0 hz1 hz2
    go_enter Try.func76, Try.ntmps76
    go_wp2_with fail
    refine (hA w ht hh).mono ?_
    rintro e w2 ⟨rfl, f2⟩
    have HF := hide f2
    clear hA ht f2
    go_wp2
    go_ret2
    refine ⟨fun h => ?_, fun _ => ⟨rfl, HF.out⟩⟩
    rw [HA.out] at h; cases h
  | true =>
    rw [ha] at hA
    have HA := hide ha
    have HO := hide hO
    clear ha hO
    go_enter Try.func76, Try.ntmps76
    go_wp2_with fail
    refine (hA w ht hh).mono ?_
    rintro e w2 ⟨rfl, f2⟩
    have HF := hide f2
    have HT := hide ht
    clear hA ht f2
    go_wp2_with fail
    go_loopw [4, 12] (fun v i wr => ∃ (j : Nat) (A2 : Option Addr) (cap2 : Nat) (l' : List T), j ≤ l.length ∧ i = .int .i64 j ∧ v = .slice A2 j cap2 ∧ (j = 0 → A2 = none ∧ cap2 = 0) ∧ Cp w l j (.slice A2 j cap2) l' wr) (fun _ i _ => l.length - (intOf i).toNat)
    case atStart => exact ⟨0, none, 0, [], Nat.zero_le _, rfl, rfl, fun _ => ⟨rfl, rfl⟩, rfl, by simp, HF.out, World.ownsRow_nil _ _ _ _, by simp, by simp, by simp⟩
    case round =>
      obtain ⟨j, A2, cap2, l', hj, rfl, rfl, hz, inv⟩ := hrel
      have HZ := hide hz
      clear hz
      by_cases hlt : j < l.length
      · obtain ⟨b, o, k1, n1, s1, A1, cap1, l1, r1, rfl, hb0, hb1, hx, hin, e0, e1, e2, e3, e4⟩ := T.elem (HT.out.no inv.fr hh) hlt
        have hs := inv.fr.size
        have g0 : b < wr.heap.size := by omega
        have fW := (Fr.refl No wr).alloc (.cells #[.int .u8 k1, .int .i64 n1, .string s1, .slice A1 l1.length cap1, .int .i64 r1] 27)
        have hc := HO.out (T.mk k1 n1 s1 A1 cap1 l1 r1) _ lo hi (hin.no fW (by omega)) (Nat.le_trans (by omega : hi ≤ wr.heap.size) fW.size)
        rw [T.val_mk] at hc
        have HC := hide hc
        have HI := hide inv
        have HX := hide hx
        have HFW := hide fW
        clear hc inv hx fW hin
        go_wp2_with fail
        refine HC.out.mono ?_
        rintro e w3 ⟨⟨k5, n5, s5, A5, cap5, l5, r5⟩, rfl, hv5, hsh5, f3⟩
        rw [T.val_mk]
        have hfx := HFW.out.trans f3
        have ownA := (owns_fr HI.out.own hfx (fun _ _ h => h)).alloc (.cells #[.int .u8 k5, .int .i64 n5, .string s5, .slice A5 l5.length cap5, .int .i64 r5] 27)
        have hszw : w.heap.size ≤ w3.heap.size := (HI.out.fr.trans hfx).size
        have HF3 := hide f3
        have HV5 := hide hv5
        have HSH5 := hide hsh5
        clear f3 hfx hv5 hsh5 e0 e1 e2 e3 e4
        go_wp2_with (at_builtin; refine wpList_append_lies _ (by rfl) _ _ _ (by rfl) w.heap.size 27 i0 _ 5 64 Try.underlying24 hi0 hz0 hz1 hz2 (by rfl) (by omega) (.slice A2 j cap2) j (rowCells l') (by rfl) ownA ⟨w3.heap.size, 0, none⟩ 1 1 [.int .u8 k5, .int .i64 n5, .string s5, .slice A5 l5.length cap5, .int .i64 r5] (by rfl) (by rfl) (World.news_of_block (heap_alloc_new w3 _)) (by simp [Value.oneCell']) (by omega) (by unfold maxLen; omega) (by omega) (by simp; omega) (w3.heap.size + 1) (by simp) ?_; intro g cp w4 hown1 hgrow hat hlt1)
        have HNX := hide (Cp.push HI.out hlt (by rw [HX.out]; exact HV5.out) HFW.out HSH5.out HF3.out hown1 hgrow hat)
        clear hown1 hgrow hat ownA
        go_wp2
        go_roundw
        case rel => exact ⟨j + 1, _, _, _, hlt, by go_num, rfl, fun h => by omega, HNX.out⟩
        case measure => simp [intOf]; omega
      · obtain rfl : l.length = j := by omega
        by_cases h0 : l.length = 0
        · have hl : l = [] := List.eq_nil_of_length_eq_zero h0
          subst hl
          obtain ⟨rfl, rfl⟩ := HZ.out rfl
          have hc := sortStable_none wr
          have HI := hide inv
          clear inv h0
          go_wp2_with fail
          refine hc.mono ?_
          rintro e w3 ⟨⟨v3, rfl⟩, rfl⟩
          go_wp2
          go_ret2
          have I := HI.out
          refine ⟨fun _ => ⟨none, 0, [], rfl, ⟨.refl _, .nil, World.ownsRow_nil _ _ _ _, by simp, by simp, by simp, I.fr⟩⟩, fun h => by rw [HA.out] at h; cases h⟩
        · obtain ⟨g, c, hv, -⟩ := inv.own.form (by omega)
          simp only [Value.slice.injEq, true_and] at hv
          obtain ⟨rfl, rfl⟩ := hv
          have hc := sortStable_any l' wr w.heap.size g cap2 l.length inv.len hl (by have := inv.own; unfold Rw; rw [inv.len]; exact this) inv.els
          have HC := hide hc
          have HI := hide inv
          clear hc inv
          go_wp2_with fail
          refine HC.out.mono ?_
          rintro e w3 ⟨⟨v3, rfl⟩, ⟨C, pC, sC, hr⟩, f3⟩
          have hcl : l.length = C.length := by rw [pC.length_eq, HI.out.len]
          have HR := hide (HI.out.sorted pC sC hr f3)
          have HCL := hide hcl
          clear pC sC hr f3 hcl
          go_wp2
          go_ret2
          refine ⟨fun _ => ⟨_, cap2, C, ?_, HR.out⟩, fun h => by rw [HA.out] at h; cases h⟩
          rw [HCL.out]; rfl

end Go.Proofs.Ytihjmipmjogpoaa

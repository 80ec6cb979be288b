/- Texts joined: P8, P9, P10, P11, A3, G3, H0. -/
import Derived.Test.YtihjmipmjogpoaaJn9
import Derived.Test.YtihjmipmjogpoaaRows
import Derived.ProofKit
import Derived.OpenShut
import Derived.ChangeOld
/- Chapter 2: a value that came in, and its lent likeness, in a world behind. -/
namespace Go.Proofs.Ytihjmipmjogpoaa
open Go.RowKit

structure Lo (w wi : World) (b0 go : Nat) (v own : T) (lo hi : Nat) : Prop where
  bv : Blk wi b0 27 v.cells.toArray
  bo : Blk wi go 27 own.cells.toArray
  iv : v.In wi 0 w.heap.size
  io : own.In wi lo hi
  mo : own.Mk wi
  f : Fr No w wi
  h0 : w.heap.size ≤ b0
  h1 : b0 < lo
  h2 : lo ≤ hi
  h3 : hi ≤ go

theorem Lo.fr {S : Nat → Prop} {w wi wj : World} {b0 go : Nat} {v own : T} {lo hi : Nat} (h : Lo w wi b0 go v own lo hi) (f : Fr S wi wj) (hs : ∀ i, i ≤ go → ¬ S i) : Lo w wj b0 go v own lo hi := by
  have a := h.bo.lt
  have b := h.f.size
  have c := h.h0
  have d := h.h1
  have e := h.h2
  have g := h.h3
  exact ⟨h.bv.fr f (hs _ (by omega)), h.bo.fr f (hs _ (by omega)), h.iv.fr f b (fun i _ hi => hs i (by omega)), h.io.fr f (by omega) (fun i _ hi => hs i (by omega)),
    T.Mk.fr f (by omega) _ h.io (fun i hi => hs i (by have := T.In.blocks _ h.io i hi; omega)) h.mo, h.f.trans' f (fun i hi hS => hs i (by omega) hS), h.h0, h.h1, h.h2, h.h3⟩

theorem Lo.no {w wi wj : World} {b0 go : Nat} {v own : T} {lo hi : Nat} (h : Lo w wi b0 go v own lo hi) (f : Fr No wi wj) : Lo w wj b0 go v own lo hi := h.fr f fun _ _ h => h

theorem Lo.lt {w wi : World} {b0 go : Nat} {v own : T} {lo hi : Nat} (h : Lo w wi b0 go v own lo hi) : hi ≤ wi.heap.size := by have := h.bo.lt; have := h.h3; omega

theorem may_small {v : V} (h : v.may = true) : (v.size : Int) ≤ 1200 ∧ (v.ht : Int) ≤ 40 := by
  have h1 := ht_le_dep v (may_ok h)
  simp only [V.may, V.fits, Bool.and_eq_true, decide_eq_true_eq] at h
  omega

theorem rf_rng {w : World} {lo hi : Nat} (t : T) : t.In w lo hi → ∀ r ∈ t.v.rf, -9223372036854775808 ≤ r ∧ r ≤ 9223372036854775807 := by
  induction t using T.ind with
  | h k n s A cap l r ih =>
    intro h x hx
    obtain ⟨f, _, hl⟩ := T.in_mk.1 h
    rw [T.v_mk, V.rf_mk] at hx
    split at hx
    · simp at hx; subst hx; exact ⟨f.r0, f.r1⟩
    · obtain ⟨L, hL, hx⟩ := List.mem_flatten.1 hx
      obtain ⟨u, hu, rfl⟩ := List.mem_map.1 hL
      obtain ⟨y, hy, rfl⟩ := List.mem_map.1 hu
      exact ih y hy (hl y hy) x hx

theorem rf_pos (v : V) : v.ok = true → ∀ r ∈ v.rf, 1 ≤ r := by
  induction v using V.ind with
  | h k n s l r ih =>
    intro h x hx
    rw [V.ok_mk, Bool.and_eq_true, List.all_eq_true] at h
    rw [V.rf_mk] at hx
    split at hx
    · rename_i h4
      subst h4
      simp at hx
      subst hx
      have := h.1
      simp [fok] at this
      omega
    · obtain ⟨L, hL, hx⟩ := List.mem_flatten.1 hx
      obtain ⟨u, hu, rfl⟩ := List.mem_map.1 hL
      exact ih u hu (h.2 u hu) x hx

end Go.Proofs.Ytihjmipmjogpoaa

/- Chapter 2: the document's answer: Own. -/
namespace Go.Proofs.Ytihjmipmjogpoaa
open Go.RowKit

/-- What the document's Own gives. -/
def ROwnP (v : V) (w : World) (e : Ending) (w' : World) : Prop :=
  ∃ t' : T, e = .returned t'.val ∧ t'.v = v ∧ t'.In w' w.heap.size w'.heap.size ∧ Fr No w w'

/-- Where its loop stands. -/
structure ROInv (w : World) (X : Array Value) (k n : Int) (s : ByteArray) (r : Int) (l : List T) (j : Nat) (A : Option Addr) (cap : Nat) (l' : List T) (wr : World) : Prop where
  len : l'.length = j
  vs : l'.map T.v = (l.take j).map T.v
  fr : Fr No w wr
  b0 : Blk wr w.heap.size 27 X
  b1 : Blk wr (w.heap.size + 1) 27 #[.int .u8 0, .int .i64 0, .string ⟨#[]⟩, .slice none 0 0, .int .i64 0]
  b2 : Blk wr (w.heap.size + 1 + 1) 27 #[.int .u8 k, .int .i64 n, .string s, .slice A j cap, .int .i64 r]
  own : wr.ownsRow (w.heap.size + 3) 27 5 (.slice A j cap) j (rowCells l')
  inn : ∀ x ∈ l', x.In wr (w.heap.size + 3) wr.heap.size
  sep : ∀ x ∈ l', ∀ b ∈ x.blocks, (Value.slice A j cap).ownBlock ≠ some b
  big : w.heap.size + 3 ≤ wr.heap.size

theorem ro_push {w wr w2 w3 : World} {X : Array Value} {k n : Int} {s : ByteArray} {r : Int} {l : List T} {j : Nat} {A2 : Option Addr} {cap2 : Nat} {l' : List T} {t' : T} {g cp : Nat} (inv : ROInv w X k n s r l j A2 cap2 l' wr) (hlt : j < l.length) (hv : t'.v = l[j].v)
    (hin : t'.In w2 wr.heap.size w2.heap.size) (f1 : Fr No wr.drew w2) (hown : w3.ownsRow (w.heap.size + 3) 27 5 (.slice (some ⟨g, 0, none⟩) (j + 1) cp) (j + 1) (rowCells l' ++ t'.cells))
    (hgrow : (w2.alloc (.cells t'.cells.toArray 27)).grownBy w3 (Value.slice A2 j cap2).ownBlock) (hat : (Value.slice A2 j cap2).ownBlock = some g ∨ g = w2.heap.size + 1) :
    ROInv w X k n s r l (j + 1) (some ⟨g, 0, none⟩) cp (l' ++ [t']) (w3.setCell ⟨w.heap.size + 1 + 1, 3, none⟩ (.slice (some ⟨g, 0, none⟩) (j + 1) cp)) := by
  have big := inv.big
  have hol := inv.own.lt
  have hs2 : wr.heap.size ≤ w2.heap.size := f1.size
  have hs3 : w2.heap.size + 1 ≤ w3.heap.size := by have := hgrow.size; simpa using this
  have F2 : Fr (fun i => some i = (Value.slice A2 j cap2).ownBlock ∨ i = w.heap.size + 1 + 1) w2 (w3.setCell ⟨w.heap.size + 1 + 1, 3, none⟩ (.slice (some ⟨g, 0, none⟩) (j + 1) cp)) :=
    ((((Fr.refl No w2).alloc (.cells t'.cells.toArray 27)).no).trans' (fr_grown hgrow) (fun i _ h => .inl h)).set (fun _ => .inr rfl) _
  have F1 : Fr (fun i => some i = (Value.slice A2 j cap2).ownBlock ∨ i = w.heap.size + 1 + 1) wr (w3.setCell ⟨w.heap.size + 1 + 1, 3, none⟩ (.slice (some ⟨g, 0, none⟩) (j + 1) cp)) :=
    ((Fr.refl _ wr).drew.thenNo f1).trans F2
  have hgl := (owns_lt hown g rfl)
  have hn0 : ∀ i, i < w.heap.size + 3 → ¬ some i = (Value.slice A2 j cap2).ownBlock := fun i hi h => by have := hol i h.symm; omega
  refine ⟨by simp [inv.len], ?_, inv.fr.trans' F1 (fun i hi h => ?_), inv.b0.fr F1 ?_, inv.b1.fr F1 ?_, ?_, ?_, ?_, ?_, ?_⟩
  · rw [List.map_append, inv.vs, List.take_succ_eq_append_getElem hlt, List.map_append, List.map_singleton, List.map_singleton, hv]
  · rcases h with h | h
    · exact hn0 i (by omega) h
    · omega
  · rintro (h | h)
    · exact hn0 _ (by omega) h
    · omega
  · rintro (h | h)
    · exact hn0 _ (by omega) h
    · omega
  · have F3 : Fr (fun i => some i = (Value.slice A2 j cap2).ownBlock) wr w3 :=
      ((((Fr.refl _ wr).drew.thenNo f1).alloc (.cells t'.cells.toArray 27))).trans' (fr_grown hgrow) (fun i _ h => h)
    have := (inv.b2.fr F3 (hn0 _ (by omega))).set_ 3 (.slice (some ⟨g, 0, none⟩) (j + 1) cp)
    simpa using this
  · rw [rowCells_snoc]
    exact owns_fr hown ((Fr.refl (fun i => i = w.heap.size + 1 + 1) w3).set (fun _ => rfl) _) (fun i hi h => by
      simp [Value.ownBlock] at hi
      have h' : i = w.heap.size + 1 + 1 := h
      omega)
  · intro x hx
    have hsz := F1.size
    have hsz2 := F2.size
    rcases List.mem_append.1 hx with hx | hx
    · have h1 := inv.inn x hx
      have hb : ∀ b ∈ x.blocks, ¬ (some b = (Value.slice A2 j cap2).ownBlock ∨ b = w.heap.size + 1 + 1) := fun b hb h => by
        rcases h with h | h
        · exact inv.sep x hx b hb h.symm
        · have := T.In.blocks x h1 b hb; omega
      exact T.In.more (Nat.le_refl _) hsz x (In.fr_blocks F1 (Nat.le_refl _) x hb h1)
    · simp at hx; subst hx
      have hb : ∀ b ∈ x.blocks, ¬ (some b = (Value.slice A2 j cap2).ownBlock ∨ b = w.heap.size + 1 + 1) := fun b hb h => by
        have h3 := T.In.blocks x hin b hb
        rcases h with h | h
        · have := hol b h.symm; omega
        · omega
      exact T.In.more (by omega) hsz2 x (In.fr_blocks F2 (Nat.le_refl _) x hb hin)
  · intro x hx b hb h
    simp [Value.ownBlock] at h
    subst h
    rcases List.mem_append.1 hx with hx | hx
    · rcases hat with h | h
      · exact inv.sep x hx _ hb h
      · have := T.In.blocks x (inv.inn x hx) _ hb; omega
    · simp at hx; subst hx
      have h3 := T.In.blocks x hin _ hb
      rcases hat with h | h
      · have := hol _ h; omega
      · omega
  · have := F1.size; omega

set_option maxRecDepth 100000 in
set_option maxHeartbeats 8000000 in
theorem refOwn_any (t : T) : ∀ (w : World) (lo hi : Nat), t.In w lo hi → hi ≤ w.heap.size → Calls Try.prog 125 #[t.val] w (ROwnP t.v w) := by
  induction t using T.ind with
  | h k n s A cap l r ih =>
    intro w lo hi ht hh
    rw [T.val_mk]
    have fit := (T.in_mk.1 ht).1
    have hlen := fit.len1
    obtain ⟨i0, hi0, hz0, hz1, hz2⟩ := info_parts value_info
    go_enter Try.func125, Try.ntmps125
    go_wp2_with fail
    go_loopw [4] (fun i wr => ∃ (j : Nat) (A2 : Option Addr) (cap2 : Nat) (l' : List T), j ≤ l.length ∧ i = .int .i64 j ∧
        ROInv w #[.int .u8 k, .int .i64 n, .string s, .slice A l.length cap, .int .i64 r] k n s r l j A2 cap2 l' wr)
      (fun i _ => l.length - (intOf i).toNat)
    case atStart =>
      exact ⟨0, none, 0, [], Nat.zero_le _, rfl, rfl, by simp, ((((Fr.refl No w).alloc _).alloc _).alloc _), ((Blk.new' w 27 _ rfl).alloc _).alloc _, (Blk.new' (w.alloc _) 27 _ (by simp)).alloc _,
        Blk.new' ((w.alloc _).alloc _) 27 _ (by simp), World.ownsRow_nil _ _ _ _, by simp, by simp, by simp⟩
    case round =>
      obtain ⟨j, A2, cap2, l', hj, rfl, inv⟩ := hrel
      have fr := inv.fr
      have big := inv.big
      have own := inv.own
      have hsep0 : (Value.slice A2 j cap2).ownBlock ≠ some (w.heap.size + 1 + 1) := fun h => by have := own.lt _ h; omega
      obtain ⟨c0, c1, c2, c3, c4, cf⟩ := inv.b2.cells5
      obtain ⟨d0, d1, d2, d3, d4, df⟩ := inv.b0.cells5
      by_cases hlt : j < l.length
      · obtain ⟨b, o, k1, n1, s1, A1, cap1, l1, r1, rfl, hb0, hb1, hx, hin, e0, e1, e2, e3, e4⟩ := T.elem (ht.no fr hh) hlt
        have IH := ih l[j] (List.getElem_mem hlt)
        rw [hx] at IH
        have HX := hide hx
        rw [T.val_mk] at IH
        have hh0 : hi ≤ wr.heap.size := by omega
        have IH2 := IH wr.drew lo hi (hin.no ((Fr.refl No wr).drew) hh0) hh0
        have HIH := hide IH2
        have HI := hide inv
        have HB2 := hide inv.b2
        have HO := hide own
        have g0 : b < wr.heap.size := by omega
        have g1 : w.heap.size < wr.heap.size := by omega
        have g2 : w.heap.size + 1 + 1 < wr.heap.size := by omega
        have hv0' : some (w.heap.size + 1 + 1) ≠ (Value.slice A2 j cap2).ownBlock := Ne.symm hsep0
        have HH := hide hh
        clear hx ih inv ht IH IH2 fr own hin hh
        go_wp2_with fail
        go_region_law (first
          | ((refine step_append_lies _ (by rfl) _ _ _ (by rfl) (w.heap.size + 3) 27 i0 _ 5 64 Try.underlying24 hi0 hz0 hz1 hz2 rfl (by omega) (.slice A2 j cap2) j (rowCells l') (by rfl) ownD ⟨w2.heap.size, 0, none⟩ 1 1 [.int .u8 k5, .int .i64 n5, .string s5, .slice A5 l5.length cap5, .int .i64 r5] (by rfl) (by rfl) (World.news_of_block (Blk.new w2 27 _)) (by simp [Value.oneCell']) (by omega) (by unfold maxLen; omega) (by omega) (by simp; omega) _ rfl ?_); intro g cp w3 hown3 hgrow hat hlt3; obtain ⟨c5, f5⟩ := lent_grown hgrow c4D f4D (by simp; omega) hv0')
          | (go_simp; go_at_call 125; (with_reducible refine HIH.out.mono ?_); rintro e w2 ⟨⟨k5, n5, s5, A5, cap5, l5, r5⟩, rfl, hv5, hin5, fr1⟩; rw [T.val_mk]; obtain ⟨ownD, bD, c3D, c4D, f4D, hsz2, hlt2⟩ := lent_after (m := #[.int .u8 k5, .int .i64 n5, .string s5, .slice A5 l5.length cap5, .int .i64 r5]) HB2.out HO.out fr1))
        all_goals
          go_wp2
          go_roundw
          case rel =>
            exact ⟨j + 1, _, _, _, hlt, by go_num, ro_push HI.out hlt (hv5.trans (congrArg T.v HX.out).symm) hin5 fr1 hown3 hgrow (by simpa using hat)⟩
          case measure => simp [intOf]; omega
      · obtain rfl : l.length = j := by omega
        obtain ⟨y0, y1, y2, y3, y4, yf⟩ := inv.b1.cells5
        have q1 := inv.b1.lt
        have q2 := inv.b2.lt
        have hil := inv.len
        have HI := hide inv
        have hb : ∀ x ∈ l', ∀ b ∈ x.blocks, w.heap.size + 3 ≤ b ∧ b < wr.heap.size := fun x hx b hb => T.In.blocks x (inv.inn x hx) b hb
        have HBL := hide hb
        clear ih inv ht fr own hh hb
        go_wp2_with fail
        refine bodyPost_ret (v := .agg #[.int .u8 k, .int .i64 n, .string s, .slice A2 l.length cap2, .int .i64 r]) (by simp [results, Try.results125, go_sem, *]) rfl ?_
        generalize hW : World.setCell _ _ _ = W
        have hfr : Fr (fun i => i = w.heap.size + 1) wr W := by
          rw [← hW]
          repeat (first | with_reducible exact Fr.refl _ wr | with_reducible refine Fr.set ?_ (by simp) _)
        have inv := HI.out
        have hol := inv.own.lt
        have own2 := owns_fr inv.own hfr (fun g hg h => by have := hol g hg; have h' : g = w.heap.size + 1 := h; omega)
        have hle := owns_le own2
        have hinn : ∀ x ∈ l', x.In W w.heap.size W.heap.size := fun x hx => T.In.more (by omega) hfr.size x (In.fr_blocks hfr (Nat.le_refl _) x (fun b hb h => by have := HBL.out x hx b hb; have h' : b = w.heap.size + 1 := h; omega) (inv.inn x hx))
        refine ⟨T.mk k n s A2 cap2 l' r, by rw [T.val_mk, hil], ?_, T.in_mk.2 ⟨⟨fit.k0, fit.k1, fit.n0, fit.n1, fit.s1, by rw [hil]; exact hlen, by rw [hil]; exact hle, fit.r0, fit.r1⟩, fun hne => ?_, hinn⟩, inv.fr.trans' hfr (fun i hi h => by have h' : i = w.heap.size + 1 := h; omega)⟩
        · rw [T.v_mk, T.v_mk, inv.vs, List.take_of_length_le (Nat.le_refl _)]
        · have hpos : 0 < l.length := by
            cases l' with
            | nil => exact absurd rfl hne
            | cons x l' => simp at hil; omega
          obtain ⟨g, c, hA, hg0, hg1⟩ := own2.form hpos
          simp only [Value.slice.injEq, true_and] at hA
          obtain ⟨rfl, rfl⟩ := hA
          refine ⟨g, 0, rfl, by omega, hg1, fun i x hx c u hu => ?_⟩
          have := World.ownsRow.cells own2 (g := g) rfl _ _ (rowCells_get l' i c x u hx hu)
          rw [add_at, ← Nat.add_assoc] at this
          exact this

end Go.Proofs.Ytihjmipmjogpoaa

/- Chapter 2: lists of values, lent; kept; may all be? -/
namespace Go.Proofs.Ytihjmipmjogpoaa
open Go.RowKit

/-- What lentAll gives. -/
structure LentAllP (l : List T) (w : World) (e : Ending) (w' : World) (g c : Nat) (l' : List T) : Prop where
  e : e = .returned (.slice (some ⟨g, 0, none⟩) l.length c)
  len : l'.length = l.length
  vs : l'.map T.v = l.map T.v
  inn : (T.row (some ⟨g, 0, none⟩) c l').In w' w.heap.size w'.heap.size
  mks : ∀ x ∈ l', x.Mk w'
  g0 : w.heap.size ≤ g
  g1 : g < w'.heap.size
  cap : l.length + 1 ≤ c
  mark : w'.cell? ⟨g, l.length * 5 + 1, none⟩ = some (.int .i64 78)
  fr : Fr No w w'

structure LAInv (w : World) (l : List T) (j : Nat) (A : Option Addr) (cap : Nat) (l' : List T) (wr : World) : Prop where
  len : l'.length = j
  vs : l'.map T.v = (l.take j).map T.v
  fr : Fr No w wr
  own : wr.ownsRow w.heap.size 27 5 (.slice A j cap) j (rowCells l')
  inn : ∀ x ∈ l', x.In wr w.heap.size wr.heap.size ∧ x.Mk wr
  sep : ∀ x ∈ l', ∀ b ∈ x.blocks, (Value.slice A j cap).ownBlock ≠ some b

theorem la_step {w wr w2 w3 : World} {l : List T} {j : Nat} {A2 : Option Addr} {cap2 : Nat} {l' : List T} {m : Array Value} (inv : LAInv w l j A2 cap2 l' wr) (f1 : Fr No wr w2) (hgrow : (w2.alloc (.cells m 27)).grownBy w3 (Value.slice A2 j cap2).ownBlock) :
    Fr No w w3 ∧ (∀ x ∈ l', x.In w3 w.heap.size w3.heap.size ∧ x.Mk w3) := by
  have hol := inv.own.lt
  have F1 : Fr (fun i => some i = (Value.slice A2 j cap2).ownBlock) wr w3 := ((Fr.refl _ wr).thenNo f1 |>.alloc (.cells m 27)).trans' (fr_grown hgrow) (fun i _ h => h)
  refine ⟨inv.fr.trans' F1 (fun i hi h => by have := hol i h.symm; omega), fun x hx => ?_⟩
  obtain ⟨h1, h2⟩ := inv.inn x hx
  have hb : ∀ b ∈ x.blocks, ¬ (some b = (Value.slice A2 j cap2).ownBlock) := fun b hb h => inv.sep x hx b hb h.symm
  exact ⟨T.In.more (Nat.le_refl _) F1.size x (In.fr_blocks F1 (Nat.le_refl _) x hb h1), T.Mk.fr F1 (Nat.le_refl _) x h1 hb h2⟩

theorem la_push {w wr w2 w3 : World} {l : List T} {j : Nat} {A2 : Option Addr} {cap2 : Nat} {l' : List T} {t' : T} {g cp : Nat} (inv : LAInv w l j A2 cap2 l' wr) (hlt : j < l.length) (hv : t'.v = l[j].v)
    (hin : t'.In w2 wr.heap.size w2.heap.size) (hmk : t'.Mk w2) (f1 : Fr No wr w2) (hown : w3.ownsRow w.heap.size 27 5 (.slice (some ⟨g, 0, none⟩) (j + 1) cp) (j + 1) (rowCells l' ++ t'.cells))
    (hgrow : (w2.alloc (.cells t'.cells.toArray 27)).grownBy w3 (Value.slice A2 j cap2).ownBlock) (hat : (Value.slice A2 j cap2).ownBlock = some g ∨ g = w2.heap.size + 1) :
    LAInv w l (j + 1) (some ⟨g, 0, none⟩) cp (l' ++ [t']) w3 := by
  obtain ⟨hf, hl'⟩ := la_step inv f1 hgrow
  have hol := inv.own.lt
  have hs0 := inv.fr.size
  have hs2 : wr.heap.size ≤ w2.heap.size := f1.size
  have F2 : Fr (fun i => some i = (Value.slice A2 j cap2).ownBlock) w2 w3 := (((Fr.refl No w2).alloc (.cells t'.cells.toArray 27)).no).trans' (fr_grown hgrow) (fun i _ h => h)
  refine ⟨by simp [inv.len], ?_, hf, by rw [rowCells_snoc]; exact hown, ?_, ?_⟩
  · rw [List.map_append, inv.vs, List.take_succ_eq_append_getElem hlt, List.map_append, List.map_singleton, List.map_singleton, hv]
  · intro x hx
    rcases List.mem_append.1 hx with hx | hx
    · exact hl' x hx
    · simp at hx; subst hx
      have hb : ∀ b ∈ x.blocks, ¬ (some b = (Value.slice A2 j cap2).ownBlock) := fun b hb h => by
        have h3 := T.In.blocks x hin b hb
        have := hol b h.symm; omega
      exact ⟨T.In.more (by omega) F2.size x (In.fr_blocks F2 (Nat.le_refl _) x hb hin), T.Mk.fr F2 (Nat.le_refl _) x hin hb hmk⟩
  · intro x hx b hb h
    simp [Value.ownBlock] at h
    subst h
    rcases List.mem_append.1 hx with hx | hx
    · rcases hat with h | h
      · exact inv.sep x hx _ hb h
      · have := T.In.blocks x (inv.inn x hx).1 _ hb; omega
    · simp at hx; subst hx
      have h3 := T.In.blocks x hin _ hb
      rcases hat with h | h
      · have := hol _ h; omega
      · omega

set_option maxRecDepth 100000 in
set_option maxHeartbeats 8000000 in
theorem lentAll_any (A : Option Addr) (cap : Nat) (l : List T) (w : World) (lo hi : Nat) (ht : (T.row A cap l).In w lo hi) (hh : hi ≤ w.heap.size) :
    Calls Try.prog 64 #[.slice A l.length cap] w fun e w' => ∃ g c l', LentAllP l w e w' g c l' := by
  have hlen := (T.in_mk.1 ht).1.len1
  obtain ⟨i0, hi0, hz0, hz1, hz2⟩ := info_parts value_info
  have hmk := fun W => run_make_rowN (P := Try.prog) 24 27 i0 _ Try.underlying24 hi0 hz0 .i64 .i64 0 (l.length + 1) (by omega) (by rw [hz2]; omega) (by omega) W
  rw [hz1] at hmk
  have hmk : ∀ W, (Instr.makeSlice 24 (.int .i64 0) (.int .i64 ((l.length : Int) + 1))).run Try.prog W = .ok (.slice (some ⟨W.heap.size, 0, none⟩) 0 (l.length + 1)) (W.alloc (.cells (madeCells (Value.agg #[.int .u8 0, .int .i64 0, .string ⟨#[]⟩, .slice none 0 0, .int .i64 0]).cells ((l.length + 1) * 5)) 27)) := hmk
  go_enter Try.func64, Try.ntmps64
  go_wp2_with fail
  go_loopw [3, 4] (fun v i wr => ∃ (j : Nat) (A2 : Option Addr) (cap2 : Nat) (l' : List T), j ≤ l.length ∧ i = .int .i64 j ∧ v = .slice A2 j cap2 ∧ LAInv w l j A2 cap2 l' wr) (fun _ i _ => l.length - (intOf i).toNat)
  case atStart =>
    refine ⟨0, some ⟨w.heap.size, 0, none⟩, l.length + 1, [], Nat.zero_le _, rfl, rfl, rfl, by simp, (Fr.refl No w).alloc _, ?_, by simp, by simp⟩
    exact World.ownsRow_made (base := w.heap.size) (e := 27) (size := 5) w (madeCells #[.int .u8 0, .int .i64 0, .string ⟨#[]⟩, .slice none 0 0, .int .i64 0] ((l.length + 1) * 5)) (l.length + 1) (Nat.le_refl _) (by unfold maxLen; omega) (size_madeCells _ _)
  case round =>
    obtain ⟨j, A2, cap2, l', hj, rfl, rfl, inv⟩ := hrel
    have fr := inv.fr
    have hsz := fr.size
    by_cases hlt : j < l.length
    · obtain ⟨b, o, k1, n1, s1, A1, cap1, l1, r1, rfl, hb0, hb1, hx, hin, e0, e1, e2, e3, e4⟩ := T.elem (ht.no fr hh) hlt
      have hc := lent_any l[j] wr lo hi (by rw [hx]; exact hin) (by omega)
      rw [hx, T.val_mk] at hc
      have HC := hide hc
      have HX := hide hx
      have HI := hide inv
      have g0 : b < wr.heap.size := by omega
      clear hc hx inv ht hmk fr hin
      go_wp2_with fail
      refine HC.out.mono ?_
      rintro e w2 ⟨⟨k5, n5, s5, A5, cap5, l5, r5⟩, rfl, hv5, hin5, hmk5, f1⟩
      rw [T.val_mk]
      have hs2 := f1.size
      have hownA := (owns_fr HI.out.own f1 fun _ _ h => h).alloc (.cells #[.int .u8 k5, .int .i64 n5, .string s5, .slice A5 l5.length cap5, .int .i64 r5] 27)
      have HV5 := hide hv5
      have HIN5 := hide hin5
      have HMK5 := hide hmk5
      have HF1 := hide f1
      clear hv5 hin5 hmk5 f1
      go_wp2_with (at_builtin; refine wpList_append_lies _ (by rfl) _ _ _ (by rfl) w.heap.size 27 i0 _ 5 64 Try.underlying24 hi0 hz0 hz1 hz2 (by rfl) (by omega) (.slice A2 j cap2) j (rowCells l') (by rfl) hownA ⟨w2.heap.size, 0, none⟩ 1 1 [.int .u8 k5, .int .i64 n5, .string s5, .slice A5 l5.length cap5, .int .i64 r5] (by rfl) (by rfl) (World.news_of_block (Blk.new w2 27 _)) (by simp [Value.oneCell']) (by omega) (by unfold maxLen; omega) (by omega) (by simp; omega) (w2.heap.size + 1) (by simp) ?_; intro g cp w3 hown3 hgrow hat hlt3; have HP := hide (la_push HI.out hlt (HV5.out.trans (congrArg T.v HX.out).symm) HIN5.out HMK5.out HF1.out hown3 hgrow hat); clear hown3 hgrow hat hlt3)
      go_roundw
      case rel => exact ⟨j + 1, _, _, _, hlt, by go_num, rfl, HP.out⟩
      case measure => simp [intOf]; omega
    · obtain rfl : l.length = j := by omega
      have HI := hide inv
      have hnum := fun w3 => num2_any 78 w3
      clear inv ht hmk fr
      go_wp2_with fail
      refine (hnum wr).mono ?_
      rintro e w2 ⟨rfl, f1⟩
      have hs2 := f1.size
      have hownA := (owns_fr HI.out.own f1 fun _ _ h => h).alloc (.cells #[.int .u8 1, .int .i64 78, .string ⟨#[]⟩, .slice none 0 0, .int .i64 0] 27)
      have HF1 := hide f1
      clear f1 hnum
      go_wp2_with (at_builtin; refine wpList_append_lies _ (by rfl) _ _ _ (by rfl) w.heap.size 27 i0 _ 5 64 Try.underlying24 hi0 hz0 hz1 hz2 (by rfl) (by omega) (.slice A2 l.length cap2) l.length (rowCells l') (by rfl) hownA ⟨w2.heap.size, 0, none⟩ 1 1 [.int .u8 1, .int .i64 78, .string ⟨#[]⟩, .slice none 0 0, .int .i64 0] (by rfl) (by rfl) (World.news_of_block (Blk.new w2 27 _)) (by simp [Value.oneCell']) (by omega) (by unfold maxLen; omega) (by omega) (by simp; omega) (w2.heap.size + 1) (by simp) ?_; intro g cp w3 hown3 hgrow hat hlt3; have hcp := owns_le hown3; have hcp2 : (l.length : Int) ≤ (cp : Int) := (by omega); have HO3 := hide hown3; have HG := hide hgrow; have HA := hide hat; clear hown3 hgrow hat)
      go_ret
      obtain ⟨hf, hl'⟩ := la_step HI.out HF1.out HG.out
      have hll := HI.out.len
      have hcell : ∀ i u, (rowCells l' ++ [.int .u8 1, .int .i64 78, .string ⟨#[]⟩, .slice none 0 0, .int .i64 0])[i]? = some u → w3.cell? ⟨g, 0 + i, none⟩ = some u := fun i u hu => by
        have := World.ownsRow.cells HO3.out (g := g) rfl i u hu
        rwa [add_at] at this
      have hrl := rowCells_length l'
      have hgl := owns_lt HO3.out g rfl
      refine ⟨g, cp, l', rfl, hll, ?_, T.in_mk.2 ⟨⟨by decide, by decide, by decide, by decide, by decide, by rw [hll]; exact hlen, by rw [hll]; omega, by decide, by decide⟩, fun _ => ⟨g, 0, rfl, hgl.1, hgl.2, fun i x hx c u hu => ?_⟩, fun x hx => (hl' x hx).1⟩, fun x hx => (hl' x hx).2, hgl.1, hgl.2, by omega, ?_, hf⟩
      · rw [HI.out.vs, List.take_of_length_le (Nat.le_refl _)]
      · have h1 := rowCells_get l' i c x u hx hu
        have h2 := hcell (i * 5 + c) u (by rw [List.getElem?_append_left (List.getElem?_eq_some_iff.1 h1).1]; exact h1)
        rwa [← Nat.add_assoc] at h2
      · have h2 := hcell (l'.length * 5 + 1) (.int .i64 78) (by rw [List.getElem?_append_right (by omega), hrl, show l'.length * 5 + 1 - l'.length * 5 = 1 by omega]; rfl)
        rwa [Nat.zero_add, hll] at h2

set_option maxRecDepth 100000 in
set_option maxHeartbeats 8000000 in
theorem keptAll_any (g c cap : Nat) (A : Option Addr) (l' l : List T) (w : World) (lo hi lo' hi' : Nat) (ha : (T.row (some ⟨g, 0, none⟩) c l').In w lo hi) (hh : hi ≤ w.heap.size) (hm : ∀ x ∈ l', x.Mk w) (hb : (T.row A cap l).In w lo' hi') (hh' : hi' ≤ w.heap.size) (hg : g < hi)
    (hll : l'.length = l.length) (hv : l'.map T.v = l.map T.v) (hc : l.length + 1 ≤ c) (hmark : w.cell? ⟨g, l.length * 5 + 1, none⟩ = some (.int .i64 78)) :
    Calls Try.prog 67 #[.slice (some ⟨g, 0, none⟩) l.length c, .slice A l.length cap] w fun e w' => e = .returned (.bool true) ∧ Fr No w w' := by
  have hlen := (T.in_mk.1 hb).1.len1
  have HLL := hide hll
  have HV := hide hv
  have hcc : (l.length : Int) + 1 ≤ (c : Int) := by omega
  have HC := hide hc
  have HMK := hide hmark
  have HM := hide hm
  clear hll hv hc hmark hm
  go_enter Try.func67, Try.ntmps67
  go_wp2_with fail
  go_loopw [5] (fun i wr => ∃ j : Nat, j ≤ l.length ∧ i = .int .i64 j ∧ Fr No w wr) (fun i _ => l.length - (intOf i).toNat)
  case atStart => exact ⟨0, Nat.zero_le _, rfl, Fr.refl _ _⟩
  case round =>
    obtain ⟨j, hj, rfl, fr⟩ := hrel
    have hsz := fr.size
    by_cases hlt : j < l.length
    · have hlt' : j < l'.length := by have := HLL.out; omega
      obtain ⟨b, o, k1, n1, s1, A1, cap1, l1, r1, hA1, hb0, hb1, hx, hin, e0, e1, e2, e3, e4⟩ := T.elem (ha.no fr hh) hlt'
      simp only [Option.some.injEq, Addr.mk.injEq, and_true] at hA1
      obtain ⟨rfl, rfl⟩ := hA1
      obtain ⟨b', o', k2, n2, s2, A2, cap2, l2, r2, rfl, hb0', hb1', hx', hin', f0, f1, f2, f3, f4⟩ := T.elem (hb.no fr hh') hlt
      have hm1 : (T.mk k1 n1 s1 A1 cap1 l1 r1).Mk wr := by
        have h1 := (T.in_mk.1 ha).2.2 _ (List.getElem_mem hlt')
        have h2 := T.Mk.no fr hh h1 (HM.out _ (List.getElem_mem hlt'))
        rw [hx] at h2
        exact h2
      have hve : (T.mk k1 n1 s1 A1 cap1 l1 r1).v = (T.mk k2 n2 s2 A2 cap2 l2 r2).v := by
        have := congrArg (fun q => q[j]?) HV.out
        simp [hlt, hlt'] at this
        rw [hx, hx'] at this
        exact this
      have IH := fun w1 (f : Fr No wr w1) => kept_any (T.mk k1 n1 s1 A1 cap1 l1 r1) (T.mk k2 n2 s2 A2 cap2 l2 r2) w1 lo hi lo' hi' (hin.no f (by omega)) (by have := f.size; omega) (T.Mk.no f (by omega) hin hm1) (hin'.no f (by omega)) (by have := f.size; omega) hve
      rw [T.val_mk, T.val_mk] at IH
      have HIH := hide IH
      have g0 : g < wr.heap.size := by omega
      have g1 : b' < wr.heap.size := by omega
      have HF := hide fr
      simp only [Nat.zero_add] at e0 e1 e2 e3 e4
      clear hx hx' fr ha hb hm1 hve IH hin hin'
      go_wp2_with fail
      go_region_held3 (fun w' => (∀ c i, c < wr.heap.size → w'.cell? ⟨c, i, none⟩ = wr.cell? ⟨c, i, none⟩) ∧ Fr No wr w')
        (first | exact ⟨fun _ _ _ => rfl, Fr.drew (Fr.refl No wr)⟩ | (have hq : Fr No wr _ := (‹_ ∧ Fr No wr _›).2.trans ‹Fr No _ _›; exact ⟨hq.cells, hq⟩))
        (first
          | (go_at_call 45; have hs0 := (‹_ ∧ Fr No wr _›).2; ((with_reducible refine (HIH.out _ ?_).mono ?_); (exact hs0); rintro e w2 ⟨rfl, fr1⟩)))
      have HF2 := hide (‹_ ∧ Fr No wr _›).2
      go_wp2
      go_roundw
      case rel => exact ⟨j + 1, hlt, by go_num, HF.out.trans HF2.out⟩
      case measure => simp [intOf]; omega
    · obtain rfl : l.length = j := by omega
      have hcell := (fr.cell (b := g) (o := l.length * 5 + 1) (s := none) (by omega) (fun h => h)).trans HMK.out
      have g0 : g < wr.heap.size := by omega
      have HW := hide fr
      clear fr ha hb
      go_wp2
      go_ret
      exact ⟨rfl, HW.out⟩

end Go.Proofs.Ytihjmipmjogpoaa

/- Chapter 2: Of, the program's and the document's. -/
namespace Go.Proofs.Ytihjmipmjogpoaa
open Go.RowKit

theorem all1_any (t : T) (w : World) (lo hi : Nat) (ht : t.In w lo hi) (hh : hi ≤ w.heap.size) : Calls Try.prog 152 #[t.val] w fun e w' => e = .returned (.bool (!t.v.may)) ∧ Fr No w w' := by
  have IH := fun w' h h' => may_any t w' lo hi h h'
  cases t with
  | mk k n s A cap l r =>
    rw [T.val_mk] at *
    generalize (T.mk k n s A cap l r).v.may = z at *
    cases z
    all_goals
      go_enter Try.func152, Try.ntmps152
      go_wp2_with fail
      refine (IH _ (ht.no ((Fr.refl No w).alloc _) hh) (by simp; omega)).mono ?_
      rintro e w2 ⟨rfl, fr2⟩
      go_wp2
      go_ret
      exact ⟨rfl, ((Fr.refl No w).alloc _).trans fr2⟩

set_option maxRecDepth 100000 in
set_option maxHeartbeats 4000000 in
theorem indexV_any (A : Option Addr) (cap : Nat) (l : List T) (w : World) (lo hi : Nat) (ht : (T.row A cap l).In w lo hi) (hh : hi ≤ w.heap.size) :
    Calls Try.prog 158 #[.slice A l.length cap, .func (.func 152) #[] #[]] w fun e w' => (∃ z : Int, e = .returned (.int .i64 z) ∧ ((0 ≤ z ∧ (l.map T.v).all V.may = false) ∨ (z = -1 ∧ (l.map T.v).all V.may = true))) ∧ Fr No w w' := by
  have hlen := (T.in_mk.1 ht).1.len1
  have hB := all1_any
  go_enter Try.func158, Try.ntmps158
  go_wp2_with fail
  go_loopw [8] (fun i wr => ∃ j : Nat, j ≤ l.length ∧ i = .int .i64 j ∧ Fr No w wr ∧ ∀ v ∈ (l.map T.v).take j, v.may = true) (fun i _ => l.length - (intOf i).toNat)
  case atStart => exact ⟨0, Nat.zero_le _, rfl, Fr.refl _ _, by simp⟩
  case round =>
    obtain ⟨j, hj, rfl, fr, hall⟩ := hrel
    have HA := hide hall
    have hsz := fr.size
    clear hall
    by_cases hlt : j < l.length
    · obtain ⟨b, o, k1, n1, s1, A1, cap1, l1, r1, rfl, hb0, hb1, hx, hin, e0, e1, e2, e3, e4⟩ := T.elem (ht.no fr hh) hlt
      have hc := hB l[j] wr lo hi (by rw [hx]; exact hin) (by omega)
      have hj' : j < (l.map T.v).length := by simpa using hlt
      have hxv : (l.map T.v)[j] = (T.mk k1 n1 s1 A1 cap1 l1 r1).v := by rw [List.getElem_map, hx]
      rw [hx, T.val_mk] at hc
      generalize (T.mk k1 n1 s1 A1 cap1 l1 r1).v = u at *
      have g0 : b < wr.heap.size := by omega
      have htk : (l.map T.v).take (j + 1) = (l.map T.v).take j ++ [u] := by rw [List.take_succ_eq_append_getElem hj', hxv]
      have hmem : u ∈ l.map T.v := by rw [← hxv]; exact List.getElem_mem hj'
      have HT := hide htk
      have HM := hide hmem
      have HF := hide fr
      clear hx hxv htk hmem fr hin hB ht
      cases hm : u.may with
      | false =>
        rw [hm] at hc
        have HC := hide hc
        have hno : (l.map T.v).all V.may = false := by
          rw [Bool.eq_false_iff]
          intro h
          rw [List.all_eq_true.1 h u HM.out] at hm
          cases hm
        have HN := hide hno
        clear hc hno hm
        go_wp2_with fail
        refine HC.out.mono ?_
        rintro e w2 ⟨rfl, f2⟩
        have HF2 := hide (HF.out.trans f2)
        clear f2
        go_wp2
        go_ret
        exact ⟨⟨_, rfl, .inl ⟨by omega, HN.out⟩⟩, HF2.out⟩
      | true =>
        rw [hm] at hc
        have HC := hide hc
        have HMM := hide hm
        clear hc hm
        go_wp2_with fail
        refine HC.out.mono ?_
        rintro e w2 ⟨rfl, f2⟩
        have HF2 := hide (HF.out.trans f2)
        clear f2
        go_wp2
        go_roundw
        case rel =>
          refine ⟨j + 1, hlt, by go_num, HF2.out, fun v hv => ?_⟩
          rw [HT.out] at hv
          rcases List.mem_append.1 hv with hv | hv
          · exact HA.out v hv
          · simp at hv; subst hv; exact HMM.out
        case measure => simp [intOf]; omega
    · obtain rfl : l.length = j := by omega
      have hyes : (l.map T.v).all V.may = true := List.all_eq_true.2 fun v hv => HA.out v (by rw [List.take_of_length_le (by simp)]; exact hv)
      have HY := hide hyes
      have HF := hide fr
      clear fr hyes ht hB
      go_wp2
      go_ret
      exact ⟨⟨-1, rfl, .inr ⟨rfl, HY.out⟩⟩, HF.out⟩

theorem containsV_any (A : Option Addr) (cap : Nat) (l : List T) (w : World) (lo hi : Nat) (ht : (T.row A cap l).In w lo hi) (hh : hi ≤ w.heap.size) :
    Calls Try.prog 151 #[.slice A l.length cap, .func (.func 152) #[] #[]] w fun e w' => e = .returned (.bool (!(l.map T.v).all V.may)) ∧ Fr No w w' := by
  have hI := indexV_any A cap l w lo hi ht hh
  generalize (l.map T.v).all V.may = q at *
  clear ht
  go_enter Try.func151, Try.ntmps151
  go_wp2_with fail
  refine hI.mono ?_
  rintro e w2 ⟨⟨z, rfl, hz⟩, fr2⟩
  rcases hz with ⟨h0, rfl⟩ | ⟨rfl, rfl⟩
  · have h1 : decide ((0 : Int) ≤ z) = true := by simpa using h0
    go_wp2
    go_ret
    exact ⟨rfl, fr2⟩
  · go_wp2
    go_ret
    exact ⟨rfl, fr2⟩

/-- May all be? -/
theorem allV_any (A : Option Addr) (cap : Nat) (l : List T) (w : World) (lo hi : Nat) (ht : (T.row A cap l).In w lo hi) (hh : hi ≤ w.heap.size) :
    Calls Try.prog 123 #[.slice A l.length cap] w fun e w' => e = .returned (.bool ((l.map T.v).all V.may)) ∧ Fr No w w' := by
  have hI := containsV_any A cap l w lo hi ht hh
  generalize (l.map T.v).all V.may = q at *
  clear ht
  cases q
  all_goals
    go_enter Try.func123, Try.ntmps123
    go_wp2_with fail
    refine hI.mono ?_
    rintro e w2 ⟨rfl, fr2⟩
    go_wp2
    go_ret
    exact ⟨rfl, fr2⟩

set_option maxRecDepth 100000 in
set_option maxHeartbeats 4000000 in
/-- The document's MayAll. -/
theorem refMayAll_any (A : Option Addr) (cap : Nat) (l : List T) (w : World) (lo hi : Nat) (ht : (T.row A cap l).In w lo hi) (hh : hi ≤ w.heap.size) :
    Calls Try.prog 124 #[.slice A l.length cap] w fun e w' => e = .returned (.bool ((l.map T.v).all V.may)) ∧ Fr No w w' := by
  have hlen := (T.in_mk.1 ht).1.len1
  have hB := refMay_any
  go_enter Try.func124, Try.ntmps124
  go_wp2_with fail
  go_loopw [3] (fun i wr => ∃ j : Nat, j ≤ l.length ∧ i = .int .i64 j ∧ Fr No w wr ∧ ∀ v ∈ (l.map T.v).take j, v.may = true) (fun i _ => l.length - (intOf i).toNat)
  case atStart => exact ⟨0, Nat.zero_le _, rfl, Fr.refl _ _, by simp⟩
  case round =>
    obtain ⟨j, hj, rfl, fr, hall⟩ := hrel
    have HA := hide hall
    have hsz := fr.size
    clear hall
    by_cases hlt : j < l.length
    · obtain ⟨b, o, k1, n1, s1, A1, cap1, l1, r1, rfl, hb0, hb1, hx, hin, e0, e1, e2, e3, e4⟩ := T.elem (ht.no fr hh) hlt
      have hc := hB l[j] wr lo hi (by rw [hx]; exact hin) (by omega)
      have hj' : j < (l.map T.v).length := by simpa using hlt
      have hxv : (l.map T.v)[j] = (T.mk k1 n1 s1 A1 cap1 l1 r1).v := by rw [List.getElem_map, hx]
      rw [hx, T.val_mk] at hc
      generalize (T.mk k1 n1 s1 A1 cap1 l1 r1).v = u at *
      have g0 : b < wr.heap.size := by omega
      have htk : (l.map T.v).take (j + 1) = (l.map T.v).take j ++ [u] := by rw [List.take_succ_eq_append_getElem hj', hxv]
      have hmem : u ∈ l.map T.v := by rw [← hxv]; exact List.getElem_mem hj'
      have HT := hide htk
      have HM := hide hmem
      have HF := hide fr
      clear hx hxv htk hmem fr hin hB ht
      cases hm : u.may with
      | false =>
        rw [hm] at hc
        have HC := hide hc
        have hno : (l.map T.v).all V.may = false := by
          rw [Bool.eq_false_iff]
          intro h
          rw [List.all_eq_true.1 h u HM.out] at hm
          cases hm
        have HN := hide hno
        clear hc hno hm
        go_wp2_with fail
        refine HC.out.mono ?_
        rintro e w2 ⟨rfl, f2⟩
        have HF2 := hide (HF.out.trans f2)
        clear f2
        go_wp2
        go_ret
        exact ⟨by rw [HN.out]; rfl, HF2.out⟩
      | true =>
        rw [hm] at hc
        have HC := hide hc
        have HMM := hide hm
        clear hc hm
        go_wp2_with fail
        refine HC.out.mono ?_
        rintro e w2 ⟨rfl, f2⟩
        have HF2 := hide (HF.out.trans f2)
        clear f2
        go_wp2
        go_roundw
        case rel =>
          refine ⟨j + 1, hlt, by go_num, HF2.out, fun v hv => ?_⟩
          rw [HT.out] at hv
          rcases List.mem_append.1 hv with hv | hv
          · exact HA.out v hv
          · simp at hv; subst hv; exact HMM.out
        case measure => simp [intOf]; omega
    · obtain rfl : l.length = j := by omega
      have hyes : (l.map T.v).all V.may = true := List.all_eq_true.2 fun v hv => HA.out v (by rw [List.take_of_length_le (by simp)]; exact hv)
      have HY := hide hyes
      have HF := hide fr
      clear fr hyes ht hB
      go_wp2
      go_ret
      exact ⟨by rw [HY.out]; rfl, HF.out⟩

/-- What Of answers. -/
def ofV (l : List V) : V × Int := if l.all V.may = true then (if (V.mk 3 0 ⟨#[]⟩ l 0).may = true then (V.mk 3 0 ⟨#[]⟩ l 0, 0) else (V.zero, 4)) else (V.zero, 2)

theorem T.row_v (A : Option Addr) (cap : Nat) (l : List T) : (T.row A cap l).v = V.mk 3 0 ⟨#[]⟩ (l.map T.v) 0 := by rw [T.row, T.v_mk]

/-- A value that is known, and an error's number. -/
def InE (v : V) (n : Int) (w : World) (e : Ending) (w' : World) : Prop :=
  ∃ t' : T, e = .returned (.tuple #[t'.val, .int .i64 n]) ∧ t'.v = v ∧ t'.In w' w.heap.size w'.heap.size ∧ Fr No w w'

set_option maxRecDepth 100000 in
set_option maxHeartbeats 4000000 in
theorem vOf_any (A : Option Addr) (cap : Nat) (l : List T) (w : World) (lo hi : Nat) (ht : (T.row A cap l).In w lo hi) (hh : hi ≤ w.heap.size) :
    Calls Try.prog 65 #[.slice A l.length cap] w (OwnE2 (ofV (l.map T.v)).1 (ofV (l.map T.v)).2 w) := by
  have hA := fun w' h h' => allV_any A cap l w' lo hi h h'
  have hM := fun w' h h' => may_any (T.row A cap l) w' lo hi h h'
  have hO := fun w' h h' => own2_any (T.row A cap l) w' lo hi h h'
  rw [T.row_v] at hM hO
  have hval : (T.row A cap l).val = .agg #[.int .u8 3, .int .i64 0, .string ⟨#[]⟩, .slice A l.length cap, .int .i64 0] := rfl
  rw [hval] at hM hO
  clear hval
  have fr0 := (Fr.refl No w).alloc (.cells #[.int .u8 0, .int .i64 0, .string ⟨#[]⟩, .slice none 0 0, .int .i64 0] 27)
  have bz0 := Blk.new w 27 #[.int .u8 0, .int .i64 0, .string ⟨#[]⟩, .slice none 0 0, .int .i64 0]
  have ht0 := ht.no fr0 hh
  have hs0 : w.heap.size < (w.alloc (.cells #[.int .u8 0, .int .i64 0, .string ⟨#[]⟩, .slice none 0 0, .int .i64 0] 27)).heap.size := by simp
  clear ht
  cases ha : (l.map T.v).all V.may with
  | false =>
    have e1 : ofV (l.map T.v) = (V.zero, 2) := by simp only [ofV]; rw [ha]; rfl
    rw [e1]
    rw [ha] at hA
    clear ha e1 hM hO
    go_enter Try.func65, Try.ntmps65
    go_wp2_with fail
    generalize World.alloc w _ = w0 at *
    refine (hA w0 ht0 (by omega)).mono ?_
    rintro e w2 ⟨rfl, f2⟩
    have bz2 := bz0.fr f2 fun h => h
    obtain ⟨d0, d1, d2, d3, d4, df⟩ := bz2.cells5
    have q0 := bz2.lt
    have HF := hide (fr0.trans f2)
    clear hA ht0 bz0 fr0 f2 bz2
    go_wp2
    refine bodyPost_ret (v := .tuple #[.agg #[.int .u8 0, .int .i64 0, .string ⟨#[]⟩, .slice none 0 0, .int .i64 0], .int .i64 2]) (by simp [results, Try.results65, go_sem, *]) rfl ?_
    have hF2 := HF.out
    refine ⟨T.zero, rfl, T.zero_v, T.zero_sh _ _ _, ?_⟩
    repeat (first | with_reducible exact hF2 | with_reducible refine Fr.setNew ?_ (Nat.le_refl _) _)
  | true =>
    rw [ha] at hA
    cases hm : (V.mk 3 0 ⟨#[]⟩ (l.map T.v) 0).may with
    | false =>
      have e1 : ofV (l.map T.v) = (V.zero, 4) := by simp only [ofV]; rw [ha, hm]; rfl
      rw [e1]
      rw [hm] at hM
      clear ha hm e1 hO
      go_enter Try.func65, Try.ntmps65
      go_wp2_with fail
      generalize World.alloc w _ = w0 at *
      refine (hA w0 ht0 (by omega)).mono ?_
      rintro e w2 ⟨rfl, f2⟩
      have bz2 := bz0.fr f2 fun h => h
      have ht2 := ht0.no f2 (by omega)
      have HF := hide (fr0.trans f2)
      have hs2 := (fr0.trans f2).size
      clear hA ht0 bz0 fr0 f2
      go_wp2_with fail
      have f3 := (Fr.refl No w2).alloc (.cells #[.int .u8 3, .int .i64 0, .string ⟨#[]⟩, .slice A l.length cap, .int .i64 0] 27)
      have HF3 := hide (HF.out.trans f3)
      have bz3 := bz2.fr f3 fun h => h
      have ht3 := ht2.no f3 (by omega)
      have hs3 := f3.size
      clear bz2 ht2 f3
      generalize World.alloc w2 _ = w3 at *
      refine (hM w3 ht3 (by omega)).mono ?_
      rintro e w4 ⟨rfl, f4⟩
      have bz4 := bz3.fr f4 fun h => h
      obtain ⟨d0, d1, d2, d3, d4, df⟩ := bz4.cells5
      have q0 := bz4.lt
      have HF4 := hide (HF3.out.trans f4)
      clear hM ht3 bz3 f4 bz4
      go_wp2
      refine bodyPost_ret (v := .tuple #[.agg #[.int .u8 0, .int .i64 0, .string ⟨#[]⟩, .slice none 0 0, .int .i64 0], .int .i64 4]) (by simp [results, Try.results65, go_sem, *]) rfl ?_
      have hF2 := HF4.out
      refine ⟨T.zero, rfl, T.zero_v, T.zero_sh _ _ _, ?_⟩
      repeat (first | with_reducible exact hF2 | with_reducible refine Fr.setNew ?_ (Nat.le_refl _) _)
    | true =>
      have e1 : ofV (l.map T.v) = (V.mk 3 0 ⟨#[]⟩ (l.map T.v) 0, 0) := by simp only [ofV]; rw [ha, hm]; rfl
      rw [e1]
      rw [hm] at hM
      generalize V.mk 3 0 ⟨#[]⟩ (l.map T.v) 0 = u at *
      clear ha hm e1
      go_enter Try.func65, Try.ntmps65
      go_wp2_with fail
      generalize World.alloc w _ = w0 at *
      refine (hA w0 ht0 (by omega)).mono ?_
      rintro e w2 ⟨rfl, f2⟩
      have bz2 := bz0.fr f2 fun h => h
      have ht2 := ht0.no f2 (by omega)
      have HF := hide (fr0.trans f2)
      have hs2 := (fr0.trans f2).size
      clear hA ht0 bz0 fr0 f2
      have hsz2 : w.heap.size < w2.heap.size := bz2.lt
      go_wp2_with fail
      have f3 := (Fr.refl No w2).alloc (.cells #[.int .u8 3, .int .i64 0, .string ⟨#[]⟩, .slice A l.length cap, .int .i64 0] 27)
      have HF3 := hide (HF.out.trans f3)
      have bz3 := bz2.fr f3 fun h => h
      have bv3 := Blk.new w2 27 #[.int .u8 3, .int .i64 0, .string ⟨#[]⟩, .slice A l.length cap, .int .i64 0]
      have ht3 := ht2.no f3 (by omega)
      have hs3 := f3.size
      clear bz2 ht2 f3
      generalize World.alloc w2 _ = w3 at *
      refine (hM w3 ht3 (by omega)).mono ?_
      rintro e w4 ⟨rfl, f4⟩
      have bz4 := bz3.fr f4 fun h => h
      have bv4 := bv3.fr f4 fun h => h
      have ht4 := ht3.no f4 (by omega)
      obtain ⟨c0, c1, c2, c3, c4, -⟩ := bv4.cells5
      have qv := bv4.lt
      have HF4 := hide (HF3.out.trans f4)
      have hs4 := f4.size
      clear hM ht3 bz3 bv3 f4 bv4
      go_wp2_with fail
      refine (hO w4 ht4 (by omega)).mono ?_
      rintro e w5 ⟨⟨k5, n5, s5, A5, cap5, l5, r5⟩, rfl, hv5, hsh5, f5⟩
      rw [T.val_mk]
      have bz5 := bz4.fr f5 fun h => h
      obtain ⟨d0, d1, d2, d3, d4, df⟩ := bz5.cells5
      have q0 := bz5.lt
      have HF5 := hide (HF4.out.trans f5)
      have HV := hide hv5
      have HSH := hide hsh5
      have hs5 := f5.size
      clear hO ht4 bz4 f5 bz5 hv5 hsh5 c0 c1 c2 c3 c4 qv
      go_wp2
      refine bodyPost_ret (v := .tuple #[.agg #[.int .u8 k5, .int .i64 n5, .string s5, .slice A5 l5.length cap5, .int .i64 r5], .int .i64 0]) (by simp [results, Try.results65, go_sem, *]) rfl ?_
      have hF2 := HF5.out
      refine ⟨T.mk k5 n5 s5 A5 cap5 l5 r5, rfl, HV.out, ?_, ?_⟩
      · refine (T.Sh.fr' (S := (· = w.heap.size)) HSH.out ?_ (fun i h0 h1 h2 => by have h' : i = w.heap.size := h2; omega)).more (by omega) (by simp)
        repeat (first | with_reducible exact Fr.refl _ w5 | with_reducible refine Fr.set ?_ (by simp) _)
      · repeat (first | with_reducible exact hF2 | with_reducible refine Fr.setNew ?_ (Nat.le_refl _) _)

set_option maxRecDepth 100000 in
set_option maxHeartbeats 4000000 in
theorem refOf_any (A : Option Addr) (cap : Nat) (l : List T) (w : World) (lo hi : Nat) (ht : (T.row A cap l).In w lo hi) (hh : hi ≤ w.heap.size) :
    Calls Try.prog 66 #[.slice A l.length cap] w (InE (ofV (l.map T.v)).1 (ofV (l.map T.v)).2 w) := by
  have hA := fun w' h h' => refMayAll_any A cap l w' lo hi h h'
  have hM := fun w' h h' => refMay_any (T.row A cap l) w' lo hi h h'
  have hO := fun w' h h' => refOwn_any (T.row A cap l) w' lo hi h h'
  rw [T.row_v] at hM hO
  have hval : (T.row A cap l).val = .agg #[.int .u8 3, .int .i64 0, .string ⟨#[]⟩, .slice A l.length cap, .int .i64 0] := rfl
  rw [hval] at hM hO
  clear hval
  have fr0 := (Fr.refl No w).alloc (.cells #[.int .u8 0, .int .i64 0, .string ⟨#[]⟩, .slice none 0 0, .int .i64 0] 27)
  have bz0 := Blk.new w 27 #[.int .u8 0, .int .i64 0, .string ⟨#[]⟩, .slice none 0 0, .int .i64 0]
  have ht0 := ht.no fr0 hh
  have hs0 : w.heap.size < (w.alloc (.cells #[.int .u8 0, .int .i64 0, .string ⟨#[]⟩, .slice none 0 0, .int .i64 0] 27)).heap.size := by simp
  clear ht
  cases ha : (l.map T.v).all V.may with
  | false =>
    have e1 : ofV (l.map T.v) = (V.zero, 2) := by simp only [ofV]; rw [ha]; rfl
    rw [e1]
    rw [ha] at hA
    clear ha e1 hM hO
    go_enter Try.func66, Try.ntmps66
    go_wp2_with fail
    generalize World.alloc w _ = w0 at *
    refine (hA w0 ht0 (by omega)).mono ?_
    rintro e w2 ⟨rfl, f2⟩
    have bz2 := bz0.fr f2 fun h => h
    obtain ⟨d0, d1, d2, d3, d4, df⟩ := bz2.cells5
    have q0 := bz2.lt
    have HF := hide (fr0.trans f2)
    clear hA ht0 bz0 fr0 f2 bz2
    go_wp2
    refine bodyPost_ret (v := .tuple #[.agg #[.int .u8 0, .int .i64 0, .string ⟨#[]⟩, .slice none 0 0, .int .i64 0], .int .i64 2]) (by simp [results, Try.results66, go_sem, *]) rfl ?_
    have hF2 := HF.out
    refine ⟨T.zero, rfl, T.zero_v, (T.zero_sh _ _ _).inn, ?_⟩
    repeat (first | with_reducible exact hF2 | with_reducible refine Fr.setNew ?_ (Nat.le_refl _) _)
  | true =>
    rw [ha] at hA
    cases hm : (V.mk 3 0 ⟨#[]⟩ (l.map T.v) 0).may with
    | false =>
      have e1 : ofV (l.map T.v) = (V.zero, 4) := by simp only [ofV]; rw [ha, hm]; rfl
      rw [e1]
      rw [hm] at hM
      clear ha hm e1 hO
      go_enter Try.func66, Try.ntmps66
      go_wp2_with fail
      generalize World.alloc w _ = w0 at *
      refine (hA w0 ht0 (by omega)).mono ?_
      rintro e w2 ⟨rfl, f2⟩
      have bz2 := bz0.fr f2 fun h => h
      have ht2 := ht0.no f2 (by omega)
      have HF := hide (fr0.trans f2)
      have hs2 := (fr0.trans f2).size
      clear hA ht0 bz0 fr0 f2
      go_wp2_with fail
      have f3 := (Fr.refl No w2).alloc (.cells #[.int .u8 3, .int .i64 0, .string ⟨#[]⟩, .slice A l.length cap, .int .i64 0] 27)
      have HF3 := hide (HF.out.trans f3)
      have bz3 := bz2.fr f3 fun h => h
      have ht3 := ht2.no f3 (by omega)
      have hs3 := f3.size
      clear bz2 ht2 f3
      generalize World.alloc w2 _ = w3 at *
      refine (hM w3 ht3 (by omega)).mono ?_
      rintro e w4 ⟨rfl, f4⟩
      have bz4 := bz3.fr f4 fun h => h
      obtain ⟨d0, d1, d2, d3, d4, df⟩ := bz4.cells5
      have q0 := bz4.lt
      have HF4 := hide (HF3.out.trans f4)
      clear hM ht3 bz3 f4 bz4
      go_wp2
      refine bodyPost_ret (v := .tuple #[.agg #[.int .u8 0, .int .i64 0, .string ⟨#[]⟩, .slice none 0 0, .int .i64 0], .int .i64 4]) (by simp [results, Try.results66, go_sem, *]) rfl ?_
      have hF2 := HF4.out
      refine ⟨T.zero, rfl, T.zero_v, (T.zero_sh _ _ _).inn, ?_⟩
      repeat (first | with_reducible exact hF2 | with_reducible refine Fr.setNew ?_ (Nat.le_refl _) _)
    | true =>
      have e1 : ofV (l.map T.v) = (V.mk 3 0 ⟨#[]⟩ (l.map T.v) 0, 0) := by simp only [ofV]; rw [ha, hm]; rfl
      rw [e1]
      rw [hm] at hM
      generalize V.mk 3 0 ⟨#[]⟩ (l.map T.v) 0 = u at *
      clear ha hm e1
      go_enter Try.func66, Try.ntmps66
      go_wp2_with fail
      generalize World.alloc w _ = w0 at *
      refine (hA w0 ht0 (by omega)).mono ?_
      rintro e w2 ⟨rfl, f2⟩
      have bz2 := bz0.fr f2 fun h => h
      have ht2 := ht0.no f2 (by omega)
      have HF := hide (fr0.trans f2)
      have hs2 := (fr0.trans f2).size
      clear hA ht0 bz0 fr0 f2
      have hsz2 : w.heap.size < w2.heap.size := bz2.lt
      go_wp2_with fail
      have f3 := (Fr.refl No w2).alloc (.cells #[.int .u8 3, .int .i64 0, .string ⟨#[]⟩, .slice A l.length cap, .int .i64 0] 27)
      have HF3 := hide (HF.out.trans f3)
      have bz3 := bz2.fr f3 fun h => h
      have bv3 := Blk.new w2 27 #[.int .u8 3, .int .i64 0, .string ⟨#[]⟩, .slice A l.length cap, .int .i64 0]
      have ht3 := ht2.no f3 (by omega)
      have hs3 := f3.size
      clear bz2 ht2 f3
      generalize World.alloc w2 _ = w3 at *
      refine (hM w3 ht3 (by omega)).mono ?_
      rintro e w4 ⟨rfl, f4⟩
      have bz4 := bz3.fr f4 fun h => h
      have bv4 := bv3.fr f4 fun h => h
      have ht4 := ht3.no f4 (by omega)
      obtain ⟨c0, c1, c2, c3, c4, -⟩ := bv4.cells5
      have qv := bv4.lt
      have HF4 := hide (HF3.out.trans f4)
      have hs4 := f4.size
      clear hM ht3 bz3 bv3 f4 bv4
      go_wp2_with fail
      refine (hO w4 ht4 (by omega)).mono ?_
      rintro e w5 ⟨⟨k5, n5, s5, A5, cap5, l5, r5⟩, rfl, hv5, hsh5, f5⟩
      rw [T.val_mk]
      have bz5 := bz4.fr f5 fun h => h
      obtain ⟨d0, d1, d2, d3, d4, df⟩ := bz5.cells5
      have q0 := bz5.lt
      have HF5 := hide (HF4.out.trans f5)
      have HV := hide hv5
      have HSH := hide hsh5
      have hs5 := f5.size
      clear hO ht4 bz4 f5 bz5 hv5 hsh5 c0 c1 c2 c3 c4 qv
      go_wp2
      refine bodyPost_ret (v := .tuple #[.agg #[.int .u8 k5, .int .i64 n5, .string s5, .slice A5 l5.length cap5, .int .i64 r5], .int .i64 0]) (by simp [results, Try.results66, go_sem, *]) rfl ?_
      have hF2 := HF5.out
      refine ⟨T.mk k5 n5 s5 A5 cap5 l5 r5, rfl, HV.out, ?_, ?_⟩
      · refine (T.In.fr (S := (· = w.heap.size)) HSH.out ?_ (Nat.le_refl _) (fun i h0 h1 h2 => by have h' : i = w.heap.size := h2; omega)).more (by omega) (by simp)
        repeat (first | with_reducible exact Fr.refl _ w5 | with_reducible refine Fr.set ?_ (by simp) _)
      · repeat (first | with_reducible exact hF2 | with_reducible refine Fr.setNew ?_ (Nat.le_refl _) _)

end Go.Proofs.Ytihjmipmjogpoaa

/- Chapter 2: the law's own smallAll. -/
namespace Go.Proofs.Ytihjmipmjogpoaa
open Go.RowKit

/-- What smallAll says of some values. -/
def SmallAll (l : List V) : Prop := l.length ≤ 600 ∧ (∀ v ∈ l, v.size ≤ 1200 ∧ v.ht ≤ 40) ∧ (l.map V.size).sum ≤ 3600

def SmallAllP (l : List V) (w : World) (e : Ending) (w' : World) : Prop := (∃ b : Bool, e = .returned (.bool b) ∧ (b = true → SmallAll l)) ∧ Fr No w w'

set_option maxRecDepth 100000 in
set_option maxHeartbeats 4000000 in
theorem smallAll_any (A : Option Addr) (cap : Nat) (l : List T) (w : World) (lo hi : Nat) (ht : (T.row A cap l).In w lo hi) (hh : hi ≤ w.heap.size) :
    Calls Try.prog 53 #[.slice A l.length cap] w (SmallAllP (l.map T.v) w) := by
  have hlen := (T.in_mk.1 ht).1.len1
  by_cases hbig : (600 : Int) < (l.length : Int)
  · go_enter Try.func53, Try.ntmps53
    go_wp2
    go_ret
    exact ⟨⟨false, rfl, (fun h => by cases h)⟩, Fr.refl _ _⟩
  · have hbig' : l.length ≤ 600 := by omega
    go_enter Try.func53, Try.ntmps53
    go_wp2_with fail
    go_loopw [3, 4, 5] (fun v i _ wr => ∃ j m : Nat, j ≤ l.length ∧ i = .int .i64 (j : Int) ∧ v = .int .i64 (m : Int) ∧ m = (((l.map T.v).take j).map V.size).sum ∧ m ≤ 3600 ∧ (∀ x ∈ (l.map T.v).take j, x.size ≤ 1200 ∧ x.ht ≤ 40) ∧ Fr No w wr) (fun _ i _ _ => l.length - (intOf i).toNat)
    case atStart => exact ⟨0, 0, Nat.zero_le _, rfl, rfl, by simp, by omega, by simp, Fr.refl _ _⟩
    case round =>
      obtain ⟨j, m, hj, rfl, rfl, hm, hmr, hall, fr⟩ := hrel
      have HM := hide hm
      have HA := hide hall
      clear hm hall
      by_cases hlt : j < l.length
      · obtain ⟨b, o, k1, n1, s1, A1, cap1, l1, r1, rfl, hb0, hb1', hx, hin, e0, e1, e2, e3, e4⟩ := T.elem (ht.no fr hh) hlt
        have hc := small_any l[j] 1200 40 wr lo hi (by rw [hx]; exact hin) (by have := fr.size; omega) (by omega) (by omega) (by omega) (by omega)
        have hj' : j < (l.map T.v).length := by simpa using hlt
        have hxv : (l.map T.v)[j] = (T.mk k1 n1 s1 A1 cap1 l1 r1).v := by rw [List.getElem_map, hx]
        rw [hx, T.val_mk] at hc
        generalize (T.mk k1 n1 s1 A1 cap1 l1 r1).v = u at *
        have g0 : b < wr.heap.size := by have := fr.size; omega
        have HF := hide fr
        have HX := hide hxv
        have hup := u.size_pos
        by_cases hfit : (u.size : Int) ≤ 1200 ∧ (u.ht : Int) ≤ 40
        · rw [smallOf_yes hfit] at hc
          have HC := hide hc
          obtain ⟨hf1, hf2⟩ := hfit
          have hnn : decide ((u.size : Int) < 0) = false := by simp
          clear hxv hx fr hc hin
          generalize hq : u.size = q at *
          have HQ := hide hq
          clear hq
          by_cases h24 : (2400 : Int) < (m : Int)
          · go_wp2_with fail
            refine HC.out.mono ?_
            rintro e w2 ⟨rfl, fr2⟩
            have HF2 := hide (HF.out.trans fr2)
            clear fr2
            go_wp2
            go_ret
            exact ⟨⟨false, rfl, (fun h => by cases h)⟩, HF2.out⟩
          · go_wp2_with fail
            refine HC.out.mono ?_
            rintro e w2 ⟨rfl, fr2⟩
            have HF2 := hide (HF.out.trans fr2)
            clear fr2
            go_wp2
            go_roundw
            case rel =>
              have ht2 : (l.map T.v).take (j + 1) = (l.map T.v).take j ++ [u] := by rw [List.take_succ_eq_append_getElem hj', HX.out]
              refine ⟨j + 1, m + q, hlt, by go_num, by go_num, ?_, by omega, ?_, HF2.out⟩
              · rw [ht2, List.map_append, List.sum_append_nat, ← HM.out, ← HQ.out]; simp
              · intro x hx2
                rw [ht2, List.mem_append] at hx2
                rcases hx2 with h | h
                · exact HA.out x h
                · simp at h; subst h; exact ⟨by rw [HQ.out]; omega, by omega⟩
            case measure => simp [intOf]; omega
        · rw [smallOf_no hfit] at hc
          have HC := hide hc
          clear hxv hx fr hc hin hfit
          go_wp2_with fail
          refine HC.out.mono ?_
          rintro e w2 ⟨rfl, fr2⟩
          have HF2 := hide (HF.out.trans fr2)
          clear fr2
          go_wp2
          go_ret
          exact ⟨⟨false, rfl, (fun h => by cases h)⟩, HF2.out⟩
      · obtain rfl : l.length = j := by omega
        have HW := hide fr
        clear fr
        go_wp2
        go_ret
        have ht2 : (l.map T.v).take l.length = l.map T.v := List.take_of_length_le (by simp)
        have h1 := HM.out
        have h2 := HA.out
        rw [ht2] at h1 h2
        exact ⟨⟨true, rfl, fun _ => ⟨by simpa using hbig', h2, by omega⟩⟩, HW.out⟩

end Go.Proofs.Ytihjmipmjogpoaa

/- Chapter 2: ValueOfs: what it computes. -/
namespace Go.Proofs.Ytihjmipmjogpoaa
open Go.RowKit

theorem zero_may : V.zero.may = true := by simp [V.zero, V.may, V.fits, V.ok_mk, V.size_mk, V.dep_mk, fok, toL0]

theorem ofV_may (l : List V) : (ofV l).1.may = true := by
  unfold ofV
  split
  · split
    · assumption
    · exact zero_may
  · exact zero_may

theorem ofV_err (l : List V) : (ofV l).2 = 0 ∨ (ofV l).2 = 2 ∨ (ofV l).2 = 4 := by
  unfold ofV
  split
  · split <;> simp
  · simp

set_option maxRecDepth 100000 in
set_option maxHeartbeats 16000000 in
theorem valueOfs_any (A : Option Addr) (cap : Nat) (l : List T) (w : World) (ht : (T.row A cap l).In w 0 w.heap.size) : Calls Try.prog 12 #[.slice A l.length cap] w fun e w' => e = .returned (.bool true) ∧ Fr No w w' := by
  have hsm := smallAll_any A cap l w 0 w.heap.size ht (Nat.le_refl _)
  go_enter Try.func12, Try.ntmps12
  go_wp2_with fail
  refine hsm.mono ?_
  rintro e w1 ⟨⟨q, rfl, -⟩, f1⟩
  have ht1 := ht.no f1 (Nat.le_refl _)
  have hs1 := f1.size
  clear hsm ht
  cases q with
  | false =>
    go_wp2_with fail
    refine (awake_any _).mono ?_
    rintro e w2 ⟨rfl, f2⟩
    go_wp2
    go_ret
    exact ⟨rfl, f1.trans f2⟩
  | true =>
    have hc := lentAll_any A cap l w1 0 w.heap.size ht1 hs1
    have HC := hide hc
    clear hc
    go_wp2_with fail
    refine HC.out.mono ?_
    rintro e w2 ⟨g, c, l', L⟩
    have he := L.e
    subst he
    have g2 := f1.trans L.fr
    have ht2 := ht1.no L.fr hs1
    have hs2 := L.fr.size
    have hu := ofV_may (l.map T.v)
    have hn := ofV_err (l.map T.v)
    have hvs := L.vs
    have HLEN := hide L.len
    have hOf := fun w' h h' => vOf_any (some ⟨g, 0, none⟩) c l' w' w1.heap.size w2.heap.size h h'
    have hRf := fun w' h h' => refOf_any A cap l w' 0 w.heap.size h h'
    rw [hvs, L.len] at hOf
    generalize hofv : (ofV (l.map T.v)).1 = u at *
    generalize hofe : (ofV (l.map T.v)).2 = n at *
    have hin := L.inn
    have HL := hide L
    have HU := hide hu
    clear hvs L hofv hofe hu ht1 HC
    go_wp2_with fail
    refine (hOf w2 hin (Nat.le_refl _)).mono ?_
    rintro e w3 ⟨⟨ka, na, sa, Aa, ca, la, ra⟩, rfl, eva, sha, f3⟩
    rw [T.val_mk]
    have fx := f3.alloc (.cells #[.int .u8 ka, .int .i64 na, .string sa, .slice Aa la.length ca, .int .i64 ra] 27)
    have fy := (Fr.refl No w3).alloc (.cells #[.int .u8 ka, .int .i64 na, .string sa, .slice Aa la.length ca, .int .i64 ra] 27)
    have xa4 := Blk.new w3 27 #[.int .u8 ka, .int .i64 na, .string sa, .slice Aa la.length ca, .int .i64 ra]
    have sa4 := sha.no fy
    have ht4 := ht2.no fx (by omega)
    have hin4 := hin.no fx (Nat.le_refl _)
    have g4 := g2.trans fx
    have hs3 := f3.size
    have HF4 := hide fx
    have HEVA := hide eva
    clear sha fy ht2 hin g2 f3 fx eva
    go_wp2_with fail
    have hy4 := xa4.lt
    generalize World.alloc w3 _ = w4 at *
    refine (hOf w4 hin4 (by omega)).mono ?_
    rintro e w5 ⟨⟨kb, nb, sb, Ab, cb, lb, rb⟩, rfl, evb, shb, f5⟩
    rw [T.val_mk]
    have fx := f5.alloc (.cells #[.int .u8 kb, .int .i64 nb, .string sb, .slice Ab lb.length cb, .int .i64 rb] 27)
    have fy := (Fr.refl No w5).alloc (.cells #[.int .u8 kb, .int .i64 nb, .string sb, .slice Ab lb.length cb, .int .i64 rb] 27)
    have xb6 := Blk.new w5 27 #[.int .u8 kb, .int .i64 nb, .string sb, .slice Ab lb.length cb, .int .i64 rb]
    have sb6 := shb.no fy
    have xa6 := xa4.fr fx fun h => h
    have sa6 := sa4.no fx
    have ht6 := ht4.no fx (by omega)
    have g6 := g4.trans fx
    have hs5 := f5.size
    have HF6 := hide (HF4.out.trans fx)
    have HEVB := hide evb
    clear shb fy ht4 hin4 g4 f5 fx evb xa4 sa4 hOf HF4
    go_wp2_with fail
    have hy6 := xb6.lt
    generalize World.alloc w5 _ = w6 at *
    refine (hRf w6 ht6 (by omega)).mono ?_
    rintro e w7 ⟨⟨kc, nc, sc, Ac, cc, lc, rc⟩, rfl, evc, inc, f7⟩
    rw [T.val_mk]
    have fx := f7.alloc (.cells #[.int .u8 kc, .int .i64 nc, .string sc, .slice Ac lc.length cc, .int .i64 rc] 27)
    have fy := (Fr.refl No w7).alloc (.cells #[.int .u8 kc, .int .i64 nc, .string sc, .slice Ac lc.length cc, .int .i64 rc] 27)
    have xc8 := Blk.new w7 27 #[.int .u8 kc, .int .i64 nc, .string sc, .slice Ac lc.length cc, .int .i64 rc]
    have ic8 := inc.no fy (Nat.le_refl _)
    have xa8 := xa6.fr fx fun h => h
    have xb8 := xb6.fr fx fun h => h
    have sa8 := sa6.no fx
    have sb8 := sb6.no fx
    have ht8 := ht6.no fx (by omega)
    have g8 := g6.trans fx
    have hs7 := f7.size
    have HF8 := hide (HF6.out.trans fx)
    clear inc fy ht6 g6 f7 fx xa6 xb6 sa6 sb6 hRf HF6
    obtain ⟨a0, a1, a2, a3, a4, -⟩ := xa8.cells5
    obtain ⟨b0, b1, b2, b3, b4, -⟩ := xb8.cells5
    have aq := xa8.lt
    have bq := xb8.lt
    have hbl : ∀ i ∈ (T.mk ka na sa Aa ca la ra).blocks, w2.heap.size ≤ i ∧ i < w3.heap.size := fun i hi => T.In.blocks _ sa8.inn i hi
    have hy8 := xc8.lt
    have hh := held_any (T.mk ka na sa Aa ca la ra) (T.mk kb nb sb Ab cb lb rb) (T.mk kc nc sc Ac cc lc rc) u _ w2.heap.size w3.heap.size w4.heap.size w5.heap.size w6.heap.size w7.heap.size sa8 (by omega) (by omega) sb8.inn (by omega) (fun i h0 _ hi => by have := hbl i hi; omega) ic8 (by omega) (fun i h0 _ hi => by have := hbl i hi; omega) HEVA.out HEVB.out evc HU.out
    rw [T.val_mk, T.val_mk, T.val_mk] at hh
    have HH := hide hh
    have HBL := hide hbl
    have HT8 := hide ht8
    have HG8 := hide g8
    clear hh hbl sa8 sb8 ic8 xa8 xb8 xc8 evc ht8 g8
    go_wp2_with fail
    generalize World.alloc w7 _ = w8 at *
    refine HH.out.mono ?_
    rintro e w9 ⟨rfl, f9⟩
    have L := HL.out
    have hb9 : ∀ i, i < w2.heap.size → ¬ i ∈ (T.mk ka na sa Aa ca la ra).blocks := fun i hi h => by have := HBL.out i h; omega
    have hin9 := (L.inn.no HF8.out (Nat.le_refl _)).fr f9 (by omega) (fun i _ h => hb9 i h)
    have ht9 := HT8.out.fr f9 (by omega) (fun i _ h => hb9 i (by omega))
    have hmk9 : ∀ x ∈ l', x.Mk w9 := fun x hx => by
      have h1 := (T.in_mk.1 L.inn).2.2 x hx
      have h2 := T.Mk.no HF8.out (Nat.le_refl _) h1 (L.mks x hx)
      exact T.Mk.fr f9 (by omega) x (h1.no HF8.out (Nat.le_refl _)) (fun b hb => hb9 b (T.In.blocks x h1 b hb).2) h2
    have hmark9 : w9.cell? ⟨g, l.length * 5 + 1, none⟩ = some (.int .i64 78) := by
      have hg := L.g1
      rw [f9.cell (b := g) (by omega) (hb9 g hg), HF8.out.cell (b := g) hg (fun h => h)]
      exact L.mark
    have g9 : Fr No w w9 := HG8.out.trans' f9 (fun i hi h => hb9 i (by omega) h)
    have hs9 := f9.size
    have hk := keptAll_any g c cap A l' l w9 w1.heap.size w2.heap.size 0 w.heap.size hin9 (by omega) hmk9 ht9 (by omega) L.g1 L.len L.vs L.cap hmark9
    have HK := hide hk
    have HG9 := hide g9
    clear hk g9 hin9 ht9 hmk9 hmark9 hb9 L f9 a0 a1 a2 a3 a4 b0 b1 b2 b3 b4 aq bq
    go_wp2_with fail
    refine HK.out.mono ?_
    rintro e w10 ⟨rfl, f10⟩
    go_wp2_with fail
    refine (awake_any _).mono ?_
    rintro e w11 ⟨rfl, f11⟩
    go_wp2
    go_ret
    exact ⟨rfl, (HG9.out.trans f10).trans f11⟩

end Go.Proofs.Ytihjmipmjogpoaa

/- Two closed facts for the lifts. -/
namespace Go.Proofs.Ytihjmipmjogpoaa
theorem knob0 : ownKnob Try.prog.godebug = none := by kernel_rfl
theorem laidOut0 : laidOutB Try.prog = true := by kernel_rfl
end Go.Proofs.Ytihjmipmjogpoaa

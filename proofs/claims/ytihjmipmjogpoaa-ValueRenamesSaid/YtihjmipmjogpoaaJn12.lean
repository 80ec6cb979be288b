/- Texts joined: P10, P11, P17, P18, P19. -/
import Derived.Test.YtihjmipmjogpoaaJn11
import Derived.Deep.AppendLies
import Derived.Deep.Upon
/- Chapter 2: lists of values, lent; kept; may all be? -/
namespace Go.Proofs.Ytihjmipmjogpoaa
open Go.RowKit

/-- What lentAll gives. -/
structure LentAllP (l : List T) (w : World) (e : Ending) (w' : World) (g c : Nat) (l' : List T) : Prop where
  e : e = .returned (.slice (some ⟨g, 0, none⟩) l.length c)
  len : l'.length = l.length
  vs : l'.map T.v = l.map T.v
  inn : (T.row (some ⟨g, 0, none⟩) c l').In w' w.heap.size w'.heap.size
  mks : ∀ x ∈ l', x.Mk w'
  g0 : w.heap.size ≤ g
  g1 : g < w'.heap.size
  cap : l.length + 1 ≤ c
  mark : w'.cell? ⟨g, l.length * 5 + 1, none⟩ = some (.int .i64 78)
  fr : Fr No w w'

structure LAInv (w : World) (l : List T) (j : Nat) (A : Option Addr) (cap : Nat) (l' : List T) (wr : World) : Prop where
  len : l'.length = j
  vs : l'.map T.v = (l.take j).map T.v
  fr : Fr No w wr
  own : wr.ownsRow w.heap.size 27 5 (.slice A j cap) j (rowCells l')
  inn : ∀ x ∈ l', x.In wr w.heap.size wr.heap.size ∧ x.Mk wr
  sep : ∀ x ∈ l', ∀ b ∈ x.blocks, (Value.slice A j cap).ownBlock ≠ some b

theorem la_step {w wr w2 w3 : World} {l : List T} {j : Nat} {A2 : Option Addr} {cap2 : Nat} {l' : List T} {m : Array Value} (inv : LAInv w l j A2 cap2 l' wr) (f1 : Fr No wr w2) (hgrow : (w2.alloc (.cells m 27)).grownBy w3 (Value.slice A2 j cap2).ownBlock) :
    Fr No w w3 ∧ (∀ x ∈ l', x.In w3 w.heap.size w3.heap.size ∧ x.Mk w3) := by
  have hol := inv.own.lt
  have F1 : Fr (fun i => some i = (Value.slice A2 j cap2).ownBlock) wr w3 := ((Fr.refl _ wr).thenNo f1 |>.alloc (.cells m 27)).trans' (fr_grown hgrow) (fun i _ h => h)
  refine ⟨inv.fr.trans' F1 (fun i hi h => by have := hol i h.symm; omega), fun x hx => ?_⟩
  obtain ⟨h1, h2⟩ := inv.inn x hx
  have hb : ∀ b ∈ x.blocks, ¬ (some b = (Value.slice A2 j cap2).ownBlock) := fun b hb h => inv.sep x hx b hb h.symm
  exact ⟨T.In.more (Nat.le_refl _) F1.size x (In.fr_blocks F1 (Nat.le_refl _) x hb h1), T.Mk.fr F1 (Nat.le_refl _) x h1 hb h2⟩

theorem la_push {w wr w2 w3 : World} {l : List T} {j : Nat} {A2 : Option Addr} {cap2 : Nat} {l' : List T} {t' : T} {g cp : Nat} (inv : LAInv w l j A2 cap2 l' wr) (hlt : j < l.length) (hv : t'.v = l[j].v)
    (hin : t'.In w2 wr.heap.size w2.heap.size) (hmk : t'.Mk w2) (f1 : Fr No wr w2) (hown : w3.ownsRow w.heap.size 27 5 (.slice (some ⟨g, 0, none⟩) (j + 1) cp) (j + 1) (rowCells l' ++ t'.cells))
    (hgrow : (w2.alloc (.cells t'.cells.toArray 27)).grownBy w3 (Value.slice A2 j cap2).ownBlock) (hat : (Value.slice A2 j cap2).ownBlock = some g ∨ g = w2.heap.size + 1) :
    LAInv w l (j + 1) (some ⟨g, 0, none⟩) cp (l' ++ [t']) w3 := by
  obtain ⟨hf, hl'⟩ := la_step inv f1 hgrow
  have hol := inv.own.lt
  have hs0 := inv.fr.size
  have hs2 : wr.heap.size ≤ w2.heap.size := f1.size
  have F2 : Fr (fun i => some i = (Value.slice A2 j cap2).ownBlock) w2 w3 := (((Fr.refl No w2).alloc (.cells t'.cells.toArray 27)).no).trans' (fr_grown hgrow) (fun i _ h => h)
  refine ⟨by simp [inv.len], ?_, hf, by rw [rowCells_snoc]; exact hown, ?_, ?_⟩
  · rw [List.map_append, inv.vs, List.take_succ_eq_append_getElem hlt, List.map_append, List.map_singleton, List.map_singleton, hv]
  · intro x hx
    rcases List.mem_append.1 hx with hx | hx
    · exact hl' x hx
    · simp at hx; subst hx
      have hb : ∀ b ∈ x.blocks, ¬ (some b = (Value.slice A2 j cap2).ownBlock) := fun b hb h => by
        have h3 := T.In.blocks x hin b hb
        have := hol b h.symm; omega
      exact ⟨T.In.more (by omega) F2.size x (In.fr_blocks F2 (Nat.le_refl _) x hb hin), T.Mk.fr F2 (Nat.le_refl _) x hin hb hmk⟩
  · intro x hx b hb h
    simp [Value.ownBlock] at h
    subst h
    rcases List.mem_append.1 hx with hx | hx
    · rcases hat with h | h
      · exact inv.sep x hx _ hb h
      · have := T.In.blocks x (inv.inn x hx).1 _ hb; omega
    · simp at hx; subst hx
      have h3 := T.In.blocks x hin _ hb
      rcases hat with h | h
      · have := hol _ h; omega
      · omega

set_option maxRecDepth 100000 in
set_option maxHeartbeats 8000000 in
theorem lentAll_any (A : Option Addr) (cap : Nat) (l : List T) (w : World) (lo hi : Nat) (ht : (T.row A cap l).In w lo hi) (hh : hi ≤ w.heap.size) :
    Calls Try.prog 64 #[.slice A l.length cap] w fun e w' => ∃ g c l', LentAllP l w e w' g c l' := by
  have hlen := (T.in_mk.1 ht).1.len1
  obtain ⟨i0, hi0, hz0, hz1, hz2⟩ := info_parts value_info
  have hmk := fun W => run_make_rowN (P := Try.prog) 24 27 i0 _ Try.underlying24 hi0 hz0 .i64 .i64 0 (l.length + 1) (by omega) (by rw [hz2]; omega) (by omega) W
  rw [hz1] at hmk
  have hmk : ∀ W, (Instr.makeSlice 24 (.int .i64 0) (.int .i64 ((l.length : Int) + 1))).run Try.prog W = .ok (.slice (some ⟨W.heap.size, 0, none⟩) 0 (l.length + 1)) (W.alloc (.cells (madeCells (Value.agg #[.int .u8 0, .int .i64 0, .string ⟨#[]⟩, .slice none 0 0, .int .i64 0]).cells ((l.length + 1) * 5)) 27)) := hmk
  go_enter Try.func64, Try.ntmps64
  go_wp2_with fail
  go_loopw [3, 4] (fun v i wr => ∃ (j : Nat) (A2 : Option Addr) (cap2 : Nat) (l' : List T), j ≤ l.length ∧ i = .int .i64 j ∧ v = .slice A2 j cap2 ∧ LAInv w l j A2 cap2 l' wr) (fun _ i _ => l.length - (intOf i).toNat)
  case atStart =>
    refine ⟨0, some ⟨w.heap.size, 0, none⟩, l.length + 1, [], Nat.zero_le _, rfl, rfl, rfl, by simp, (Fr.refl No w).alloc _, ?_, by simp, by simp⟩
    exact World.ownsRow_made (base := w.heap.size) (e := 27) (size := 5) w (madeCells #[.int .u8 0, .int .i64 0, .string ⟨#[]⟩, .slice none 0 0, .int .i64 0] ((l.length + 1) * 5)) (l.length + 1) (Nat.le_refl _) (by unfold maxLen; omega) (size_madeCells _ _)
  case round =>
    obtain ⟨j, A2, cap2, l', hj, rfl, rfl, inv⟩ := hrel
    have fr := inv.fr
    have hsz := fr.size
    by_cases hlt : j < l.length
    · obtain ⟨b, o, k1, n1, s1, A1, cap1, l1, r1, rfl, hb0, hb1, hx, hin, e0, e1, e2, e3, e4⟩ := T.elem (ht.no fr hh) hlt
      have hc := lent_any l[j] wr lo hi (by rw [hx]; exact hin) (by omega)
      rw [hx, T.val_mk] at hc
      have HC := hide hc
      have HX := hide hx
      have HI := hide inv
      have g0 : b < wr.heap.size := by omega
      clear hc hx inv ht hmk fr hin
      go_wp2_with fail
      refine HC.out.mono ?_
      rintro e w2 ⟨⟨k5, n5, s5, A5, cap5, l5, r5⟩, rfl, hv5, hin5, hmk5, f1⟩
      rw [T.val_mk]
      have hs2 := f1.size
      have hownA := (owns_fr HI.out.own f1 fun _ _ h => h).alloc (.cells #[.int .u8 k5, .int .i64 n5, .string s5, .slice A5 l5.length cap5, .int .i64 r5] 27)
      have HV5 := hide hv5
      have HIN5 := hide hin5
      have HMK5 := hide hmk5
      have HF1 := hide f1
      clear hv5 hin5 hmk5 f1
      go_wp2_with (at_builtin; refine wpList_append_lies _ (by rfl) _ _ _ (by rfl) w.heap.size 27 i0 _ 5 64 Try.underlying24 hi0 hz0 hz1 hz2 (by rfl) (by omega) (.slice A2 j cap2) j (rowCells l') (by rfl) hownA ⟨w2.heap.size, 0, none⟩ 1 1 [.int .u8 k5, .int .i64 n5, .string s5, .slice A5 l5.length cap5, .int .i64 r5] (by rfl) (by rfl) (World.news_of_block (Blk.new w2 27 _)) (by simp [Value.oneCell']) (by omega) (by unfold maxLen; omega) (by omega) (by simp; omega) (w2.heap.size + 1) (by simp) ?_; intro g cp w3 hown3 hgrow hat hlt3; have HP := hide (la_push HI.out hlt (HV5.out.trans (congrArg T.v HX.out).symm) HIN5.out HMK5.out HF1.out hown3 hgrow hat); clear hown3 hgrow hat hlt3)
      go_roundw
      case rel => exact ⟨j + 1, _, _, _, hlt, by go_num, rfl, HP.out⟩
      case measure => simp [intOf]; omega
    · obtain rfl : l.length = j := by omega
      have HI := hide inv
      have hnum := fun w3 => num2_any 78 w3
      clear inv ht hmk fr
      go_wp2_with fail
      refine (hnum wr).mono ?_
      rintro e w2 ⟨rfl, f1⟩
      have hs2 := f1.size
      have hownA := (owns_fr HI.out.own f1 fun _ _ h => h).alloc (.cells #[.int .u8 1, .int .i64 78, .string ⟨#[]⟩, .slice none 0 0, .int .i64 0] 27)
      have HF1 := hide f1
      clear f1 hnum
      go_wp2_with (at_builtin; refine wpList_append_lies _ (by rfl) _ _ _ (by rfl) w.heap.size 27 i0 _ 5 64 Try.underlying24 hi0 hz0 hz1 hz2 (by rfl) (by omega) (.slice A2 l.length cap2) l.length (rowCells l') (by rfl) hownA ⟨w2.heap.size, 0, none⟩ 1 1 [.int .u8 1, .int .i64 78, .string ⟨#[]⟩, .slice none 0 0, .int .i64 0] (by rfl) (by rfl) (World.news_of_block (Blk.new w2 27 _)) (by simp [Value.oneCell']) (by omega) (by unfold maxLen; omega) (by omega) (by simp; omega) (w2.heap.size + 1) (by simp) ?_; intro g cp w3 hown3 hgrow hat hlt3; have hcp := owns_le hown3; have hcp2 : (l.length : Int) ≤ (cp : Int) := (by omega); have HO3 := hide hown3; have HG := hide hgrow; have HA := hide hat; clear hown3 hgrow hat)
      go_ret
      obtain ⟨hf, hl'⟩ := la_step HI.out HF1.out HG.out
      have hll := HI.out.len
      have hcell : ∀ i u, (rowCells l' ++ [.int .u8 1, .int .i64 78, .string ⟨#[]⟩, .slice none 0 0, .int .i64 0])[i]? = some u → w3.cell? ⟨g, 0 + i, none⟩ = some u := fun i u hu => by
        have := World.ownsRow.cells HO3.out (g := g) rfl i u hu
        rwa [add_at] at this
      have hrl := rowCells_length l'
      have hgl := owns_lt HO3.out g rfl
      refine ⟨g, cp, l', rfl, hll, ?_, T.in_mk.2 ⟨⟨by decide, by decide, by decide, by decide, by decide, by rw [hll]; exact hlen, by rw [hll]; omega, by decide, by decide⟩, fun _ => ⟨g, 0, rfl, hgl.1, hgl.2, fun i x hx c u hu => ?_⟩, fun x hx => (hl' x hx).1⟩, fun x hx => (hl' x hx).2, hgl.1, hgl.2, by omega, ?_, hf⟩
      · rw [HI.out.vs, List.take_of_length_le (Nat.le_refl _)]
      · have h1 := rowCells_get l' i c x u hx hu
        have h2 := hcell (i * 5 + c) u (by rw [List.getElem?_append_left (List.getElem?_eq_some_iff.1 h1).1]; exact h1)
        rwa [← Nat.add_assoc] at h2
      · have h2 := hcell (l'.length * 5 + 1) (.int .i64 78) (by rw [List.getElem?_append_right (by omega), hrl, show l'.length * 5 + 1 - l'.length * 5 = 1 by omega]; rfl)
        rwa [Nat.zero_add, hll] at h2

set_option maxRecDepth 100000 in
set_option maxHeartbeats 8000000 in
theorem keptAll_any (g c cap : Nat) (A : Option Addr) (l' l : List T) (w : World) (lo hi lo' hi' : Nat) (ha : (T.row (some ⟨g, 0, none⟩) c l').In w lo hi) (hh : hi ≤ w.heap.size) (hm : ∀ x ∈ l', x.Mk w) (hb : (T.row A cap l).In w lo' hi') (hh' : hi' ≤ w.heap.size) (hg : g < hi)
    (hll : l'.length = l.length) (hv : l'.map T.v = l.map T.v) (hc : l.length + 1 ≤ c) (hmark : w.cell? ⟨g, l.length * 5 + 1, none⟩ = some (.int .i64 78)) :
    Calls Try.prog 67 #[.slice (some ⟨g, 0, none⟩) l.length c, .slice A l.length cap] w fun e w' => e = .returned (.bool true) ∧ Fr No w w' := by
  have hlen := (T.in_mk.1 hb).1.len1
  have HLL := hide hll
  have HV := hide hv
  have hcc : (l.length : Int) + 1 ≤ (c : Int) := by omega
  have HC := hide hc
  have HMK := hide hmark
  have HM := hide hm
  clear hll hv hc hmark hm
  go_enter Try.func67, Try.ntmps67
  go_wp2_with fail
  go_loopw [5] (fun i wr => ∃ j : Nat, j ≤ l.length ∧ i = .int .i64 j ∧ Fr No w wr) (fun i _ => l.length - (intOf i).toNat)
  case atStart => exact ⟨0, Nat.zero_le _, rfl, Fr.refl _ _⟩
  case round =>
    obtain ⟨j, hj, rfl, fr⟩ := hrel
    have hsz := fr.size
    by_cases hlt : j < l.length
    · have hlt' : j < l'.length := by have := HLL.out; omega
      obtain ⟨b, o, k1, n1, s1, A1, cap1, l1, r1, hA1, hb0, hb1, hx, hin, e0, e1, e2, e3, e4⟩ := T.elem (ha.no fr hh) hlt'
      simp only [Option.some.injEq, Addr.mk.injEq, and_true] at hA1
      obtain ⟨rfl, rfl⟩ := hA1
      obtain ⟨b', o', k2, n2, s2, A2, cap2, l2, r2, rfl, hb0', hb1', hx', hin', f0, f1, f2, f3, f4⟩ := T.elem (hb.no fr hh') hlt
      have hm1 : (T.mk k1 n1 s1 A1 cap1 l1 r1).Mk wr := by
        have h1 := (T.in_mk.1 ha).2.2 _ (List.getElem_mem hlt')
        have h2 := T.Mk.no fr hh h1 (HM.out _ (List.getElem_mem hlt'))
        rw [hx] at h2
        exact h2
      have hve : (T.mk k1 n1 s1 A1 cap1 l1 r1).v = (T.mk k2 n2 s2 A2 cap2 l2 r2).v := by
        have := congrArg (fun q => q[j]?) HV.out
        simp [hlt, hlt'] at this
        rw [hx, hx'] at this
        exact this
      have IH := fun w1 (f : Fr No wr w1) => kept_any (T.mk k1 n1 s1 A1 cap1 l1 r1) (T.mk k2 n2 s2 A2 cap2 l2 r2) w1 lo hi lo' hi' (hin.no f (by omega)) (by have := f.size; omega) (T.Mk.no f (by omega) hin hm1) (hin'.no f (by omega)) (by have := f.size; omega) hve
      rw [T.val_mk, T.val_mk] at IH
      have HIH := hide IH
      have g0 : g < wr.heap.size := by omega
      have g1 : b' < wr.heap.size := by omega
      have HF := hide fr
      simp only [Nat.zero_add] at e0 e1 e2 e3 e4
      clear hx hx' fr ha hb hm1 hve IH hin hin'
      go_wp2_with fail
      go_region_held3 (fun w' => (∀ c i, c < wr.heap.size → w'.cell? ⟨c, i, none⟩ = wr.cell? ⟨c, i, none⟩) ∧ Fr No wr w')
        (first | exact ⟨fun _ _ _ => rfl, Fr.drew (Fr.refl No wr)⟩ | (have hq : Fr No wr _ := (‹_ ∧ Fr No wr _›).2.trans ‹Fr No _ _›; exact ⟨hq.cells, hq⟩))
        (first
          | (go_at_call 45; have hs0 := (‹_ ∧ Fr No wr _›).2; ((with_reducible refine (HIH.out _ ?_).mono ?_); (exact hs0); rintro e w2 ⟨rfl, fr1⟩)))
      have HF2 := hide (‹_ ∧ Fr No wr _›).2
      go_wp2
      go_roundw
      case rel => exact ⟨j + 1, hlt, by go_num, HF.out.trans HF2.out⟩
      case measure => simp [intOf]; omega
    · obtain rfl : l.length = j := by omega
      have hcell := (fr.cell (b := g) (o := l.length * 5 + 1) (s := none) (by omega) (fun h => h)).trans HMK.out
      have g0 : g < wr.heap.size := by omega
      have HW := hide fr
      clear fr ha hb
      go_wp2
      go_ret
      exact ⟨rfl, HW.out⟩

end Go.Proofs.Ytihjmipmjogpoaa

/- Chapter 2: Of, the program's and the document's. -/
namespace Go.Proofs.Ytihjmipmjogpoaa
open Go.RowKit

theorem all1_any (t : T) (w : World) (lo hi : Nat) (ht : t.In w lo hi) (hh : hi ≤ w.heap.size) : Calls Try.prog 152 #[t.val] w fun e w' => e = .returned (.bool (!t.v.may)) ∧ Fr No w w' := by
  have IH := fun w' h h' => may_any t w' lo hi h h'
  cases t with
  | mk k n s A cap l r =>
    rw [T.val_mk] at *
    generalize (T.mk k n s A cap l r).v.may = z at *
    cases z
    all_goals
      go_enter Try.func152, Try.ntmps152
      go_wp2_with fail
      refine (IH _ (ht.no ((Fr.refl No w).alloc _) hh) (by simp; omega)).mono ?_
      rintro e w2 ⟨rfl, fr2⟩
      go_wp2
      go_ret
      exact ⟨rfl, ((Fr.refl No w).alloc _).trans fr2⟩

set_option maxRecDepth 100000 in
set_option maxHeartbeats 4000000 in
theorem indexV_any (A : Option Addr) (cap : Nat) (l : List T) (w : World) (lo hi : Nat) (ht : (T.row A cap l).In w lo hi) (hh : hi ≤ w.heap.size) :
    Calls Try.prog 158 #[.slice A l.length cap, .func (.func 152) #[] #[]] w fun e w' => (∃ z : Int, e = .returned (.int .i64 z) ∧ ((0 ≤ z ∧ (l.map T.v).all V.may = false) ∨ (z = -1 ∧ (l.map T.v).all V.may = true))) ∧ Fr No w w' := by
  have hlen := (T.in_mk.1 ht).1.len1
  have hB := all1_any
  go_enter Try.func158, Try.ntmps158
  go_wp2_with fail
  go_loopw [8] (fun i wr => ∃ j : Nat, j ≤ l.length ∧ i = .int .i64 j ∧ Fr No w wr ∧ ∀ v ∈ (l.map T.v).take j, v.may = true) (fun i _ => l.length - (intOf i).toNat)
  case atStart => exact ⟨0, Nat.zero_le _, rfl, Fr.refl _ _, by simp⟩
  case round =>
    obtain ⟨j, hj, rfl, fr, hall⟩ := hrel
    have HA := hide hall
    have hsz := fr.size
    clear hall
    by_cases hlt : j < l.length
    · obtain ⟨b, o, k1, n1, s1, A1, cap1, l1, r1, rfl, hb0, hb1, hx, hin, e0, e1, e2, e3, e4⟩ := T.elem (ht.no fr hh) hlt
      have hc := hB l[j] wr lo hi (by rw [hx]; exact hin) (by omega)
      have hj' : j < (l.map T.v).length := by simpa using hlt
      have hxv : (l.map T.v)[j] = (T.mk k1 n1 s1 A1 cap1 l1 r1).v := by rw [List.getElem_map, hx]
      rw [hx, T.val_mk] at hc
      generalize (T.mk k1 n1 s1 A1 cap1 l1 r1).v = u at *
      have g0 : b < wr.heap.size := by omega
      have htk : (l.map T.v).take (j + 1) = (l.map T.v).take j ++ [u] := by rw [List.take_succ_eq_append_getElem hj', hxv]
      have hmem : u ∈ l.map T.v := by rw [← hxv]; exact List.getElem_mem hj'
      have HT := hide htk
      have HM := hide hmem
      have HF := hide fr
      clear hx hxv htk hmem fr hin hB ht
      cases hm : u.may with
      | false =>
        rw [hm] at hc
        have HC := hide hc
        have hno : (l.map T.v).all V.may = false := by
          rw [Bool.eq_false_iff]
          intro h
          rw [List.all_eq_true.1 h u HM.out] at hm
          cases hm
        have HN := hide hno
        clear hc hno hm
        go_wp2_with fail
        refine HC.out.mono ?_
        rintro e w2 ⟨rfl, f2⟩
        have HF2 := hide (HF.out.trans f2)
        clear f2
        go_wp2
        go_ret
        exact ⟨⟨_, rfl, .inl ⟨by omega, HN.out⟩⟩, HF2.out⟩
      | true =>
        rw [hm] at hc
        have HC := hide hc
        have HMM := hide hm
        clear hc hm
        go_wp2_with fail
        refine HC.out.mono ?_
        rintro e w2 ⟨rfl, f2⟩
        have HF2 := hide (HF.out.trans f2)
        clear f2
        go_wp2
        go_roundw
        case rel =>
          refine ⟨j + 1, hlt, by go_num, HF2.out, fun v hv => ?_⟩
          rw [HT.out] at hv
          rcases List.mem_append.1 hv with hv | hv
          · exact HA.out v hv
          · simp at hv; subst hv; exact HMM.out
        case measure => simp [intOf]; omega
    · obtain rfl : l.length = j := by omega
      have hyes : (l.map T.v).all V.may = true := List.all_eq_true.2 fun v hv => HA.out v (by rw [List.take_of_length_le (by simp)]; exact hv)
      have HY := hide hyes
      have HF := hide fr
      clear fr hyes ht hB
      go_wp2
      go_ret
      exact ⟨⟨-1, rfl, .inr ⟨rfl, HY.out⟩⟩, HF.out⟩

theorem containsV_any (A : Option Addr) (cap : Nat) (l : List T) (w : World) (lo hi : Nat) (ht : (T.row A cap l).In w lo hi) (hh : hi ≤ w.heap.size) :
    Calls Try.prog 151 #[.slice A l.length cap, .func (.func 152) #[] #[]] w fun e w' => e = .returned (.bool (!(l.map T.v).all V.may)) ∧ Fr No w w' := by
  have hI := indexV_any A cap l w lo hi ht hh
  generalize (l.map T.v).all V.may = q at *
  clear ht
  go_enter Try.func151, Try.ntmps151
  go_wp2_with fail
  refine hI.mono ?_
  rintro e w2 ⟨⟨z, rfl, hz⟩, fr2⟩
  rcases hz with ⟨h0, rfl⟩ | ⟨rfl, rfl⟩
  · have h1 : decide ((0 : Int) ≤ z) = true := by simpa using h0
    go_wp2
    go_ret
    exact ⟨rfl, fr2⟩
  · go_wp2
    go_ret
    exact ⟨rfl, fr2⟩

/-- May all be? -/
theorem allV_any (A : Option Addr) (cap : Nat) (l : List T) (w : World) (lo hi : Nat) (ht : (T.row A cap l).In w lo hi) (hh : hi ≤ w.heap.size) :
    Calls Try.prog 123 #[.slice A l.length cap] w fun e w' => e = .returned (.bool ((l.map T.v).all V.may)) ∧ Fr No w w' := by
  have hI := containsV_any A cap l w lo hi ht hh
  generalize (l.map T.v).all V.may = q at *
  clear ht
  cases q
  all_goals
    go_enter Try.func123, Try.ntmps123
    go_wp2_with fail
    refine hI.mono ?_
    rintro e w2 ⟨rfl, fr2⟩
    go_wp2
    go_ret
    exact ⟨rfl, fr2⟩

set_option maxRecDepth 100000 in
set_option maxHeartbeats 4000000 in
/-- The document's MayAll. -/
theorem refMayAll_any (A : Option Addr) (cap : Nat) (l : List T) (w : World) (lo hi : Nat) (ht : (T.row A cap l).In w lo hi) (hh : hi ≤ w.heap.size) :
    Calls Try.prog 124 #[.slice A l.length cap] w fun e w' => e = .returned (.bool ((l.map T.v).all V.may)) ∧ Fr No w w' := by
  have hlen := (T.in_mk.1 ht).1.len1
  have hB := refMay_any
  go_enter Try.func124, Try.ntmps124
  go_wp2_with fail
  go_loopw [3] (fun i wr => ∃ j : Nat, j ≤ l.length ∧ i = .int .i64 j ∧ Fr No w wr ∧ ∀ v ∈ (l.map T.v).take j, v.may = true) (fun i _ => l.length - (intOf i).toNat)
  case atStart => exact ⟨0, Nat.zero_le _, rfl, Fr.refl _ _, by simp⟩
  case round =>
    obtain ⟨j, hj, rfl, fr, hall⟩ := hrel
    have HA := hide hall
    have hsz := fr.size
    clear hall
    by_cases hlt : j < l.length
    · obtain ⟨b, o, k1, n1, s1, A1, cap1, l1, r1, rfl, hb0, hb1, hx, hin, e0, e1, e2, e3, e4⟩ := T.elem (ht.no fr hh) hlt
      have hc := hB l[j] wr lo hi (by rw [hx]; exact hin) (by omega)
      have hj' : j < (l.map T.v).length := by simpa using hlt
      have hxv : (l.map T.v)[j] = (T.mk k1 n1 s1 A1 cap1 l1 r1).v := by rw [List.getElem_map, hx]
      rw [hx, T.val_mk] at hc
      generalize (T.mk k1 n1 s1 A1 cap1 l1 r1).v = u at *
      have g0 : b < wr.heap.size := by omega
      have htk : (l.map T.v).take (j + 1) = (l.map T.v).take j ++ [u] := by rw [List.take_succ_eq_append_getElem hj', hxv]
      have hmem : u ∈ l.map T.v := by rw [← hxv]; exact List.getElem_mem hj'
      have HT := hide htk
      have HM := hide hmem
      have HF := hide fr
      clear hx hxv htk hmem fr hin hB ht
      cases hm : u.may with
      | false =>
        rw [hm] at hc
        have HC := hide hc
        have hno : (l.map T.v).all V.may = false := by
          rw [Bool.eq_false_iff]
          intro h
          rw [List.all_eq_true.1 h u HM.out] at hm
          cases hm
        have HN := hide hno
        clear hc hno hm
        go_wp2_with fail
        refine HC.out.mono ?_
        rintro e w2 ⟨rfl, f2⟩
        have HF2 := hide (HF.out.trans f2)
        clear f2
        go_wp2
        go_ret
        exact ⟨by rw [HN.out]; rfl, HF2.out⟩
      | true =>
        rw [hm] at hc
        have HC := hide hc
        have HMM := hide hm
        clear hc hm
        go_wp2_with fail
        refine HC.out.mono ?_
        rintro e w2 ⟨rfl, f2⟩
        have HF2 := hide (HF.out.trans f2)
        clear f2
        go_wp2
        go_roundw
        case rel =>
          refine ⟨j + 1, hlt, by go_num, HF2.out, fun v hv => ?_⟩
          rw [HT.out] at hv
          rcases List.mem_append.1 hv with hv | hv
          · exact HA.out v hv
          · simp at hv; subst hv; exact HMM.out
        case measure => simp [intOf]; omega
    · obtain rfl : l.length = j := by omega
      have hyes : (l.map T.v).all V.may = true := List.all_eq_true.2 fun v hv => HA.out v (by rw [List.take_of_length_le (by simp)]; exact hv)
      have HY := hide hyes
      have HF := hide fr
      clear fr hyes ht hB
      go_wp2
      go_ret
      exact ⟨by rw [HY.out]; rfl, HF.out⟩

/-- What Of answers. -/
def ofV (l : List V) : V × Int := if l.all V.may = true then (if (V.mk 3 0 ⟨#[]⟩ l 0).may = true then (V.mk 3 0 ⟨#[]⟩ l 0, 0) else (V.zero, 4)) else (V.zero, 2)

theorem T.row_v (A : Option Addr) (cap : Nat) (l : List T) : (T.row A cap l).v = V.mk 3 0 ⟨#[]⟩ (l.map T.v) 0 := by rw [T.row, T.v_mk]

/-- A value that is known, and an error's number. -/
def InE (v : V) (n : Int) (w : World) (e : Ending) (w' : World) : Prop :=
  ∃ t' : T, e = .returned (.tuple #[t'.val, .int .i64 n]) ∧ t'.v = v ∧ t'.In w' w.heap.size w'.heap.size ∧ Fr No w w'

set_option maxRecDepth 100000 in
set_option maxHeartbeats 4000000 in
theorem vOf_any (A : Option Addr) (cap : Nat) (l : List T) (w : World) (lo hi : Nat) (ht : (T.row A cap l).In w lo hi) (hh : hi ≤ w.heap.size) :
    Calls Try.prog 65 #[.slice A l.length cap] w (OwnE2 (ofV (l.map T.v)).1 (ofV (l.map T.v)).2 w) := by
  have hA := fun w' h h' => allV_any A cap l w' lo hi h h'
  have hM := fun w' h h' => may_any (T.row A cap l) w' lo hi h h'
  have hO := fun w' h h' => own2_any (T.row A cap l) w' lo hi h h'
  rw [T.row_v] at hM hO
  have hval : (T.row A cap l).val = .agg #[.int .u8 3, .int .i64 0, .string ⟨#[]⟩, .slice A l.length cap, .int .i64 0] := rfl
  rw [hval] at hM hO
  clear hval
  have fr0 := (Fr.refl No w).alloc (.cells #[.int .u8 0, .int .i64 0, .string ⟨#[]⟩, .slice none 0 0, .int .i64 0] 27)
  have bz0 := Blk.new w 27 #[.int .u8 0, .int .i64 0, .string ⟨#[]⟩, .slice none 0 0, .int .i64 0]
  have ht0 := ht.no fr0 hh
  have hs0 : w.heap.size < (w.alloc (.cells #[.int .u8 0, .int .i64 0, .string ⟨#[]⟩, .slice none 0 0, .int .i64 0] 27)).heap.size := by simp
  clear ht
  cases ha : (l.map T.v).all V.may with
  | false =>
    have e1 : ofV (l.map T.v) = (V.zero, 2) := by simp only [ofV]; rw [ha]; rfl
    rw [e1]
    rw [ha] at hA
    clear ha e1 hM hO
    go_enter Try.func65, Try.ntmps65
    go_wp2_with fail
    generalize World.alloc w _ = w0 at *
    refine (hA w0 ht0 (by omega)).mono ?_
    rintro e w2 ⟨rfl, f2⟩
    have bz2 := bz0.fr f2 fun h => h
    obtain ⟨d0, d1, d2, d3, d4, df⟩ := bz2.cells5
    have q0 := bz2.lt
    have HF := hide (fr0.trans f2)
    clear hA ht0 bz0 fr0 f2 bz2
    go_wp2
    refine bodyPost_ret (v := .tuple #[.agg #[.int .u8 0, .int .i64 0, .string ⟨#[]⟩, .slice none 0 0, .int .i64 0], .int .i64 2]) (by simp [results, Try.results65, go_sem, *]) rfl ?_
    have hF2 := HF.out
    refine ⟨T.zero, rfl, T.zero_v, T.zero_sh _ _ _, ?_⟩
    repeat (first | with_reducible exact hF2 | with_reducible refine Fr.setNew ?_ (Nat.le_refl _) _)
  | true =>
    rw [ha] at hA
    cases hm : (V.mk 3 0 ⟨#[]⟩ (l.map T.v) 0).may with
    | false =>
      have e1 : ofV (l.map T.v) = (V.zero, 4) := by simp only [ofV]; rw [ha, hm]; rfl
      rw [e1]
      rw [hm] at hM
      clear ha hm e1 hO
      go_enter Try.func65, Try.ntmps65
      go_wp2_with fail
      generalize World.alloc w _ = w0 at *
      refine (hA w0 ht0 (by omega)).mono ?_
      rintro e w2 ⟨rfl, f2⟩
      have bz2 := bz0.fr f2 fun h => h
      have ht2 := ht0.no f2 (by omega)
      have HF := hide (fr0.trans f2)
      have hs2 := (fr0.trans f2).size
      clear hA ht0 bz0 fr0 f2
      go_wp2_with fail
      have f3 := (Fr.refl No w2).alloc (.cells #[.int .u8 3, .int .i64 0, .string ⟨#[]⟩, .slice A l.length cap, .int .i64 0] 27)
      have HF3 := hide (HF.out.trans f3)
      have bz3 := bz2.fr f3 fun h => h
      have ht3 := ht2.no f3 (by omega)
      have hs3 := f3.size
      clear bz2 ht2 f3
      generalize World.alloc w2 _ = w3 at *
      refine (hM w3 ht3 (by omega)).mono ?_
      rintro e w4 ⟨rfl, f4⟩
      have bz4 := bz3.fr f4 fun h => h
      obtain ⟨d0, d1, d2, d3, d4, df⟩ := bz4.cells5
      have q0 := bz4.lt
      have HF4 := hide (HF3.out.trans f4)
      clear hM ht3 bz3 f4 bz4
      go_wp2
      refine bodyPost_ret (v := .tuple #[.agg #[.int .u8 0, .int .i64 0, .string ⟨#[]⟩, .slice none 0 0, .int .i64 0], .int .i64 4]) (by simp [results, Try.results65, go_sem, *]) rfl ?_
      have hF2 := HF4.out
      refine ⟨T.zero, rfl, T.zero_v, T.zero_sh _ _ _, ?_⟩
      repeat (first | with_reducible exact hF2 | with_reducible refine Fr.setNew ?_ (Nat.le_refl _) _)
    | true =>
      have e1 : ofV (l.map T.v) = (V.mk 3 0 ⟨#[]⟩ (l.map T.v) 0, 0) := by simp only [ofV]; rw [ha, hm]; rfl
      rw [e1]
      rw [hm] at hM
      generalize V.mk 3 0 ⟨#[]⟩ (l.map T.v) 0 = u at *
      clear ha hm e1
      go_enter Try.func65, Try.ntmps65
      go_wp2_with fail
      generalize World.alloc w _ = w0 at *
      refine (hA w0 ht0 (by omega)).mono ?_
      rintro e w2 ⟨rfl, f2⟩
      have bz2 := bz0.fr f2 fun h => h
      have ht2 := ht0.no f2 (by omega)
      have HF := hide (fr0.trans f2)
      have hs2 := (fr0.trans f2).size
      clear hA ht0 bz0 fr0 f2
      have hsz2 : w.heap.size < w2.heap.size := bz2.lt
      go_wp2_with fail
      have f3 := (Fr.refl No w2).alloc (.cells #[.int .u8 3, .int .i64 0, .string ⟨#[]⟩, .slice A l.length cap, .int .i64 0] 27)
      have HF3 := hide (HF.out.trans f3)
      have bz3 := bz2.fr f3 fun h => h
      have bv3 := Blk.new w2 27 #[.int .u8 3, .int .i64 0, .string ⟨#[]⟩, .slice A l.length cap, .int .i64 0]
      have ht3 := ht2.no f3 (by omega)
      have hs3 := f3.size
      clear bz2 ht2 f3
      generalize World.alloc w2 _ = w3 at *
      refine (hM w3 ht3 (by omega)).mono ?_
      rintro e w4 ⟨rfl, f4⟩
      have bz4 := bz3.fr f4 fun h => h
      have bv4 := bv3.fr f4 fun h => h
      have ht4 := ht3.no f4 (by omega)
      obtain ⟨c0, c1, c2, c3, c4, -⟩ := bv4.cells5
      have qv := bv4.lt
      have HF4 := hide (HF3.out.trans f4)
      have hs4 := f4.size
      clear hM ht3 bz3 bv3 f4 bv4
      go_wp2_with fail
      refine (hO w4 ht4 (by omega)).mono ?_
      rintro e w5 ⟨⟨k5, n5, s5, A5, cap5, l5, r5⟩, rfl, hv5, hsh5, f5⟩
      rw [T.val_mk]
      have bz5 := bz4.fr f5 fun h => h
      obtain ⟨d0, d1, d2, d3, d4, df⟩ := bz5.cells5
      have q0 := bz5.lt
      have HF5 := hide (HF4.out.trans f5)
      have HV := hide hv5
      have HSH := hide hsh5
      have hs5 := f5.size
      clear hO ht4 bz4 f5 bz5 hv5 hsh5 c0 c1 c2 c3 c4 qv
      go_wp2
      refine bodyPost_ret (v := .tuple #[.agg #[.int .u8 k5, .int .i64 n5, .string s5, .slice A5 l5.length cap5, .int .i64 r5], .int .i64 0]) (by simp [results, Try.results65, go_sem, *]) rfl ?_
      have hF2 := HF5.out
      refine ⟨T.mk k5 n5 s5 A5 cap5 l5 r5, rfl, HV.out, ?_, ?_⟩
      · refine (T.Sh.fr' (S := (· = w.heap.size)) HSH.out ?_ (fun i h0 h1 h2 => by have h' : i = w.heap.size := h2; omega)).more (by omega) (by simp)
        repeat (first | with_reducible exact Fr.refl _ w5 | with_reducible refine Fr.set ?_ (by simp) _)
      · repeat (first | with_reducible exact hF2 | with_reducible refine Fr.setNew ?_ (Nat.le_refl _) _)

set_option maxRecDepth 100000 in
set_option maxHeartbeats 4000000 in
theorem refOf_any (A : Option Addr) (cap : Nat) (l : List T) (w : World) (lo hi : Nat) (ht : (T.row A cap l).In w lo hi) (hh : hi ≤ w.heap.size) :
    Calls Try.prog 66 #[.slice A l.length cap] w (InE (ofV (l.map T.v)).1 (ofV (l.map T.v)).2 w) := by
  have hA := fun w' h h' => refMayAll_any A cap l w' lo hi h h'
  have hM := fun w' h h' => refMay_any (T.row A cap l) w' lo hi h h'
  have hO := fun w' h h' => refOwn_any (T.row A cap l) w' lo hi h h'
  rw [T.row_v] at hM hO
  have hval : (T.row A cap l).val = .agg #[.int .u8 3, .int .i64 0, .string ⟨#[]⟩, .slice A l.length cap, .int .i64 0] := rfl
  rw [hval] at hM hO
  clear hval
  have fr0 := (Fr.refl No w).alloc (.cells #[.int .u8 0, .int .i64 0, .string ⟨#[]⟩, .slice none 0 0, .int .i64 0] 27)
  have bz0 := Blk.new w 27 #[.int .u8 0, .int .i64 0, .string ⟨#[]⟩, .slice none 0 0, .int .i64 0]
  have ht0 := ht.no fr0 hh
  have hs0 : w.heap.size < (w.alloc (.cells #[.int .u8 0, .int .i64 0, .string ⟨#[]⟩, .slice none 0 0, .int .i64 0] 27)).heap.size := by simp
  clear ht
  cases ha : (l.map T.v).all V.may with
  | false =>
    have e1 : ofV (l.map T.v) = (V.zero, 2) := by simp only [ofV]; rw [ha]; rfl
    rw [e1]
    rw [ha] at hA
    clear ha e1 hM hO
    go_enter Try.func66, Try.ntmps66
    go_wp2_with fail
    generalize World.alloc w _ = w0 at *
    refine (hA w0 ht0 (by omega)).mono ?_
    rintro e w2 ⟨rfl, f2⟩
    have bz2 := bz0.fr f2 fun h => h
    obtain ⟨d0, d1, d2, d3, d4, df⟩ := bz2.cells5
    have q0 := bz2.lt
    have HF := hide (fr0.trans f2)
    clear hA ht0 bz0 fr0 f2 bz2
    go_wp2
    refine bodyPost_ret (v := .tuple #[.agg #[.int .u8 0, .int .i64 0, .string ⟨#[]⟩, .slice none 0 0, .int .i64 0], .int .i64 2]) (by simp [results, Try.results66, go_sem, *]) rfl ?_
    have hF2 := HF.out
    refine ⟨T.zero, rfl, T.zero_v, (T.zero_sh _ _ _).inn, ?_⟩
    repeat (first | with_reducible exact hF2 | with_reducible refine Fr.setNew ?_ (Nat.le_refl _) _)
  | true =>
    rw [ha] at hA
    cases hm : (V.mk 3 0 ⟨#[]⟩ (l.map T.v) 0).may with
    | false =>
      have e1 : ofV (l.map T.v) = (V.zero, 4) := by simp only [ofV]; rw [ha, hm]; rfl
      rw [e1]
      rw [hm] at hM
      clear ha hm e1 hO
      go_enter Try.func66, Try.ntmps66
      go_wp2_with fail
      generalize World.alloc w _ = w0 at *
      refine (hA w0 ht0 (by omega)).mono ?_
      rintro e w2 ⟨rfl, f2⟩
      have bz2 := bz0.fr f2 fun h => h
      have ht2 := ht0.no f2 (by omega)
      have HF := hide (fr0.trans f2)
      have hs2 := (fr0.trans f2).size
      clear hA ht0 bz0 fr0 f2
      go_wp2_with fail
      have f3 := (Fr.refl No w2).alloc (.cells #[.int .u8 3, .int .i64 0, .string ⟨#[]⟩, .slice A l.length cap, .int .i64 0] 27)
      have HF3 := hide (HF.out.trans f3)
      have bz3 := bz2.fr f3 fun h => h
      have ht3 := ht2.no f3 (by omega)
      have hs3 := f3.size
      clear bz2 ht2 f3
      generalize World.alloc w2 _ = w3 at *
      refine (hM w3 ht3 (by omega)).mono ?_
      rintro e w4 ⟨rfl, f4⟩
      have bz4 := bz3.fr f4 fun h => h
      obtain ⟨d0, d1, d2, d3, d4, df⟩ := bz4.cells5
      have q0 := bz4.lt
      have HF4 := hide (HF3.out.trans f4)
      clear hM ht3 bz3 f4 bz4
      go_wp2
      refine bodyPost_ret (v := .tuple #[.agg #[.int .u8 0, .int .i64 0, .string ⟨#[]⟩, .slice none 0 0, .int .i64 0], .int .i64 4]) (by simp [results, Try.results66, go_sem, *]) rfl ?_
      have hF2 := HF4.out
      refine ⟨T.zero, rfl, T.zero_v, (T.zero_sh _ _ _).inn, ?_⟩
      repeat (first | with_reducible exact hF2 | with_reducible refine Fr.setNew ?_ (Nat.le_refl _) _)
    | true =>
      have e1 : ofV (l.map T.v) = (V.mk 3 0 ⟨#[]⟩ (l.map T.v) 0, 0) := by simp only [ofV]; rw [ha, hm]; rfl
      rw [e1]
      rw [hm] at hM
      generalize V.mk 3 0 ⟨#[]⟩ (l.map T.v) 0 = u at *
      clear ha hm e1
      go_enter Try.func66, Try.ntmps66
      go_wp2_with fail
      generalize World.alloc w _ = w0 at *
      refine (hA w0 ht0 (by omega)).mono ?_
      rintro e w2 ⟨rfl, f2⟩
      have bz2 := bz0.fr f2 fun h => h
      have ht2 := ht0.no f2 (by omega)
      have HF := hide (fr0.trans f2)
      have hs2 := (fr0.trans f2).size
      clear hA ht0 bz0 fr0 f2
      have hsz2 : w.heap.size < w2.heap.size := bz2.lt
      go_wp2_with fail
      have f3 := (Fr.refl No w2).alloc (.cells #[.int .u8 3, .int .i64 0, .string ⟨#[]⟩, .slice A l.length cap, .int .i64 0] 27)
      have HF3 := hide (HF.out.trans f3)
      have bz3 := bz2.fr f3 fun h => h
      have bv3 := Blk.new w2 27 #[.int .u8 3, .int .i64 0, .string ⟨#[]⟩, .slice A l.length cap, .int .i64 0]
      have ht3 := ht2.no f3 (by omega)
      have hs3 := f3.size
      clear bz2 ht2 f3
      generalize World.alloc w2 _ = w3 at *
      refine (hM w3 ht3 (by omega)).mono ?_
      rintro e w4 ⟨rfl, f4⟩
      have bz4 := bz3.fr f4 fun h => h
      have bv4 := bv3.fr f4 fun h => h
      have ht4 := ht3.no f4 (by omega)
      obtain ⟨c0, c1, c2, c3, c4, -⟩ := bv4.cells5
      have qv := bv4.lt
      have HF4 := hide (HF3.out.trans f4)
      have hs4 := f4.size
      clear hM ht3 bz3 bv3 f4 bv4
      go_wp2_with fail
      refine (hO w4 ht4 (by omega)).mono ?_
      rintro e w5 ⟨⟨k5, n5, s5, A5, cap5, l5, r5⟩, rfl, hv5, hsh5, f5⟩
      rw [T.val_mk]
      have bz5 := bz4.fr f5 fun h => h
      obtain ⟨d0, d1, d2, d3, d4, df⟩ := bz5.cells5
      have q0 := bz5.lt
      have HF5 := hide (HF4.out.trans f5)
      have HV := hide hv5
      have HSH := hide hsh5
      have hs5 := f5.size
      clear hO ht4 bz4 f5 bz5 hv5 hsh5 c0 c1 c2 c3 c4 qv
      go_wp2
      refine bodyPost_ret (v := .tuple #[.agg #[.int .u8 k5, .int .i64 n5, .string s5, .slice A5 l5.length cap5, .int .i64 r5], .int .i64 0]) (by simp [results, Try.results66, go_sem, *]) rfl ?_
      have hF2 := HF5.out
      refine ⟨T.mk k5 n5 s5 A5 cap5 l5 r5, rfl, HV.out, ?_, ?_⟩
      · refine (T.In.fr (S := (· = w.heap.size)) HSH.out ?_ (Nat.le_refl _) (fun i h0 h1 h2 => by have h' : i = w.heap.size := h2; omega)).more (by omega) (by simp)
        repeat (first | with_reducible exact Fr.refl _ w5 | with_reducible refine Fr.set ?_ (by simp) _)
      · repeat (first | with_reducible exact hF2 | with_reducible refine Fr.setNew ?_ (Nat.le_refl _) _)

end Go.Proofs.Ytihjmipmjogpoaa

/- Chapter 2: the document's answer: Rename. -/
namespace Go.Proofs.Ytihjmipmjogpoaa
open Go.RowKit

theorem take_pos {L : List Int} {j : Nat} {x : Int} (h : L[j]? = some x) (hp : ∀ y ∈ L.take j, 1 ≤ y) (hx : 1 ≤ x) : ∀ y ∈ L.take (j + 1), 1 ≤ y := by
  obtain ⟨hj, e⟩ := List.getElem?_eq_some_iff.1 h
  intro y hy
  rw [List.take_succ_eq_append_getElem hj] at hy
  rcases List.mem_append.1 hy with hy | hy
  · exact hp y hy
  · simp at hy; omega

theorem not_all {L : List Int} {j : Nat} {x : Int} (h : L[j]? = some x) (hx : x < 1) : (L.all fun r => decide (1 ≤ r)) = false := by
  rw [List.all_eq_false]
  obtain ⟨hj, e⟩ := List.getElem?_eq_some_iff.1 h
  exact ⟨x, e ▸ List.getElem_mem hj, by simpa using hx⟩

set_option maxRecDepth 100000 in
set_option maxHeartbeats 8000000 in
theorem refRename_any (t : T) (w : World) (lo hi : Nat) (ht : t.In w lo hi) (hh : hi ≤ w.heap.size) (Af At : Option Addr) (cf ct : Nat) (fs ts : List Int) (lf hf lt ht' : Nat) (pf : Ints w lf hf Af cf fs) (hhf : hf ≤ w.heap.size) (pt : Ints w lt ht' At ct ts) (hht : ht' ≤ w.heap.size) :
    Calls Try.prog 73 #[t.val, .slice Af fs.length cf, .slice At ts.length ct] w (InE (renV t.v fs ts).1 (renV t.v fs ts).2 w) := by
  have hM := fun w' h h' => refMay_any t w' lo hi h h'
  have hlf := pf.len
  have hlt := pt.len
  cases t with
  | mk k n s A cap l r =>
    have hRN := fun hln w' h h' => renamed_any Af At cf ct fs ts hln (T.mk k n s A cap l r) w' lo hi h h'
    rw [T.val_mk] at hM hRN ⊢
    generalize hu : (T.mk k n s A cap l r).v = u at *
    have b0 : Blk ((w.alloc (.cells #[.int .u8 k, .int .i64 n, .string s, .slice A l.length cap, .int .i64 r] 27)).alloc (.cells #[.int .u8 0, .int .i64 0, .string ⟨#[]⟩, .slice none 0 0, .int .i64 0] 27)) w.heap.size 27 #[.int .u8 k, .int .i64 n, .string s, .slice A l.length cap, .int .i64 r] := (Blk.new' w 27 _ rfl).alloc _
    have bz : Blk ((w.alloc (.cells #[.int .u8 k, .int .i64 n, .string s, .slice A l.length cap, .int .i64 r] 27)).alloc (.cells #[.int .u8 0, .int .i64 0, .string ⟨#[]⟩, .slice none 0 0, .int .i64 0] 27)) (w.heap.size + 1) 27 #[.int .u8 0, .int .i64 0, .string ⟨#[]⟩, .slice none 0 0, .int .i64 0] := Blk.new' (w.alloc _) 27 _ (by simp)
    have f0 := ((Fr.refl No w).alloc (.cells #[.int .u8 k, .int .i64 n, .string s, .slice A l.length cap, .int .i64 r] 27)).alloc (.cells #[.int .u8 0, .int .i64 0, .string ⟨#[]⟩, .slice none 0 0, .int .i64 0] 27)
    have HB0 := hide b0
    have HBZ := hide bz
    have HF0 := hide f0
    have HT := hide ht
    have PF := hide pf
    have PT := hide pt
    have hhw : hi ≤ w.heap.size := hh
    have HM := hide hM
    have HRN := hide hRN
    clear b0 bz f0 ht pf pt hM hRN hu
    obtain ⟨vn, hvn⟩ : ∃ vn, vn = renV u fs ts := ⟨_, rfl⟩
    rw [← hvn]
    have HVN := hide hvn
    clear hvn
    have hbad : ∀ (W W' : World), Fr No w W → renV u fs ts = (V.zero, 2) → Fr (fun i => i = w.heap.size + 1) W W' → InE vn.1 vn.2 w (.returned (.tuple #[.agg #[.int .u8 0, .int .i64 0, .string ⟨#[]⟩, .slice none 0 0, .int .i64 0], .int .i64 2])) W' := fun W W' f e f' => by
      rw [HVN.out, e]
      exact ⟨T.zero, rfl, T.zero_v, (T.zero_sh _ _ _).inn, f.trans' f' fun i hi h => by have h' : i = w.heap.size + 1 := h; omega⟩
    have HBAD := hide hbad
    clear hbad
    go_enter Try.func73, Try.ntmps73
    go_wp2_with fail
    generalize World.alloc (World.alloc w _) _ = w1 at *
    have hs1 := (HF0.out).size
    have hcall := HM.out w1 (HT.out.no HF0.out hh) (by omega)
    clear HM
    refine hcall.mono ?_
    rintro e w2 ⟨rfl, f2⟩
    have hs2 := f2.size
    have HF2 := hide (HF0.out.trans f2)
    have B0 := HB0.out.fr f2 fun h => h
    have BZ := HBZ.out.fr f2 fun h => h
    have HB02 := hide B0
    have HBZ2 := hide BZ
    obtain ⟨c0, c1, c2, c3, c4, -⟩ := B0.cells5
    obtain ⟨d0, d1, d2, d3, d4, df⟩ := BZ.cells5
    have q0 := B0.lt
    have q1 := BZ.lt
    clear B0 BZ HB0 HBZ HF0 hcall f2
    cases hm : u.may with
    | false =>
      have HE := hide (show renV u fs ts = (V.zero, 2) by simp [renV, hm])
      clear hm
      go_wp2
      refine bodyPost_ret (v := .tuple #[.agg #[.int .u8 0, .int .i64 0, .string ⟨#[]⟩, .slice none 0 0, .int .i64 0], .int .i64 2]) (by simp [results, Try.results73, go_sem, *]) rfl ?_
      refine HBAD.out _ _ HF2.out HE.out ?_
      repeat (first | with_reducible exact Fr.refl _ _ | with_reducible refine Fr.set ?_ (by simp) _)
    | true =>
      by_cases hln : fs.length = ts.length
      case neg =>
        have HE := hide (show renV u fs ts = (V.zero, 2) by simp [renV, hln])
        have hl1 : ((fs.length : Int) != (ts.length : Int)) = true := by simp; omega
        clear hm hln
        go_wp2
        refine bodyPost_ret (v := .tuple #[.agg #[.int .u8 0, .int .i64 0, .string ⟨#[]⟩, .slice none 0 0, .int .i64 0], .int .i64 2]) (by simp [results, Try.results73, go_sem, *]) rfl ?_
        refine HBAD.out _ _ HF2.out HE.out ?_
        repeat (first | with_reducible exact Fr.refl _ _ | with_reducible refine Fr.set ?_ (by simp) _)
      have hl1 : ((fs.length : Int) != (ts.length : Int)) = false := by simp; omega
      have HLN := hide hln
      have HMY := hide hm
      clear hm hln
      go_wp2_with fail
      go_loopw [8] (fun i wr => ∃ j : Nat, j ≤ fs.length ∧ i = .int .i64 j ∧ Fr No w2 wr ∧ (∀ y ∈ fs.take j, 1 ≤ y) ∧ (∀ y ∈ ts.take j, 1 ≤ y)) (fun i _ => fs.length - (intOf i).toNat)
      case atStart => exact ⟨0, Nat.zero_le _, rfl, Fr.refl _ _, by simp, by simp⟩
      case round =>
        obtain ⟨j, hj, rfl, fr, hpf, hpt⟩ := hrel
        have hsr := fr.size
        have B0 := HB02.out.fr fr fun h => h
        have BZ := HBZ2.out.fr fr fun h => h
        obtain ⟨c0, c1, c2, c3, c4, -⟩ := B0.cells5
        obtain ⟨d0, d1, d2, d3, d4, df⟩ := BZ.cells5
        have HPF := hide hpf
        have HPT := hide hpt
        clear hpf hpt
        by_cases hjl : j < fs.length
        · have hjt : j < ts.length := by have := HLN.out; omega
          obtain ⟨bf, of, rfl, hbf0, hbf1, hcf⟩ := (PF.out.no (HF2.out.trans fr) hhf).elem hjl
          obtain ⟨bt, ot, rfl, hbt0, hbt1, hct⟩ := (PT.out.no (HF2.out.trans fr) hht).elem hjt
          have hfx : fs[j]? = some fs[j] := List.getElem?_eq_getElem hjl
          have htx : ts[j]? = some ts[j] := List.getElem?_eq_getElem hjt
          have g0 : bf < wr.heap.size := by omega
          have g1 : bt < wr.heap.size := by omega
          generalize fs[j] = x at *
          generalize ts[j] = y at *
          have HFX := hide hfx
          have HTX := hide htx
          have HF := hide fr
          have q0 := B0.lt
          have q1 := BZ.lt
          clear hfx htx fr B0 BZ
          by_cases hx1 : x < 1
          · have HE := hide (show renV u fs ts = (V.zero, 2) by simp [renV, not_all HFX.out hx1])
            go_wp2
            refine bodyPost_ret (v := .tuple #[.agg #[.int .u8 0, .int .i64 0, .string ⟨#[]⟩, .slice none 0 0, .int .i64 0], .int .i64 2]) (by simp [results, Try.results73, go_sem, *]) rfl ?_
            refine HBAD.out _ _ (HF2.out.trans HF.out) HE.out ?_
            repeat (first | with_reducible exact Fr.refl _ _ | with_reducible refine Fr.set ?_ (by simp) _)
          have hx2 : decide (x < 1) = false := by simpa using hx1
          by_cases hy1 : y < 1
          · have HE := hide (show renV u fs ts = (V.zero, 2) by simp [renV, not_all HTX.out hy1])
            have hy2 : decide (y < 1) = true := by simpa using hy1
            clear hx1
            go_wp2
            refine bodyPost_ret (v := .tuple #[.agg #[.int .u8 0, .int .i64 0, .string ⟨#[]⟩, .slice none 0 0, .int .i64 0], .int .i64 2]) (by simp [results, Try.results73, go_sem, *]) rfl ?_
            refine HBAD.out _ _ (HF2.out.trans HF.out) HE.out ?_
            repeat (first | with_reducible exact Fr.refl _ _ | with_reducible refine Fr.set ?_ (by simp) _)
          have hy2 : decide (y < 1) = false := by simpa using hy1
          have hx3 : 1 ≤ x := by omega
          have hy3 : 1 ≤ y := by omega
          clear hx1 hy1
          go_wp2
          go_roundw
          case rel => exact ⟨j + 1, hjl, by go_num, HF.out, take_pos HFX.out HPF.out hx3, take_pos HTX.out HPT.out hy3⟩
          case measure => simp [intOf]; omega
        · obtain rfl : fs.length = j := by omega
          have q0 := B0.lt
          have q1 := BZ.lt
          have hfa : (fs.all fun r => decide (1 ≤ r)) = true := by
            rw [List.all_eq_true]
            intro y hy
            have := HPF.out y (by rw [List.take_of_length_le (Nat.le_refl _)]; exact hy)
            simpa using this
          have hta : (ts.all fun r => decide (1 ≤ r)) = true := by
            rw [List.all_eq_true]
            intro y hy
            have := HPT.out y (by rw [List.take_of_length_le (by have := HLN.out; omega)]; exact hy)
            simpa using this
          have hE : renV u fs ts = (if u.named (nmOf fs ts) = true then (u.ren (nmOf fs ts), 0) else (V.zero, 21)) := by
            simp only [renV, HMY.out, HLN.out, hfa, hta, decide_true, Bool.and_true, if_true]
          have HE := hide hE
          have HF := hide (HF2.out.trans fr)
          have hc := HRN.out HLN.out wr (HT.out.no (HF2.out.trans fr) hh) (by omega) (may_ok HMY.out) lf hf lt ht' (PF.out.no (HF2.out.trans fr) hhf) (by omega) (PT.out.no (HF2.out.trans fr) hht) (by omega)
          have HBZR := hide BZ
          have HC := hide hc
          clear hc hE hfa hta fr B0 BZ HRN
          go_wp2_with fail
          refine HC.out.mono ?_
          rintro e w3 ⟨⟨k5, n5, s5, A5, cap5, l5, r5⟩, rfl, hv5, hin5, fr3⟩
          rw [T.val_mk]
          have hs3 := fr3.size
          have BZ3 := HBZR.out.fr fr3 fun h => h
          obtain ⟨y0, y1, y2, y3, y4, yf⟩ := BZ3.cells5
          have q2 := BZ3.lt
          have HV5 := hide hv5
          have HIN5 := hide hin5
          have HF3 := hide fr3
          clear hv5 hin5 fr3 BZ3 HC c0 c1 c2 c3 c4 d0 d1 d2 d3 d4 df
          have hF2 := HF.out.trans HF3.out
          have HFF := hide hF2
          clear hF2
          cases hnj : u.named (nmOf fs ts) with
          | false =>
            have HNJ := hide hnj
            clear hnj
            go_wp2_with fail
            refine bodyPost_ret (v := .tuple #[.agg #[.int .u8 0, .int .i64 0, .string ⟨#[]⟩, .slice none 0 0, .int .i64 0], .int .i64 21]) (by simp [results, Try.results73, go_sem, *]) rfl ?_
            have hF2 := HFF.out
            rw [HVN.out, HE.out, HNJ.out]
            refine ⟨T.zero, rfl, T.zero_v, (T.zero_sh _ _ _).inn, ?_⟩
            repeat (first | with_reducible exact hF2 | with_reducible refine Fr.setNew ?_ (by first | (simp; done) | (simp; omega)) _ | with_reducible refine Fr.alloc ?_ _)
          | true =>
            have HNJ := hide hnj
            clear hnj
            go_wp2_with fail
            refine bodyPost_ret (v := .tuple #[.agg #[.int .u8 k5, .int .i64 n5, .string s5, .slice A5 l5.length cap5, .int .i64 r5], .int .i64 0]) (by simp [results, Try.results73, go_sem, *]) rfl ?_
            have hF2 := HFF.out
            rw [HVN.out, HE.out, HNJ.out]
            have hv5 := HV5.out
            rw [HNJ.out, if_pos rfl] at hv5
            have hfin : ∀ W, Fr (fun i => i = w.heap.size + 1) w3 W → (T.mk k5 n5 s5 A5 cap5 l5 r5).In W w.heap.size W.heap.size := fun W f =>
              T.In.more (by omega) f.size _ (HIN5.out.fr f (Nat.le_refl _) fun i hi _ h => by have h' : i = w.heap.size + 1 := h; omega)
            refine ⟨T.mk k5 n5 s5 A5 cap5 l5 r5, by rw [T.val_mk]; rfl, hv5, hfin _ ?_, ?_⟩
            · repeat (first | with_reducible exact Fr.refl _ w3 | with_reducible refine Fr.set ?_ (by simp) _ | with_reducible refine Fr.alloc ?_ _)
            · repeat (first | with_reducible exact hF2 | with_reducible refine Fr.setNew ?_ (by first | (simp; done) | (simp; omega)) _ | with_reducible refine Fr.alloc ?_ _)

end Go.Proofs.Ytihjmipmjogpoaa

/- Chapter 2: a copy of a row of references. -/
namespace Go.Proofs.Ytihjmipmjogpoaa
open Go.RowKit

theorem refCells_one (L : List Int) : ∀ u ∈ refCells L, u.oneCell' = true := by
  intro u hu
  obtain ⟨x, _, rfl⟩ := List.mem_map.1 hu
  rfl

set_option maxRecDepth 100000 in
/-- append([]Ref(nil), from...). -/
theorem run_copy_refs {A : Option Addr} {cap : Nat} {L : List Int} (w : World) (lo hi : Nat) (h : Ints w lo hi A cap L) (hl : L.length ≤ 1000000) (ty : TypeId) :
    ∃ v w', (Builtin.append_ #[100, 100] ty #[.slice none 0 0, .slice A L.length cap]).run Try.prog w = .ok v w' ∧ w'.ownsRow w.heap.size 25 1 v L.length (refCells L) ∧ Fr No w w' := by
  obtain ⟨i0, hi0, hz0, hz1, hz2⟩ := info_parts ref_info
  by_cases h0 : L = []
  · subst h0
    refine ⟨.slice none 0 0, w, ?_, World.ownsRow_nil _ _ _ _, Fr.refl _ _⟩
    cases A with
    | none => exact run_append_nothing (P := Try.prog) w 100 100 ty 25 i0 Try.underlying100 hi0 none 0 0 (Nat.le_refl _) _ (Src.ofNil w Try.underlying100 cap)
    | some a => exact run_append_nothing (P := Try.prog) w 100 100 ty 25 i0 Try.underlying100 hi0 none 0 0 (Nat.le_refl _) _ (Src.ofSlice w Try.underlying100 a 0 cap [] (by simp) (by simp) (by simp))
  · obtain ⟨b, o, rfl, hb0, hb1, hc⟩ := h.at_ h0
    obtain ⟨g, c, w', hrun, hown, hgr, hat, hlt⟩ := run_append_lies (P := Try.prog) w 100 ty w.heap.size 25 i0 _ 1 8 Try.underlying100 hi0 hz0 hz1 hz2 rfl (by omega) (.slice none 0 0) 0 [] (World.ownsRow_nil _ _ _ _) ⟨b, o, none⟩ L.length cap (refCells L) (by simp [refCells]) (fun j u hu => by
      simp only [refCells, List.getElem?_map, Option.map_eq_some_iff] at hu
      obtain ⟨x, hx, rfl⟩ := hu
      rw [add_at]
      exact hc j x hx) (refCells_one L) (List.length_pos_iff.2 h0) (by unfold maxLen; omega) (by omega) (Nat.le_refl _) _ rfl
    refine ⟨_, w', hrun, by simpa using hown, (Fr.refl No w).trans' (fr_grown hgr) (fun i hi h => by simp [Value.ownBlock] at h)⟩

set_option maxRecDepth 100000 in
/-- .. for the walk. -/
theorem wpList_copy_refs {ops : Array Oper} {rest : List Oper} {o : Oper} {a : Act} {Q : Exit → Act → World → Prop} (w : World) (hgd : o.guard = none) (s x : Operand)
    (ho : o.op = .call { callee := .builtin .append, args := #[s, x], argTypes := #[100, 100] }) (hv : a.eval s = .slice none 0 0)
    (A : Option Addr) (cap : Nat) (L : List Int) (hx : a.eval x = .slice A L.length cap) (lo hi : Nat) (h : Ints w lo hi A cap L) (hl : L.length ≤ 1000000)
    (hK : ∀ v' w', w'.ownsRow w.heap.size 25 1 v' L.length (refCells L) → Fr No w w' → wpList Try.prog ops Q rest (a.put o.dst v') w') : wpList Try.prog ops Q (o :: rest) a w := by
  refine wpList_plain hgd fun K hK' => ?_
  obtain ⟨v', w', hrun, h1, h2⟩ := run_copy_refs w lo hi h hl o.type
  unfold Oper.wp
  simp [execOp, ho, resolve, invoke, builtin, hv, hx, hrun, Result.andThen]
  exact hK' _ _ (hK v' w' h1 h2)

/-- A row of one's own, seen up to its last. -/
theorem ints_of_front {w : World} {base g cap : Nat} {L : List Int} {y : Int} (h : w.ownsRow base 25 1 (.slice (some ⟨g, 0, none⟩) (L.length + 1) cap) (L.length + 1) (refCells L ++ [.int .i64 y])) (hl : L.length ≤ 1000000) (hr : ∀ x ∈ L, -9223372036854775808 ≤ x ∧ x ≤ 9223372036854775807) :
    Ints w base w.heap.size (some ⟨g, 0, none⟩) cap L ∧ w.cell? ⟨g, L.length, none⟩ = some (.int .i64 y) ∧ (∀ i x, L[i]? = some x → w.cell? ⟨g, i, none⟩ = some (.int .i64 x)) ∧ base ≤ g ∧ g < w.heap.size ∧ L.length + 1 ≤ cap := by
  have hlt := owns_lt h g rfl
  have hle := owns_le h
  have hrl : (refCells L).length = L.length := by simp [refCells]
  have hc : ∀ i x, L[i]? = some x → w.cell? ⟨g, i, none⟩ = some (.int .i64 x) := fun i x hx => by
    have hi := (List.getElem?_eq_some_iff.1 hx).1
    have := World.ownsRow.cells h (g := g) rfl i (.int .i64 x) (by rw [List.getElem?_append_left (by omega)]; simp [refCells, hx])
    rwa [add_at, Nat.zero_add] at this
  refine ⟨⟨by omega, by omega, fun _ => ⟨g, 0, rfl, hlt.1, hlt.2, fun i x hx => by rw [Nat.zero_add]; exact hc i x hx⟩, hr⟩, ?_, hc, hlt.1, hlt.2, hle⟩
  have := World.ownsRow.cells h (g := g) rfl L.length (.int .i64 y) (by rw [List.getElem?_append_right (by omega), hrl, Nat.sub_self]; rfl)
  rwa [add_at, Nat.zero_add] at this

end Go.Proofs.Ytihjmipmjogpoaa

/- Chapter 2: what Rename answers may be. -/
namespace Go.Proofs.Ytihjmipmjogpoaa
open Go.RowKit

theorem vzero_may : V.zero.may = true := by simp [V.zero, V.may, V.fits, V.ok_mk, V.size_mk, V.dep_mk, fok, toL0]

theorem renV_may (v : V) (fs ts : List Int) : (renV v fs ts).1.may = true := by
  rcases renV_err v fs ts with h | h | h
  · obtain ⟨h1, _, _, h4, h5, h6⟩ := renV_ok h
    rw [h6]
    exact ren_may h1 (nm_pos h4 h5)
  all_goals
    unfold renV at h ⊢
    split at h
    · split at h
      · cases h
      · rename_i h1 h2
        rw [if_pos h1, if_neg h2]
        exact vzero_may
    · rename_i h1
      rw [if_neg h1]
      exact vzero_may

end Go.Proofs.Ytihjmipmjogpoaa

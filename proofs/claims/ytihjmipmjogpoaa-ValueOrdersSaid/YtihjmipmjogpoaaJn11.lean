/- Texts joined: P10, S18, S2, S6, S3, S4, S5, Tab, Tab2. -/
import Derived.Test.YtihjmipmjogpoaaJn10
import Derived.Deep.CutRange
/- Chapter 2: lists of values, lent; kept; may all be? -/
namespace Go.Proofs.Ytihjmipmjogpoaa
open Go.RowKit

/-- What lentAll gives. -/
structure LentAllP (l : List T) (w : World) (e : Ending) (w' : World) (g c : Nat) (l' : List T) : Prop where
  e : e = .returned (.slice (some ⟨g, 0, none⟩) l.length c)
  len : l'.length = l.length
  vs : l'.map T.v = l.map T.v
  inn : (T.row (some ⟨g, 0, none⟩) c l').In w' w.heap.size w'.heap.size
  mks : ∀ x ∈ l', x.Mk w'
  g0 : w.heap.size ≤ g
  g1 : g < w'.heap.size
  cap : l.length + 1 ≤ c
  mark : w'.cell? ⟨g, l.length * 5 + 1, none⟩ = some (.int .i64 78)
  fr : Fr No w w'

structure LAInv (w : World) (l : List T) (j : Nat) (A : Option Addr) (cap : Nat) (l' : List T) (wr : World) : Prop where
  len : l'.length = j
  vs : l'.map T.v = (l.take j).map T.v
  fr : Fr No w wr
  own : wr.ownsRow w.heap.size 27 5 (.slice A j cap) j (rowCells l')
  inn : ∀ x ∈ l', x.In wr w.heap.size wr.heap.size ∧ x.Mk wr
  sep : ∀ x ∈ l', ∀ b ∈ x.blocks, (Value.slice A j cap).ownBlock ≠ some b

theorem la_step {w wr w2 w3 : World} {l : List T} {j : Nat} {A2 : Option Addr} {cap2 : Nat} {l' : List T} {m : Array Value} (inv : LAInv w l j A2 cap2 l' wr) (f1 : Fr No wr w2) (hgrow : (w2.alloc (.cells m 27)).grownBy w3 (Value.slice A2 j cap2).ownBlock) :
    Fr No w w3 ∧ (∀ x ∈ l', x.In w3 w.heap.size w3.heap.size ∧ x.Mk w3) := by
  have hol := inv.own.lt
  have F1 : Fr (fun i => some i = (Value.slice A2 j cap2).ownBlock) wr w3 := ((Fr.refl _ wr).thenNo f1 |>.alloc (.cells m 27)).trans' (fr_grown hgrow) (fun i _ h => h)
  refine ⟨inv.fr.trans' F1 (fun i hi h => by have := hol i h.symm; omega), fun x hx => ?_⟩
  obtain ⟨h1, h2⟩ := inv.inn x hx
  have hb : ∀ b ∈ x.blocks, ¬ (some b = (Value.slice A2 j cap2).ownBlock) := fun b hb h => inv.sep x hx b hb h.symm
  exact ⟨T.In.more (Nat.le_refl _) F1.size x (In.fr_blocks F1 (Nat.le_refl _) x hb h1), T.Mk.fr F1 (Nat.le_refl _) x h1 hb h2⟩

theorem la_push {w wr w2 w3 : World} {l : List T} {j : Nat} {A2 : Option Addr} {cap2 : Nat} {l' : List T} {t' : T} {g cp : Nat} (inv : LAInv w l j A2 cap2 l' wr) (hlt : j < l.length) (hv : t'.v = l[j].v)
    (hin : t'.In w2 wr.heap.size w2.heap.size) (hmk : t'.Mk w2) (f1 : Fr No wr w2) (hown : w3.ownsRow w.heap.size 27 5 (.slice (some ⟨g, 0, none⟩) (j + 1) cp) (j + 1) (rowCells l' ++ t'.cells))
    (hgrow : (w2.alloc (.cells t'.cells.toArray 27)).grownBy w3 (Value.slice A2 j cap2).ownBlock) (hat : (Value.slice A2 j cap2).ownBlock = some g ∨ g = w2.heap.size + 1) :
    LAInv w l (j + 1) (some ⟨g, 0, none⟩) cp (l' ++ [t']) w3 := by
  obtain ⟨hf, hl'⟩ := la_step inv f1 hgrow
  have hol := inv.own.lt
  have hs0 := inv.fr.size
  have hs2 : wr.heap.size ≤ w2.heap.size := f1.size
  have F2 : Fr (fun i => some i = (Value.slice A2 j cap2).ownBlock) w2 w3 := (((Fr.refl No w2).alloc (.cells t'.cells.toArray 27)).no).trans' (fr_grown hgrow) (fun i _ h => h)
  refine ⟨by simp [inv.len], ?_, hf, by rw [rowCells_snoc]; exact hown, ?_, ?_⟩
  · rw [List.map_append, inv.vs, List.take_succ_eq_append_getElem hlt, List.map_append, List.map_singleton, List.map_singleton, hv]
  · intro x hx
    rcases List.mem_append.1 hx with hx | hx
    · exact hl' x hx
    · simp at hx; subst hx
      have hb : ∀ b ∈ x.blocks, ¬ (some b = (Value.slice A2 j cap2).ownBlock) := fun b hb h => by
        have h3 := T.In.blocks x hin b hb
        have := hol b h.symm; omega
      exact ⟨T.In.more (by omega) F2.size x (In.fr_blocks F2 (Nat.le_refl _) x hb hin), T.Mk.fr F2 (Nat.le_refl _) x hin hb hmk⟩
  · intro x hx b hb h
    simp [Value.ownBlock] at h
    subst h
    rcases List.mem_append.1 hx with hx | hx
    · rcases hat with h | h
      · exact inv.sep x hx _ hb h
      · have := T.In.blocks x (inv.inn x hx).1 _ hb; omega
    · simp at hx; subst hx
      have h3 := T.In.blocks x hin _ hb
      rcases hat with h | h
      · have := hol _ h; omega
      · omega

set_option maxRecDepth 100000 in
set_option maxHeartbeats 8000000 in
theorem lentAll_any (A : Option Addr) (cap : Nat) (l : List T) (w : World) (lo hi : Nat) (ht : (T.row A cap l).In w lo hi) (hh : hi ≤ w.heap.size) :
    Calls Try.prog 64 #[.slice A l.length cap] w fun e w' => ∃ g c l', LentAllP l w e w' g c l' := by
  have hlen := (T.in_mk.1 ht).1.len1
  obtain ⟨i0, hi0, hz0, hz1, hz2⟩ := info_parts value_info
  have hmk := fun W => run_make_rowN (P := Try.prog) 24 27 i0 _ Try.underlying24 hi0 hz0 .i64 .i64 0 (l.length + 1) (by omega) (by rw [hz2]; omega) (by omega) W
  rw [hz1] at hmk
  have hmk : ∀ W, (Instr.makeSlice 24 (.int .i64 0) (.int .i64 ((l.length : Int) + 1))).run Try.prog W = .ok (.slice (some ⟨W.heap.size, 0, none⟩) 0 (l.length + 1)) (W.alloc (.cells (madeCells (Value.agg #[.int .u8 0, .int .i64 0, .string ⟨#[]⟩, .slice none 0 0, .int .i64 0]).cells ((l.length + 1) * 5)) 27)) := hmk
  go_enter Try.func64, Try.ntmps64
  go_wp2_with fail
  go_loopw [3, 4] (fun v i wr => ∃ (j : Nat) (A2 : Option Addr) (cap2 : Nat) (l' : List T), j ≤ l.length ∧ i = .int .i64 j ∧ v = .slice A2 j cap2 ∧ LAInv w l j A2 cap2 l' wr) (fun _ i _ => l.length - (intOf i).toNat)
  case atStart =>
    refine ⟨0, some ⟨w.heap.size, 0, none⟩, l.length + 1, [], Nat.zero_le _, rfl, rfl, rfl, by simp, (Fr.refl No w).alloc _, ?_, by simp, by simp⟩
    exact World.ownsRow_made (base := w.heap.size) (e := 27) (size := 5) w (madeCells #[.int .u8 0, .int .i64 0, .string ⟨#[]⟩, .slice none 0 0, .int .i64 0] ((l.length + 1) * 5)) (l.length + 1) (Nat.le_refl _) (by unfold maxLen; omega) (size_madeCells _ _)
  case round =>
    obtain ⟨j, A2, cap2, l', hj, rfl, rfl, inv⟩ := hrel
    have fr := inv.fr
    have hsz := fr.size
    by_cases hlt : j < l.length
    · obtain ⟨b, o, k1, n1, s1, A1, cap1, l1, r1, rfl, hb0, hb1, hx, hin, e0, e1, e2, e3, e4⟩ := T.elem (ht.no fr hh) hlt
      have hc := lent_any l[j] wr lo hi (by rw [hx]; exact hin) (by omega)
      rw [hx, T.val_mk] at hc
      have HC := hide hc
      have HX := hide hx
      have HI := hide inv
      have g0 : b < wr.heap.size := by omega
      clear hc hx inv ht hmk fr hin
      go_wp2_with fail
      refine HC.out.mono ?_
      rintro e w2 ⟨⟨k5, n5, s5, A5, cap5, l5, r5⟩, rfl, hv5, hin5, hmk5, f1⟩
      rw [T.val_mk]
      have hs2 := f1.size
      have hownA := (owns_fr HI.out.own f1 fun _ _ h => h).alloc (.cells #[.int .u8 k5, .int .i64 n5, .string s5, .slice A5 l5.length cap5, .int .i64 r5] 27)
      have HV5 := hide hv5
      have HIN5 := hide hin5
      have HMK5 := hide hmk5
      have HF1 := hide f1
      clear hv5 hin5 hmk5 f1
      go_wp2_with (at_builtin; refine wpList_append_lies _ (by rfl) _ _ _ (by rfl) w.heap.size 27 i0 _ 5 64 Try.underlying24 hi0 hz0 hz1 hz2 (by rfl) (by omega) (.slice A2 j cap2) j (rowCells l') (by rfl) hownA ⟨w2.heap.size, 0, none⟩ 1 1 [.int .u8 k5, .int .i64 n5, .string s5, .slice A5 l5.length cap5, .int .i64 r5] (by rfl) (by rfl) (World.news_of_block (Blk.new w2 27 _)) (by simp [Value.oneCell']) (by omega) (by unfold maxLen; omega) (by omega) (by simp; omega) (w2.heap.size + 1) (by simp) ?_; intro g cp w3 hown3 hgrow hat hlt3; have HP := hide (la_push HI.out hlt (HV5.out.trans (congrArg T.v HX.out).symm) HIN5.out HMK5.out HF1.out hown3 hgrow hat); clear hown3 hgrow hat hlt3)
      go_roundw
      case rel => exact ⟨j + 1, _, _, _, hlt, by go_num, rfl, HP.out⟩
      case measure => simp [intOf]; omega
    · obtain rfl : l.length = j := by omega
      have HI := hide inv
      have hnum := fun w3 => num2_any 78 w3
      clear inv ht hmk fr
      go_wp2_with fail
      refine (hnum wr).mono ?_
      rintro e w2 ⟨rfl, f1⟩
      have hs2 := f1.size
      have hownA := (owns_fr HI.out.own f1 fun _ _ h => h).alloc (.cells #[.int .u8 1, .int .i64 78, .string ⟨#[]⟩, .slice none 0 0, .int .i64 0] 27)
      have HF1 := hide f1
      clear f1 hnum
      go_wp2_with (at_builtin; refine wpList_append_lies _ (by rfl) _ _ _ (by rfl) w.heap.size 27 i0 _ 5 64 Try.underlying24 hi0 hz0 hz1 hz2 (by rfl) (by omega) (.slice A2 l.length cap2) l.length (rowCells l') (by rfl) hownA ⟨w2.heap.size, 0, none⟩ 1 1 [.int .u8 1, .int .i64 78, .string ⟨#[]⟩, .slice none 0 0, .int .i64 0] (by rfl) (by rfl) (World.news_of_block (Blk.new w2 27 _)) (by simp [Value.oneCell']) (by omega) (by unfold maxLen; omega) (by omega) (by simp; omega) (w2.heap.size + 1) (by simp) ?_; intro g cp w3 hown3 hgrow hat hlt3; have hcp := owns_le hown3; have hcp2 : (l.length : Int) ≤ (cp : Int) := (by omega); have HO3 := hide hown3; have HG := hide hgrow; have HA := hide hat; clear hown3 hgrow hat)
      go_ret
      obtain ⟨hf, hl'⟩ := la_step HI.out HF1.out HG.out
      have hll := HI.out.len
      have hcell : ∀ i u, (rowCells l' ++ [.int .u8 1, .int .i64 78, .string ⟨#[]⟩, .slice none 0 0, .int .i64 0])[i]? = some u → w3.cell? ⟨g, 0 + i, none⟩ = some u := fun i u hu => by
        have := World.ownsRow.cells HO3.out (g := g) rfl i u hu
        rwa [add_at] at this
      have hrl := rowCells_length l'
      have hgl := owns_lt HO3.out g rfl
      refine ⟨g, cp, l', rfl, hll, ?_, T.in_mk.2 ⟨⟨by decide, by decide, by decide, by decide, by decide, by rw [hll]; exact hlen, by rw [hll]; omega, by decide, by decide⟩, fun _ => ⟨g, 0, rfl, hgl.1, hgl.2, fun i x hx c u hu => ?_⟩, fun x hx => (hl' x hx).1⟩, fun x hx => (hl' x hx).2, hgl.1, hgl.2, by omega, ?_, hf⟩
      · rw [HI.out.vs, List.take_of_length_le (Nat.le_refl _)]
      · have h1 := rowCells_get l' i c x u hx hu
        have h2 := hcell (i * 5 + c) u (by rw [List.getElem?_append_left (List.getElem?_eq_some_iff.1 h1).1]; exact h1)
        rwa [← Nat.add_assoc] at h2
      · have h2 := hcell (l'.length * 5 + 1) (.int .i64 78) (by rw [List.getElem?_append_right (by omega), hrl, show l'.length * 5 + 1 - l'.length * 5 = 1 by omega]; rfl)
        rwa [Nat.zero_add, hll] at h2

set_option maxRecDepth 100000 in
set_option maxHeartbeats 8000000 in
theorem keptAll_any (g c cap : Nat) (A : Option Addr) (l' l : List T) (w : World) (lo hi lo' hi' : Nat) (ha : (T.row (some ⟨g, 0, none⟩) c l').In w lo hi) (hh : hi ≤ w.heap.size) (hm : ∀ x ∈ l', x.Mk w) (hb : (T.row A cap l).In w lo' hi') (hh' : hi' ≤ w.heap.size) (hg : g < hi)
    (hll : l'.length = l.length) (hv : l'.map T.v = l.map T.v) (hc : l.length + 1 ≤ c) (hmark : w.cell? ⟨g, l.length * 5 + 1, none⟩ = some (.int .i64 78)) :
    Calls Try.prog 67 #[.slice (some ⟨g, 0, none⟩) l.length c, .slice A l.length cap] w fun e w' => e = .returned (.bool true) ∧ Fr No w w' := by
  have hlen := (T.in_mk.1 hb).1.len1
  have HLL := hide hll
  have HV := hide hv
  have hcc : (l.length : Int) + 1 ≤ (c : Int) := by omega
  have HC := hide hc
  have HMK := hide hmark
  have HM := hide hm
  clear hll hv hc hmark hm
  go_enter Try.func67, Try.ntmps67
  go_wp2_with fail
  go_loopw [5] (fun i wr => ∃ j : Nat, j ≤ l.length ∧ i = .int .i64 j ∧ Fr No w wr) (fun i _ => l.length - (intOf i).toNat)
  case atStart => exact ⟨0, Nat.zero_le _, rfl, Fr.refl _ _⟩
  case round =>
    obtain ⟨j, hj, rfl, fr⟩ := hrel
    have hsz := fr.size
    by_cases hlt : j < l.length
    · have hlt' : j < l'.length := by have := HLL.out; omega
      obtain ⟨b, o, k1, n1, s1, A1, cap1, l1, r1, hA1, hb0, hb1, hx, hin, e0, e1, e2, e3, e4⟩ := T.elem (ha.no fr hh) hlt'
      simp only [Option.some.injEq, Addr.mk.injEq, and_true] at hA1
      obtain ⟨rfl, rfl⟩ := hA1
      obtain ⟨b', o', k2, n2, s2, A2, cap2, l2, r2, rfl, hb0', hb1', hx', hin', f0, f1, f2, f3, f4⟩ := T.elem (hb.no fr hh') hlt
      have hm1 : (T.mk k1 n1 s1 A1 cap1 l1 r1).Mk wr := by
        have h1 := (T.in_mk.1 ha).2.2 _ (List.getElem_mem hlt')
        have h2 := T.Mk.no fr hh h1 (HM.out _ (List.getElem_mem hlt'))
        rw [hx] at h2
        exact h2
      have hve : (T.mk k1 n1 s1 A1 cap1 l1 r1).v = (T.mk k2 n2 s2 A2 cap2 l2 r2).v := by
        have := congrArg (fun q => q[j]?) HV.out
        simp [hlt, hlt'] at this
        rw [hx, hx'] at this
        exact this
      have IH := fun w1 (f : Fr No wr w1) => kept_any (T.mk k1 n1 s1 A1 cap1 l1 r1) (T.mk k2 n2 s2 A2 cap2 l2 r2) w1 lo hi lo' hi' (hin.no f (by omega)) (by have := f.size; omega) (T.Mk.no f (by omega) hin hm1) (hin'.no f (by omega)) (by have := f.size; omega) hve
      rw [T.val_mk, T.val_mk] at IH
      have HIH := hide IH
      have g0 : g < wr.heap.size := by omega
      have g1 : b' < wr.heap.size := by omega
      have HF := hide fr
      simp only [Nat.zero_add] at e0 e1 e2 e3 e4
      clear hx hx' fr ha hb hm1 hve IH hin hin'
      go_wp2_with fail
      go_region_held3 (fun w' => (∀ c i, c < wr.heap.size → w'.cell? ⟨c, i, none⟩ = wr.cell? ⟨c, i, none⟩) ∧ Fr No wr w')
        (first | exact ⟨fun _ _ _ => rfl, Fr.drew (Fr.refl No wr)⟩ | (have hq : Fr No wr _ := (‹_ ∧ Fr No wr _›).2.trans ‹Fr No _ _›; exact ⟨hq.cells, hq⟩))
        (first
          | (go_at_call 45; have hs0 := (‹_ ∧ Fr No wr _›).2; ((with_reducible refine (HIH.out _ ?_).mono ?_); (exact hs0); rintro e w2 ⟨rfl, fr1⟩)))
      have HF2 := hide (‹_ ∧ Fr No wr _›).2
      go_wp2
      go_roundw
      case rel => exact ⟨j + 1, hlt, by go_num, HF.out.trans HF2.out⟩
      case measure => simp [intOf]; omega
    · obtain rfl : l.length = j := by omega
      have hcell := (fr.cell (b := g) (o := l.length * 5 + 1) (s := none) (by omega) (fun h => h)).trans HMK.out
      have g0 : g < wr.heap.size := by omega
      have HW := hide fr
      clear fr ha hb
      go_wp2
      go_ret
      exact ⟨rfl, HW.out⟩

end Go.Proofs.Ytihjmipmjogpoaa

/- Chapter 2: two values and a list of them lent in one statement: where the statement stands, whichever operations have come up. -/
namespace Go.Proofs.Ytihjmipmjogpoaa
open Go.RowKit

/-- The two values' operations among the statement's. -/
def mp : Nat → Nat
  | 0 => 0 | 1 => 1 | 2 => 2 | 3 => 3 | 4 => 6 | 5 => 7 | 6 => 8 | 7 => 9 | j => j + 10

theorem mp_ge {j : Nat} (h : 8 ≤ j) : mp j = j + 10 := by
  match j, h with
  | j + 8, _ => rfl

theorem mp_lt : ∀ {j : Nat}, j < 8 → mp j < 10 ∧ mp j ≠ 4 ∧ mp j ≠ 5 := by decide

theorem mp_inj {i j : Nat} (h : mp i = mp j) : i = j := by
  rcases Nat.lt_or_ge i 8 with hi | hi <;> rcases Nat.lt_or_ge j 8 with hj | hj
  · have : ∀ i, i < 8 → ∀ j, j < 8 → mp i = mp j → i = j := by decide
    exact this i hi j hj h
  · have := mp_ge hj; have := (mp_lt hi).1; omega
  · have := mp_ge hi; have := (mp_lt hj).1; omega
  · have := mp_ge hi; have := mp_ge hj; omega

theorem upd_mp (f : Nat → Bool) (k : Nat) : (fun j => upd f (mp k) (mp j)) = upd (fun j => f (mp j)) k := by
  funext j
  unfold upd
  have e : (mp j == mp k) = (j == k) := by
    rw [Bool.eq_iff_iff]
    simp only [beq_iff_eq]
    exact ⟨mp_inj, fun h => by rw [h]⟩
  rw [e]

theorem upd_off (f : Nat → Bool) {i : Nat} (hi : i = 4 ∨ i = 5 ∨ i = 10) : (fun j => upd f i (mp j)) = fun j => f (mp j) := by
  funext j
  unfold upd
  have : ¬ mp j = i := by
    rcases Nat.lt_or_ge j 8 with h | h
    · have := mp_lt h; omega
    · have := mp_ge h; omega
  simp [this]

theorem upd_ne (f : Nat → Bool) {i j : Nat} (h : j ≠ i) : upd f i j = f j := by simp [upd, h]
theorem upd_same (f : Nat → Bool) (i : Nat) : upd f i i = true := by simp [upd]

/-- A list lent, in a world behind w3. -/
structure LAX (w3 w : World) (l : List T) (g c : Nat) (l' : List T) : Prop where
  inn : (T.row (some ⟨g, 0, none⟩) c l').In w w3.heap.size w.heap.size
  mks : ∀ x ∈ l', x.Mk w
  g0 : w3.heap.size ≤ g
  g1 : g < w.heap.size
  len : l'.length = l.length
  vs : l'.map T.v = l.map T.v
  cap : l.length + 1 ≤ c
  mark : w.cell? ⟨g, l.length * 5 + 1, none⟩ = some (.int .i64 78)

theorem LAX.lt {w3 w : World} {l : List T} {g c : Nat} {l' : List T} (h : LAX w3 w l g c l') : ∀ x ∈ l', ∀ b ∈ x.blocks, w3.heap.size ≤ b ∧ b < w.heap.size := fun x hx b hb => T.In.blocks x ((T.in_mk.1 h.inn).2.2 x hx) b hb

theorem LAX.fr {S : Nat → Prop} {w3 w w' : World} {l : List T} {g c : Nat} {l' : List T} (h : LAX w3 w l g c l') (f : Fr S w w') (hg : ¬ S g) (hs : ∀ x ∈ l', ∀ b ∈ x.blocks, ¬ S b) : LAX w3 w' l g c l' := by
  have hrow : ∀ b ∈ (T.row (some ⟨g, 0, none⟩) c l').blocks, ¬ S b := by
    intro b hb
    unfold T.row at hb
    rw [T.blocks_mk] at hb
    rcases List.mem_append.1 hb with hb | hb
    · cases l' with
      | nil => simp at hb
      | cons y l' => simp at hb; subst hb; exact hg
    · obtain ⟨bs, hbs, hb⟩ := List.mem_flatten.1 hb
      obtain ⟨x, hx, rfl⟩ := List.mem_map.1 hbs
      exact hs x hx b hb
  refine ⟨T.In.more (Nat.le_refl _) f.size _ (In.fr_blocks f (Nat.le_refl _) _ hrow h.inn), fun x hx => T.Mk.fr f (Nat.le_refl _) x ((T.in_mk.1 h.inn).2.2 x hx) (hs x hx) (h.mks x hx), h.g0, Nat.lt_of_lt_of_le h.g1 f.size, h.len, h.vs, h.cap, ?_⟩
  rw [f.cell (b := g) h.g1 hg]
  exact h.mark

/-- The list's part of the statement. -/
structure L3 (w3 : World) (A : Option Addr) (cap : Nat) (l : List T) (f : Nat → Bool) (x38 x39 x9 : Value) (g c : Nat) (l' : List T) (g7 g8 : Nat) (w : World) : Prop where
  m : f 4 = true → x38 = .slice A l.length cap
  c_ : f 5 = true → x39 = .slice (some ⟨g, 0, none⟩) l.length c ∧ LAX w3 w l g c l'
  a_ : f 10 = true → f 5 = true ∧ x9 = x39
  n7 : f 6 = true → f 5 = true → g7 ≠ g ∧ ∀ x ∈ l', g7 ∉ x.blocks
  n8 : f 7 = true → f 5 = true → g8 ≠ g ∧ ∀ x ∈ l', g8 ∉ x.blocks

section
variable {w3 w w' : World} {A : Option Addr} {cap : Nat} {l : List T} {f : Nat → Bool} {x38 x39 x9 : Value} {g c : Nat} {l' : List T} {g7 g8 : Nat}

theorem L3.begin : L3 w3 A cap l (fun _ => false) x38 x39 x9 0 0 [] 0 0 w := ⟨nofun, nofun, nofun, nofun, nofun⟩

theorem L3.keep {S : Nat → Prop} (h : L3 w3 A cap l f x38 x39 x9 g c l' g7 g8 w) (fr : Fr S w w') (hS : f 5 = true → ¬ S g ∧ ∀ x ∈ l', ∀ b ∈ x.blocks, ¬ S b) {i : Nat} (hi : i = 0 ∨ i = 1 ∨ i = 2 ∨ i = 3 ∨ i = 8 ∨ i = 9) : L3 w3 A cap l (upd f i) x38 x39 x9 g c l' g7 g8 w' := by
  have e4 := upd_ne f (i := i) (j := 4) (by omega)
  have e5 := upd_ne f (i := i) (j := 5) (by omega)
  have e6 := upd_ne f (i := i) (j := 6) (by omega)
  have e7 := upd_ne f (i := i) (j := 7) (by omega)
  have e10 := upd_ne f (i := i) (j := 10) (by omega)
  refine ⟨?_, ?_, ?_, ?_, ?_⟩
  · rw [e4]; exact h.m
  · rw [e5]; exact fun h5 => ⟨(h.c_ h5).1, (h.c_ h5).2.fr fr (hS h5).1 (hS h5).2⟩
  · rw [e10, e5]; exact h.a_
  · rw [e6, e5]; exact h.n7
  · rw [e7, e5]; exact h.n8

theorem L3.no (h : L3 w3 A cap l f x38 x39 x9 g c l' g7 g8 w) (fr : Fr No w w') {i : Nat} (hi : i = 0 ∨ i = 1 ∨ i = 2 ∨ i = 3 ∨ i = 8 ∨ i = 9) : L3 w3 A cap l (upd f i) x38 x39 x9 g c l' g7 g8 w' :=
  h.keep fr (fun _ => ⟨fun h => h, fun _ _ _ _ h => h⟩) hi

theorem L3.alloc7 (h : L3 w3 A cap l f x38 x39 x9 g c l' g7 g8 w) (o : Obj) : L3 w3 A cap l (upd f 6) x38 x39 x9 g c l' w.heap.size g8 (w.alloc o) := by
  have fr := (Fr.refl No w).alloc o
  refine ⟨?_, ?_, ?_, fun _ h5 => ?_, ?_⟩
  · exact h.m
  · exact fun h5 => ⟨(h.c_ h5).1, (h.c_ h5).2.fr fr (fun h => h) (fun _ _ _ _ h => h)⟩
  · exact h.a_
  · have L := (h.c_ h5).2
    exact ⟨by have := L.g1; omega, fun x hx hb => by have := (L.lt x hx _ hb).2; omega⟩
  · exact h.n8

theorem L3.alloc8 (h : L3 w3 A cap l f x38 x39 x9 g c l' g7 g8 w) (o : Obj) : L3 w3 A cap l (upd f 7) x38 x39 x9 g c l' g7 w.heap.size (w.alloc o) := by
  have fr := (Fr.refl No w).alloc o
  refine ⟨?_, ?_, ?_, ?_, fun _ h5 => ?_⟩
  · exact h.m
  · exact fun h5 => ⟨(h.c_ h5).1, (h.c_ h5).2.fr fr (fun h => h) (fun _ _ _ _ h => h)⟩
  · exact h.a_
  · exact h.n7
  · have L := (h.c_ h5).2
    exact ⟨by have := L.g1; omega, fun x hx hb => by have := (L.lt x hx _ hb).2; omega⟩

theorem L3.move (h : L3 w3 A cap l f x38 x39 x9 g c l' g7 g8 w) : L3 w3 A cap l (upd f 4) (.slice A l.length cap) x39 x9 g c l' g7 g8 w :=
  ⟨fun _ => rfl, h.c_, h.a_, h.n7, h.n8⟩

theorem L3.assign (h : L3 w3 A cap l f x38 x39 x9 g c l' g7 g8 w) (h5 : f 5 = true) : L3 w3 A cap l (upd f 10) x38 x39 x39 g c l' g7 g8 w :=
  ⟨h.m, h.c_, fun _ => ⟨h5, rfl⟩, h.n7, h.n8⟩

theorem L3.call (h : L3 w3 A cap l f x38 x39 x9 g c l' g7 g8 w) (hf : f 5 = false) {e : Ending} {g' c' : Nat} {l2 : List T} (L : LentAllP l w e w' g' c' l2) (hs : w3.heap.size ≤ w.heap.size) (h7 : f 6 = true → g7 < w.heap.size) (h8 : f 7 = true → g8 < w.heap.size) :
    L3 w3 A cap l (upd f 5) x38 (.slice (some ⟨g', 0, none⟩) l.length c') x9 g' c' l2 g7 g8 w' := by
  have hb : ∀ x ∈ l2, ∀ b ∈ x.blocks, w.heap.size ≤ b := fun x hx b hb => (T.In.blocks x ((T.in_mk.1 L.inn).2.2 x hx) b hb).1
  refine ⟨h.m, fun _ => ⟨rfl, T.In.more hs (Nat.le_refl _) _ L.inn, L.mks, Nat.le_trans hs L.g0, L.g1, L.len, L.vs, L.cap, L.mark⟩, fun h10 => ?_, fun h6 _ => ?_, fun h6 _ => ?_⟩
  · have := (h.a_ h10).1; rw [hf] at this; cases this
  · have := h7 h6
    have := L.g0
    exact ⟨by omega, fun x hx hb' => by have := hb x hx _ hb'; omega⟩
  · have := h8 h6
    have := L.g0
    exact ⟨by omega, fun x hx hb' => by have := hb x hx _ hb'; omega⟩
end

/-- Two values and a list that came in, and their lent likenesses, in a world behind. -/
structure OL (w wi : World) (A : Option Addr) (cap : Nat) (l : List T) (va vb oa ob : T) (ga gb gl c : Nat) (l' : List T) (tp : Nat) : Prop where
  ba : Blk wi w.heap.size 27 va.cells.toArray
  bb : Blk wi (w.heap.size + 1) 27 vb.cells.toArray
  ca : Blk wi ga 27 oa.cells.toArray
  cb : Blk wi gb 27 ob.cells.toArray
  ia : va.In wi 0 w.heap.size
  ib : vb.In wi 0 w.heap.size
  il : (T.row A cap l).In wi 0 w.heap.size
  ja : oa.In wi 0 tp
  jb : ob.In wi 0 tp
  ma : oa.Mk wi
  mb : ob.Mk wi
  lx : LAX w wi l gl c l'
  lt : ∀ x ∈ l', x.In wi 0 tp
  f : Fr No w wi
  t0 : w.heap.size + 2 ≤ tp
  t1 : ga < tp
  t2 : gb < tp
  t3 : gl < tp
  t4 : tp ≤ wi.heap.size

theorem OL.fr {S : Nat → Prop} {w wi wj : World} {A : Option Addr} {cap : Nat} {l : List T} {va vb oa ob : T} {ga gb gl c : Nat} {l' : List T} {tp : Nat} (h : OL w wi A cap l va vb oa ob ga gb gl c l' tp) (f : Fr S wi wj) (hs : ∀ i, i < tp → ¬ S i) : OL w wj A cap l va vb oa ob ga gb gl c l' tp := by
  have a := h.f.size
  have t0 := h.t0
  have t1 := h.t1
  have t2 := h.t2
  have t3 := h.t3
  have t4 := h.t4
  exact ⟨h.ba.fr f (hs _ (by omega)), h.bb.fr f (hs _ (by omega)), h.ca.fr f (hs _ t1), h.cb.fr f (hs _ t2), h.ia.fr f a (fun i _ hi => hs i (by omega)), h.ib.fr f a (fun i _ hi => hs i (by omega)), h.il.fr f a (fun i _ hi => hs i (by omega)), h.ja.fr f t4 (fun i _ hi => hs i hi), h.jb.fr f t4 (fun i _ hi => hs i hi),
    T.Mk.fr f t4 _ h.ja (fun i hi => hs i (T.In.blocks _ h.ja i hi).2) h.ma, T.Mk.fr f t4 _ h.jb (fun i hi => hs i (T.In.blocks _ h.jb i hi).2) h.mb, h.lx.fr f (hs _ t3) (fun x hx b hb => hs b (T.In.blocks _ (h.lt x hx) b hb).2), fun x hx => (h.lt x hx).fr f t4 (fun i _ hi => hs i hi),
    h.f.trans' f (fun i hi hS => hs i (by omega) hS), t0, t1, t2, t3, by have := f.size; omega⟩

theorem OL.no {w wi wj : World} {A : Option Addr} {cap : Nat} {l : List T} {va vb oa ob : T} {ga gb gl c : Nat} {l' : List T} {tp : Nat} (h : OL w wi A cap l va vb oa ob ga gb gl c l' tp) (f : Fr No wi wj) : OL w wj A cap l va vb oa ob ga gb gl c l' tp := h.fr f fun _ _ h => h

/-- The slots behind the statement. -/
def OLP (w : World) (A : Option Addr) (cap : Nat) (l : List T) (va vb : T) (p q r : Value) (wx : World) : Prop :=
  ∃ ga gb gl c tp oa ob l', p = .pointer (some ⟨ga, 0, none⟩) ∧ q = .pointer (some ⟨gb, 0, none⟩) ∧ r = .slice (some ⟨gl, 0, none⟩) l.length c ∧ oa.v = va.v ∧ ob.v = vb.v ∧ OL w wx A cap l va vb oa ob ga gb gl c l' tp

end Go.Proofs.Ytihjmipmjogpoaa

/- Plain facts on rows in order: what is exchanged, turned round, merged. No program in sight. -/
namespace Go.Proofs.Ytihjmipmjogpoaa

section
variable {α : Type} {le : α → α → Prop}

/-- A total order that may hold both ways. -/
structure Ordd (le : α → α → Prop) : Prop where
  trans : ∀ a b c, le a b → le b c → le a c
  total : ∀ a b, le a b ∨ le b a

/-- Two rows in order, each of two pieces: the first pieces together stand ahead of the others. -/
theorem merge_pieces (h : Ordd le) {A1 A2 B1 B2 C D : List α} (hA : (A1 ++ A2).Pairwise le) (hB : (B1 ++ B2).Pairwise le) (h1 : ∀ x ∈ A1, ∀ y ∈ B2, le x y) (h2 : ∀ x ∈ B1, ∀ y ∈ A2, le x y)
    (pC : C.Perm (A1 ++ B1)) (pD : D.Perm (A2 ++ B2)) (sC : C.Pairwise le) (sD : D.Pairwise le) : (C ++ D).Pairwise le ∧ (C ++ D).Perm ((A1 ++ A2) ++ (B1 ++ B2)) := by
  rw [List.pairwise_append] at hA hB
  refine ⟨List.pairwise_append.2 ⟨sC, sD, fun x hx y hy => ?_⟩, ?_⟩
  · rcases List.mem_append.1 (pC.mem_iff.1 hx) with hx | hx
    · rcases List.mem_append.1 (pD.mem_iff.1 hy) with hy | hy
      · exact hA.2.2 x hx y hy
      · exact h1 x hx y hy
    · rcases List.mem_append.1 (pD.mem_iff.1 hy) with hy | hy
      · exact h2 x hx y hy
      · exact hB.2.2 x hx y hy
  · refine (pC.append pD).trans ?_
    simp only [List.append_assoc]
    refine List.Perm.append_left A1 ?_
    rw [← List.append_assoc, ← List.append_assoc]
    exact (List.perm_append_comm).append_right B2

/-- All of one piece stand ahead of all of another, if the last stands ahead of the first. -/
theorem all_ahead (h : Ordd le) {A B : List α} {x y : α} (hA : (A ++ [x]).Pairwise le) (hB : (y :: B).Pairwise le) (hxy : le x y) : ∀ a ∈ A ++ [x], ∀ b ∈ y :: B, le a b := by
  rw [List.pairwise_append] at hA
  rw [List.pairwise_cons] at hB
  intro a ha b hb
  have h1 : le a y := by
    rcases List.mem_append.1 ha with ha | ha
    · exact h.trans _ _ _ (hA.2.2 a ha x (by simp)) hxy
    · simp at ha; subst ha; exact hxy
  rcases List.mem_cons.1 hb with rfl | hb
  · exact h1
  · exact h.trans _ _ _ h1 (hB.1 b hb)

/-- Two rows in order that are made of the same are one, where what stands both ways is one. -/
theorem order_one (ha : ∀ a b, le a b → le b a → a = b) {l l' : List α} (p : l.Perm l') (s : l.Pairwise le) (s' : l'.Pairwise le) : l = l' := by
  induction l generalizing l' with
  | nil => exact (List.Perm.nil_eq p)
  | cons x l ih =>
    cases l' with
    | nil => exact absurd p.symm.nil_eq (by simp)
    | cons y l' =>
      rw [List.pairwise_cons] at s s'
      have e : x = y := by
        rcases List.mem_cons.1 (p.mem_iff.1 (List.mem_cons_self (a := x) (l := l))) with h | h
        · exact h
        · rcases List.mem_cons.1 (p.mem_iff.2 (List.mem_cons_self (a := y) (l := l'))) with h2 | h2
          · exact h2.symm
          · exact ha _ _ (s.1 y h2) (s'.1 x h)
      subst e
      rw [ih (List.Perm.cons_inv p) s.2 s'.2]

/-- One more in its place. -/
theorem insert_at (h : Ordd le) {A B : List α} {x : α} (hA : (A ++ B).Pairwise le) (h1 : ∀ a ∈ A, le a x) (h2 : ∀ b ∈ B, le x b) : (A ++ x :: B).Pairwise le ∧ (A ++ x :: B).Perm (x :: (A ++ B)) := by
  rw [List.pairwise_append] at hA
  exact ⟨List.pairwise_append.2 ⟨hA.1, List.pairwise_cons.2 ⟨h2, hA.2.1⟩, fun a ha b hb => by
    rcases List.mem_cons.1 hb with rfl | hb
    · exact h1 a ha
    · exact hA.2.2 a ha b hb⟩, List.perm_middle⟩
end

/-- Two parts exchanged. -/
def swp {α : Type} (L : List α) (i j : Nat) : List α :=
  match L[i]?, L[j]? with
  | some x, some y => (L.set i y).set j x
  | _, _ => L

theorem swp_length {α : Type} (L : List α) (i j : Nat) : (swp L i j).length = L.length := by
  unfold swp
  split <;> simp

theorem swp_eq {α : Type} {L : List α} {i j : Nat} {x y : α} (hi : L[i]? = some x) (hj : L[j]? = some y) : swp L i j = (L.set i y).set j x := by
  simp only [swp, hi, hj]

theorem swp_mid {α : Type} (X Y Z : List α) (x y : α) : swp (X ++ x :: Y ++ y :: Z) X.length (X.length + 1 + Y.length) = X ++ y :: Y ++ x :: Z := by
  have h1 : (X ++ x :: Y ++ y :: Z)[X.length]? = some x := by simp
  have h2 : (X ++ x :: Y ++ y :: Z)[X.length + 1 + Y.length]? = some y := by
    rw [List.getElem?_append_right (by simp; omega)]
    simp
    rw [show X.length + 1 + Y.length - (X.length + (Y.length + 1)) = 0 by omega]
    simp
  rw [swp_eq h1 h2]
  rw [List.append_assoc, List.set_append_right _ _ (Nat.le_refl _), Nat.sub_self]
  simp only [List.cons_append, List.set_cons_zero]
  rw [List.set_append_right _ _ (by omega), show X.length + 1 + Y.length - X.length = Y.length + 1 by omega, List.set_cons_succ, List.set_append_right _ _ (Nat.le_refl _), Nat.sub_self, List.set_cons_zero]
  simp

end Go.Proofs.Ytihjmipmjogpoaa

/- Plain: the order of values is a total one. No program in sight. -/
namespace Go.Proofs.Ytihjmipmjogpoaa

theorem less_trans : ∀ (a b c : List UInt8), Op.bytesLess a b = true → Op.bytesLess b c = true → Op.bytesLess a c = true
  | a, b, [], _, h => by cases b <;> simp [Op.bytesLess] at h
  | [], b, z :: c, _, _ => by simp [Op.bytesLess]
  | x :: a, [], z :: c, h, _ => by simp [Op.bytesLess] at h
  | x :: a, y :: b, z :: c, h, h' => by
    simp only [Op.bytesLess, Bool.or_eq_true, Bool.and_eq_true, decide_eq_true_eq, beq_iff_eq] at h h' ⊢
    rcases h with h | ⟨rfl, h⟩
    · rcases h' with h' | ⟨rfl, h'⟩
      · exact .inl (UInt8.lt_trans h h')
      · exact .inl h
    · rcases h' with h' | ⟨rfl, h'⟩
      · exact .inl h'
      · exact .inr ⟨rfl, less_trans a b c h h'⟩

/-- What a comparison that is -1, 0, 1 says of three. -/
def Tri (xy yz xz : Int) : Prop := (xy = 0 → xz = yz) ∧ (yz = 0 → xz = xy) ∧ (xy = -1 → yz = -1 → xz = -1)

theorem cmpI_tri (a b c : Int) : Tri (cmpI a b) (cmpI b c) (cmpI a c) := by
  unfold Tri cmpI
  refine ⟨?_, ?_, ?_⟩ <;> (repeat' split) <;> simp <;> omega

theorem cmpI_anti (a b : Int) : cmpI b a = -cmpI a b := by
  unfold cmpI
  (repeat' split) <;> simp <;> omega

theorem cmpS_eq_zero {a b : ByteArray} : cmpS a b = 0 ↔ a = b := ⟨cmpS_zero, fun h => by subst h; simp [cmpS, less_self]⟩
theorem cmpS_low {a b : ByteArray} : cmpS a b = -1 ↔ Op.bytesLess a.toList b.toList = true := by
  unfold cmpS
  constructor
  · intro h
    split at h
    · assumption
    · split at h <;> cases h
  · intro h; rw [if_pos h]

theorem cmpS_tri (a b c : ByteArray) : Tri (cmpS a b) (cmpS b c) (cmpS a c) := by
  refine ⟨fun h => ?_, fun h => ?_, fun h h' => ?_⟩
  · rw [cmpS_eq_zero.1 h]
  · rw [cmpS_eq_zero.1 h]
  · exact cmpS_low.2 (less_trans _ _ _ (cmpS_low.1 h) (cmpS_low.1 h'))

theorem cmpS_anti (a b : ByteArray) : cmpS b a = -cmpS a b := by
  rcases cmpS_range a b with h | h | h
  · rw [h]
    have h1 := less_asymm _ _ (cmpS_low.1 h)
    rcases cmpS_range b a with h2 | h2 | h2
    · rw [cmpS_low.1 h2] at h1; cases h1
    · rw [cmpS_eq_zero.1 h2, cmpS_eq_zero.2 rfl] at h; cases h
    · rw [h2]; rfl
  · rw [h, cmpS_eq_zero.1 h, cmpS_eq_zero.2 rfl]; rfl
  · rw [h]
    have h1 : Op.bytesLess a.toList b.toList = false := by
      rw [Bool.eq_false_iff]; intro h2; rw [cmpS_low.2 h2] at h; cases h
    rw [cmpS_low.2 ?_]
    rw [← Bool.not_eq_false]
    intro h2
    have := bytes_ext (less_total _ _ h1 h2)
    subst this
    rw [cmpS_eq_zero.2 rfl] at h; cases h

theorem ordL_anti (l : List V) : ∀ m : List V, (∀ x ∈ l, ∀ y : V, y.ord x = -x.ord y) → ordL (m.map V.ord) l = -ordL (l.map V.ord) m := by
  induction l with
  | nil => intro m _; cases m <;> rfl
  | cons x l ih =>
    intro m h
    cases m with
    | nil => rfl
    | cons y m =>
      simp only [List.map_cons, ordL]
      rw [h x (by simp) y]
      by_cases h0 : x.ord y = 0
      · rw [if_pos h0, if_pos (by omega), ih m fun z hz => h z (by simp [hz])]
      · rw [if_neg h0, if_neg (by omega)]

theorem ord_anti (u : V) : ∀ v : V, v.ord u = -u.ord v := by
  induction u using V.ind with
  | h k n s l r ih =>
    intro v
    cases v with
    | mk k' n' s' l' r' =>
      rw [V.ord_mk, V.ord_mk, ordOf, ordOf]
      by_cases hk : k = k'
      · subst hk
        rw [if_pos rfl, if_pos rfl]
        (repeat' split)
        · exact cmpI_anti _ _
        · exact cmpS_anti _ _
        · exact cmpI_anti _ _
        · exact ordL_anti l l' ih
      · rw [if_neg hk, if_neg (fun h => hk h.symm)]
        exact cmpI_anti _ _

theorem ordL_tri (l : List V) : ∀ m p : List V, (∀ x ∈ l, ∀ y z : V, Tri (x.ord y) (y.ord z) (x.ord z)) → Tri (ordL (l.map V.ord) m) (ordL (m.map V.ord) p) (ordL (l.map V.ord) p) := by
  induction l with
  | nil =>
    intro m p _
    cases m <;> cases p <;> simp [Tri, ordL]
  | cons x l ih =>
    intro m p h
    cases m with
    | nil => cases p <;> simp [Tri, ordL]
    | cons y m =>
      cases p with
      | nil => simp [Tri, ordL]
      | cons z p =>
        have hx := h x (by simp) y z
        have ht := ih m p fun a ha => h a (by simp [ha])
        have r1 := ord_range x y
        have r2 := ord_range y z
        have r3 := ord_range x z
        simp only [List.map_cons, ordL]
        generalize x.ord y = a at *
        generalize y.ord z = b at *
        generalize x.ord z = c at *
        generalize ordL (l.map V.ord) m = a' at *
        generalize ordL (m.map V.ord) p = b' at *
        generalize ordL (l.map V.ord) p = c' at *
        unfold Tri at *
        obtain ⟨q1, q2, q3⟩ := hx
        obtain ⟨t1, t2, t3⟩ := ht
        rcases r1 with rfl | rfl | rfl <;> rcases r2 with rfl | rfl | rfl <;> rcases r3 with rfl | rfl | rfl <;> simp at * <;> (try exact ⟨t1, t2, t3⟩)

theorem ord_tri (u : V) : ∀ v w : V, Tri (u.ord v) (v.ord w) (u.ord w) := by
  induction u using V.ind with
  | h k n s l r ih =>
    intro v w
    cases v with
    | mk k' n' s' l' r' =>
      cases w with
      | mk k2 n2 s2 l2 r2 =>
        rw [V.ord_mk, V.ord_mk, ordOf, ordOf, ordOf]
        by_cases h1 : k = k'
        · subst h1
          by_cases h2 : k = k2
          · subst h2
            simp only [if_true]
            (repeat' split)
            · exact cmpI_tri _ _ _
            · exact cmpS_tri _ _ _
            · exact cmpI_tri _ _ _
            · exact ordL_tri l l' l2 ih
          · rw [if_neg h2, if_neg h2]
            refine ⟨fun _ => rfl, fun h => absurd (cmpI_zero h) h2, fun h h' => h'⟩
        · rw [if_neg h1]
          by_cases h2 : k' = k2
          · subst h2
            rw [if_neg h1]
            exact ⟨fun h => absurd (cmpI_zero h) h1, fun _ => rfl, fun h _ => h⟩
          · rw [if_neg h2]
            refine ⟨fun h => absurd (cmpI_zero h) h1, fun h => absurd (cmpI_zero h) h2, fun h h' => ?_⟩
            have ht := (cmpI_tri k k' k2).2.2 h h'
            rw [if_neg (fun e => by subst e; simp [cmpI] at ht)]
            exact ht

/-- One tree stands ahead of another, or both ways. -/
def leT (x y : T) : Prop := x.v.ord y.v ≤ 0

theorem leT_ord : Ordd leT where
  trans a b c h h' := by
    unfold leT at *
    obtain ⟨t1, t2, t3⟩ := ord_tri a.v b.v c.v
    rcases ord_range a.v b.v with r | r | r <;> rcases ord_range b.v c.v with r' | r' | r' <;> first | omega | (rw [t1 r]; omega) | (rw [t2 r']; omega) | (rw [t3 r r']; decide)
  total a b := by
    unfold leT
    have := ord_anti a.v b.v
    omega

theorem leT_of_not {x y : T} (h : ¬ x.v.ord y.v < 0) : leT y x := by
  unfold leT
  have := ord_anti x.v y.v
  omega

theorem leT_of_lt {x y : T} (h : x.v.ord y.v < 0) : leT x y := by unfold leT; omega

end Go.Proofs.Ytihjmipmjogpoaa

/- Chapter 2: slices.swapRangeCmpFunc on a row of values. -/
namespace Go.Proofs.Ytihjmipmjogpoaa
open Go.RowKit

/-- A row of values of one's own. -/
def Rw (w : World) (lo g cap : Nat) (L : List T) : Prop := w.ownsRow lo 27 5 (.slice (some ⟨g, 0, none⟩) L.length cap) L.length (rowCells L)

theorem Rw.fr {S : Nat → Prop} {w w' : World} {lo g cap : Nat} {L : List T} (h : Rw w lo g cap L) (f : Fr S w w') (hs : ¬ S g) : Rw w' lo g cap L :=
  owns_fr h f fun g' hg' => by simp [Value.ownBlock] at hg'; subst hg'; exact hs

theorem Rw.set {w : World} {lo g cap : Nat} {L : List T} (h : Rw w lo g cap L) {j : Nat} (hj : j < L.length) (k n : Int) (s : ByteArray) (A : Option Addr) (c : Nat) (l : List T) (r : Int) :
    Rw (five w g (j * 5) k n s A l.length c r) lo g cap (L.set j (T.mk k n s A c l r)) := by
  have h1 := owns_set5 h rfl hj k n s A c l r
  unfold Rw
  rw [List.length_set]
  exact h1

/-- Where the exchange of two pieces stands. -/
def exch (X A Y B Z : List T) (i : Nat) : List T := X ++ B.take i ++ A.drop i ++ Y ++ A.take i ++ B.drop i ++ Z

theorem exch_zero (X A Y B Z : List T) : exch X A Y B Z 0 = X ++ A ++ Y ++ B ++ Z := by simp [exch]
theorem exch_all (X A Y B Z : List T) (n : Nat) (hA : A.length = n) (hB : B.length = n) : exch X A Y B Z n = X ++ B ++ Y ++ A ++ Z := by
  rw [exch, List.take_of_length_le (by omega), List.take_of_length_le (by omega), List.drop_of_length_le (by omega), List.drop_of_length_le (by omega)]
  simp
theorem exch_length (X A Y B Z : List T) (i : Nat) : (exch X A Y B Z i).length = (X ++ A ++ Y ++ B ++ Z).length := by
  simp [exch]; omega

theorem exch_step (X A Y B Z : List T) (n i : Nat) (hA : A.length = n) (hB : B.length = n) (hi : i < n) :
    (exch X A Y B Z i)[X.length + i]? = some (A[i]'(by omega)) ∧ (exch X A Y B Z i)[X.length + n + Y.length + i]? = some (B[i]'(by omega)) ∧
      swp (exch X A Y B Z i) (X.length + i) (X.length + n + Y.length + i) = exch X A Y B Z (i + 1) := by
  have hAi : A.drop i = A[i]'(by omega) :: A.drop (i + 1) := List.drop_eq_getElem_cons (by omega)
  have hBi : B.drop i = B[i]'(by omega) :: B.drop (i + 1) := List.drop_eq_getElem_cons (by omega)
  have hta : A.take (i + 1) = A.take i ++ [A[i]'(by omega)] := List.take_succ_eq_append_getElem (by omega)
  have htb : B.take (i + 1) = B.take i ++ [B[i]'(by omega)] := List.take_succ_eq_append_getElem (by omega)
  have e : exch X A Y B Z i = (X ++ B.take i) ++ A[i]'(by omega) :: (A.drop (i + 1) ++ Y ++ A.take i) ++ B[i]'(by omega) :: (B.drop (i + 1) ++ Z) := by
    rw [exch, hAi, hBi]; simp only [List.append_assoc, List.cons_append, List.nil_append]
  have l1 : (X ++ B.take i).length = X.length + i := by simp; omega
  have l2 : (A.drop (i + 1) ++ Y ++ A.take i).length = n - 1 + Y.length := by simp; omega
  have hm := swp_mid (X ++ B.take i) (A.drop (i + 1) ++ Y ++ A.take i) (B.drop (i + 1) ++ Z) (A[i]'(by omega)) (B[i]'(by omega))
  rw [l1, l2, show X.length + i + 1 + (n - 1 + Y.length) = X.length + n + Y.length + i by omega] at hm
  refine ⟨?_, ?_, ?_⟩
  · rw [e, ← l1]; simp
  · rw [e, List.getElem?_append_right (by simp; omega)]
    have : X.length + n + Y.length + i - ((X ++ B.take i) ++ A[i]'(by omega) :: (A.drop (i + 1) ++ Y ++ A.take i)).length = 0 := by simp; omega
    rw [this]; simp
  · rw [e, hm, exch, hta, htb]; simp only [List.append_assoc, List.cons_append, List.nil_append]

end Go.Proofs.Ytihjmipmjogpoaa

/- Chapter 2: slices.swapRangeCmpFunc on a row of values: the walk. -/
namespace Go.Proofs.Ytihjmipmjogpoaa
open Go.RowKit

set_option maxRecDepth 100000 in
set_option maxHeartbeats 4000000 in
theorem swapRange_any (fv : Value) (X A Y B Z : List T) (n : Nat) (hA : A.length = n) (hB : B.length = n) (w : World) (lo g cap : Nat) (N : Nat) (hN : (X ++ A ++ Y ++ B ++ Z).length = N) (hN2 : N ≤ 1000000) (h : Rw w lo g cap (X ++ A ++ Y ++ B ++ Z)) :
    Calls Try.prog 162 #[.slice (some ⟨g, 0, none⟩) N cap, .int .i64 (X.length : Int), .int .i64 ((X.length + n + Y.length : Nat) : Int), .int .i64 (n : Int), fv] w fun e w' => (∃ v, e = .returned v) ∧ Rw w' lo g cap (X ++ B ++ Y ++ A ++ Z) ∧ Fr (fun i => i = g) w w' := by
  have hsum : X.length + n + Y.length + n ≤ N := by simp at hN; omega
  have hni : (n : Int) ≤ 1000000 := by omega
  have H := hide h
  clear h
  go_enter Try.func162, Try.ntmps162
  go_wp2_with fail
  go_loopw [10] (fun i wr => ∃ j : Nat, j ≤ n ∧ i = .int .i64 j ∧ Rw wr lo g cap (exch X A Y B Z j) ∧ Fr (fun i => i = g) w wr) (fun i _ => n - (intOf i).toNat)
  case atStart => exact ⟨0, Nat.zero_le _, rfl, by rw [exch_zero]; exact H.out, Fr.refl _ _⟩
  case round =>
    obtain ⟨j, hj, rfl, hr, fr⟩ := hrel
    by_cases hlt : j < n
    · obtain ⟨ha, hb, hs⟩ := exch_step X A Y B Z n j hA hB hlt
      have hle : (exch X A Y B Z j).length = N := by rw [exch_length, hN]
      generalize hLL : exch X A Y B Z j = L at *
      generalize A[j]'(by omega) = ta at *
      generalize B[j]'(by omega) = tb at *
      obtain ⟨k1, n1, s1, A1, c1, l1, r1⟩ := ta
      obtain ⟨k2, n2, s2, A2, c2, l2, r2⟩ := tb
      have hr1 := hr
      unfold Rw at hr1
      rw [hle] at hr1
      obtain ⟨p0, p1, p2, p3, p4, pf, pl⟩ := owns_five hr1 ha
      obtain ⟨q0, q1, q2, q3, q4, qf, ql⟩ := owns_five hr1 hb
      have hs' := swp_eq ha hb
      rw [hs] at hs'
      generalize hi : X.length + j = i1 at *
      generalize hi2 : X.length + n + Y.length + j = i2 at *
      have hi1 : i1 < N := by omega
      have hi2' : i2 < N := by omega
      have h12 : i1 < i2 := by omega
      have hc1 : (X.length : Int) + (j : Int) = (i1 : Int) := by omega
      have hc2 : ((X.length + n + Y.length : Nat) : Int) + (j : Int) = (i2 : Int) := by omega
      have hb1 : (i1 : Int) ≤ 1000000 := by omega
      have hb2 : (i2 : Int) ≤ 1000000 := by omega
      have hg1 : ¬ N ≤ i1 := by omega
      have hg2 : ¬ N ≤ i2 := by omega
      have HR := hide hr
      have HF := hide fr
      have HS := hide hs'
      have HLE := hide hle
      clear hr fr hs hs' hr1 ha hb hle hi hi2
      generalize ((X.length + n + Y.length : Nat) : Int) = bb at *
      go_wp2_with fail
      go_region
      all_goals
        go_wp2
        go_roundw
        case rel =>
          refine ⟨j + 1, hlt, by go_num, ?_, ?_⟩
          · rw [HS.out]
            have h1 := Rw.set HR.out (j := i1) (by rw [HLE.out]; exact hi1) k2 n2 s2 A2 c2 l2 r2
            have h2 := Rw.set h1 (j := i2) (by rw [List.length_set, HLE.out]; exact hi2') k1 n1 s1 A1 c1 l1 r1
            exact h2.fr (Fr.drew (Fr.refl No _)) (fun h => h)
          · have f1 := five_fr wr g (i1 * 5) k2 n2 s2 A2 l2.length c2 r2
            exact Fr.drew ((HF.out.trans f1).trans (five_fr _ g (i2 * 5) k1 n1 s1 A1 l1.length c1 r1))
        case measure => simp [intOf]; omega
    · obtain rfl : j = n := by omega
      rw [exch_all X A Y B Z j hA hB] at hr
      have HR := hide hr
      have HF := hide fr
      clear hr fr
      go_wp2
      go_end0
      exact ⟨⟨_, rfl⟩, HR.out, HF.out⟩

end Go.Proofs.Ytihjmipmjogpoaa

/- Chapter 2: slices.rotateCmpFunc on a row of values: the walk. -/
namespace Go.Proofs.Ytihjmipmjogpoaa
open Go.RowKit

set_option maxRecDepth 100000 in
set_option maxHeartbeats 4000000 in
theorem rotate_any (fv : Value) (X A B Z : List T) (hA : 0 < A.length) (hB : 0 < B.length) (w : World) (lo g cap : Nat) (N : Nat) (hN : (X ++ A ++ B ++ Z).length = N) (hN2 : N ≤ 1000000) (h : Rw w lo g cap (X ++ A ++ B ++ Z)) :
    Calls Try.prog 161 #[.slice (some ⟨g, 0, none⟩) N cap, .int .i64 (X.length : Int), .int .i64 ((X.length + A.length : Nat) : Int), .int .i64 ((X.length + A.length + B.length : Nat) : Int), fv] w fun e w' => (∃ v, e = .returned v) ∧ Rw w' lo g cap (X ++ B ++ A ++ Z) ∧ Fr (fun i => i = g) w w' := by
  have hsum : X.length + A.length + B.length ≤ N := by simp at hN; omega
  have H := hide h
  have HNN := hide hN
  generalize hm : X.length + A.length = m at *
  have e1 : ((m : Nat) : Int) - (X.length : Int) = (A.length : Int) := by omega
  have e2 : ((m + B.length : Nat) : Int) - (m : Int) = (B.length : Int) := by omega
  have hbi : ((m + B.length : Nat) : Int) ≤ 1000000 := by omega
  clear h hN
  go_enter Try.func161, Try.ntmps161
  go_wp2_with fail
  go_loopw [10, 11] (fun iv jv wr => ∃ X1 P Q Z1 : List T, iv = .int .i64 (P.length : Int) ∧ jv = .int .i64 (Q.length : Int) ∧ X1.length + P.length = m ∧ 0 < P.length ∧ 0 < Q.length ∧ X1 ++ Q ++ P ++ Z1 = X ++ B ++ A ++ Z ∧ Rw wr lo g cap (X1 ++ P ++ Q ++ Z1) ∧ Fr (fun i => i = g) w wr) (fun iv jv _ => (intOf iv).toNat + (intOf jv).toNat)
  case atStart => exact ⟨X, A, B, Z, by go_num, by go_num, hm, hA, hB, rfl, H.out, Fr.refl _ _⟩
  case round =>
    obtain ⟨X1, P, Q, Z1, rfl, rfl, hx, hp, hq, ht, hr, fr⟩ := hrel
    have hlen : (X1 ++ P ++ Q ++ Z1).length = N := by
      have h1 := congrArg List.length ht
      have h2 := HNN.out
      simp at h1 h2 ⊢
      omega
    have hl2 : X1.length + P.length + Q.length ≤ N := by simp at hlen; omega
    have ex1 : (m : Int) - (P.length : Int) = (X1.length : Int) := by omega
    have hpi : (P.length : Int) ≤ 1000000 := by omega
    have hqi : (Q.length : Int) ≤ 1000000 := by omega
    have HR := hide hr
    have HF := hide fr
    have HTT := hide ht
    have HLL := hide hlen
    clear hr fr ht hlen
    rcases Nat.lt_trichotomy P.length Q.length with hlt | heq | hgt
    · obtain ⟨Q1, Q2, rfl, h2⟩ : ∃ Q1 Q2, Q = Q1 ++ Q2 ∧ Q2.length = P.length := ⟨Q.take (Q.length - P.length), Q.drop (Q.length - P.length), (List.take_append_drop _ _).symm, by simp; omega⟩
      have hl : (Q1 ++ Q2).length = Q1.length + P.length := by simp [h2]
      rw [hl] at hlt hqi hl2 ⊢
      have hcall := swapRange_any fv X1 P Q1 Q2 Z1 P.length rfl h2 wr lo g cap N (by have := HLL.out; simp at this ⊢; omega) hN2 (by have := HR.out; simpa using this)
      have HC := hide hcall
      have hne : ¬ P.length = Q1.length + P.length := by omega
      have hng : ¬ Q1.length + P.length < P.length := by omega
      have ex2 : (m : Int) + ((Q1.length : Int) + (P.length : Int)) - (P.length : Int) = ((X1.length + P.length + Q1.length : Nat) : Int) := by omega
      have HE2 := hide ex2
      clear hcall ex2
      go_wp2_with fail
      rw [HE2.out]
      refine HC.out.mono ?_
      rintro e w2 ⟨⟨v2, rfl⟩, hr2, f2⟩
      have HR2 := hide hr2
      have HF2 := hide (HF.out.trans f2)
      clear hr2 f2
      go_wp2
      go_roundw
      case rel =>
        (repeat apply Exists.intro)
        refine ⟨?_, rfl⟩
        refine ⟨X1, Q2, Q1, P ++ Z1, by rw [h2], by go_num, by rw [h2]; exact hx, by rw [h2]; exact hp, by omega, by rw [← HTT.out]; simp, by have := HR2.out; simpa using this, HF2.out⟩
      case measure => simp [intOf]; omega
    · have hcall := swapRange_any fv X1 P [] Q Z1 P.length rfl heq.symm wr lo g cap N (by have := HLL.out; simp at this ⊢; omega) hN2 (by have := HR.out; simpa using this)
      have hz : ((X1.length + P.length + ([] : List T).length : Nat) : Int) = (m : Int) := by simp; omega
      rw [hz] at hcall
      have HC := hide hcall
      have hne : ((P.length : Int) != (Q.length : Int)) = false := by simp; omega
      clear hcall hz heq
      go_wp2_with fail
      refine HC.out.mono ?_
      rintro e w2 ⟨⟨v2, rfl⟩, hr2, f2⟩
      have HR2 := hide hr2
      have HF2 := hide (HF.out.trans f2)
      clear hr2 f2
      go_wp2
      go_end0
      exact ⟨⟨_, rfl⟩, by rw [← HTT.out]; have := HR2.out; simpa using this, HF2.out⟩
    · obtain ⟨P1, P2, rfl, h2⟩ : ∃ P1 P2, P = P1 ++ P2 ∧ P1.length = Q.length := ⟨P.take Q.length, P.drop Q.length, (List.take_append_drop _ _).symm, by simp; omega⟩
      have hl : (P1 ++ P2).length = Q.length + P2.length := by simp [h2]
      rw [hl] at hgt hpi hl2 ex1 hx ⊢
      have hcall := swapRange_any fv X1 P1 P2 Q Z1 Q.length h2 rfl wr lo g cap N (by have := HLL.out; simp at this ⊢; omega) hN2 (by have := HR.out; simpa using this)
      have hz : ((X1.length + Q.length + P2.length : Nat) : Int) = (m : Int) := by omega
      rw [hz] at hcall
      have HC := hide hcall
      have hne : ¬ Q.length + P2.length = Q.length := by omega
      push_cast at ex1
      have HE1 := hide ex1
      clear hcall hz ex1
      go_wp2_with fail
      rw [HE1.out]
      refine HC.out.mono ?_
      rintro e w2 ⟨⟨v2, rfl⟩, hr2, f2⟩
      have HR2 := hide hr2
      have HF2 := hide (HF.out.trans f2)
      clear hr2 f2
      go_wp2
      go_roundw
      case rel =>
        (repeat apply Exists.intro)
        refine ⟨?_, rfl⟩
        refine ⟨X1 ++ Q, P2, P1, Z1, by go_num, by rw [h2], by simp; omega, by omega, by rw [h2]; exact hq, by rw [← HTT.out]; simp, by have := HR2.out; simpa using this, HF2.out⟩
      case measure => simp [intOf]; omega

end Go.Proofs.Ytihjmipmjogpoaa

/- A table of brand: what it holds, as it lies in memory. -/
namespace Go.Proofs.Ytihjmipmjogpoaa
open Go.RowKit

/-- An entry: a key, a value, which one came. -/
structure Ent where
  k : T
  v : T
  c : Nat

/-- An entry as the program handles it. -/
def Ent.val (e : Ent) : Value := .agg (e.k.cells ++ (e.v.cells ++ [Value.int .i64 (e.c : Int)])).toArray

/-- The trees of some entries. -/
def trees (l : List Ent) : List T := l.flatMap fun e => [e.k, e.v]

/-- The entries of the table's map. -/
def EntsAre (es : List MapEntry) (l : List Ent) : Prop :=
  es.length = l.length ∧ ∀ (i : Nat) (e : MapEntry) (x : Ent), es[i]? = some e → l[i]? = some x → IsMk x.k.v e.key ∧ e.val = x.val

/-- The entries of the map that says in which order they came. -/
def OrdsAre (es : List MapEntry) (l : List Ent) : Prop :=
  es.length = l.length ∧ ∀ (i : Nat) (e : MapEntry) (x : Ent), es[i]? = some e → l[i]? = some x → e.key = .int .i64 (x.c : Int) ∧ IsMk x.k.v e.val

/-- A table in the blocks from lo on, below hi. -/
structure Tab (w : World) (lo hi tb M O : Nat) (l : List Ent) (came : Nat) : Prop where
  blk : Blk w tb 66 #[.map (some M), .map (some O), .int .i64 (came : Int)]
  m : ∃ es cl, w.heap[M]? = some (.map es cl) ∧ EntsAre es.toList l
  o : ∃ es cl, w.heap[O]? = some (.map es cl) ∧ OrdsAre es.toList l
  forest : Forest w lo hi (trees l)
  tb0 : lo ≤ tb ∧ tb < hi
  m0 : lo ≤ M ∧ M < hi
  o0 : lo ≤ O ∧ O < hi
  mo : M ≠ O
  out : tb ∉ ((trees l).map T.blocks).flatten
  outm : M ∉ ((trees l).map T.blocks).flatten
  outo : O ∉ ((trees l).map T.blocks).flatten
  may : ∀ e ∈ l, e.k.v.may = true ∧ e.k.v.keys = true ∧ e.v.v.may = true
  dist : l.Pairwise fun a b => a.k.v ≠ b.k.v
  cdist : l.Pairwise fun a b => a.c ≠ b.c
  cran : ∀ e ∈ l, 1 ≤ e.c ∧ e.c ≤ came
  came0 : came ≤ 1000000

theorem EntsAre.keys {es : List MapEntry} {l : List Ent} (h : EntsAre es l) : KeysAre es (l.map fun e => e.k.v) := by
  refine ⟨by rw [h.1, List.length_map], fun i e v he hv => ?_⟩
  simp at hv
  obtain ⟨x, hx, rfl⟩ := hv
  exact (h.2 i e x he hx).1

theorem Tab.fr {S : Nat → Prop} {w w' : World} {lo hi tb M O : Nat} {l : List Ent} {came : Nat} (h : Tab w lo hi tb M O l came) (hf : Fr S w w') (hh : hi ≤ w.heap.size) (hs : ∀ i, lo ≤ i → i < hi → ¬ S i) :
    Tab w' lo hi tb M O l came := by
  obtain ⟨es, cl, hm, hme⟩ := h.m
  obtain ⟨eo, co, ho, hoe⟩ := h.o
  exact ⟨h.blk.fr hf (hs _ h.tb0.1 h.tb0.2), ⟨es, cl, (hf.block M (by have := h.m0; omega) (hs _ h.m0.1 h.m0.2)).trans hm, hme⟩, ⟨eo, co, (hf.block O (by have := h.o0; omega) (hs _ h.o0.1 h.o0.2)).trans ho, hoe⟩,
    h.forest.fr hf hh hs, h.tb0, h.m0, h.o0, h.mo, h.out, h.outm, h.outo, h.may, h.dist, h.cdist, h.cran, h.came0⟩

theorem Tab.no {w w' : World} {lo hi tb M O : Nat} {l : List Ent} {came : Nat} (h : Tab w lo hi tb M O l came) (hf : Fr No w w') (hh : hi ≤ w.heap.size) : Tab w' lo hi tb M O l came := h.fr hf hh fun _ _ _ h => h

/-! ### none, find, New, Len -/

theorem map_neq_nil (w : World) (M : Nat) : (binOp .eql 63 (.map (some M)) (.map none)).run Try.prog w = .ok (.bool false) w := by
  have h := run_eql_map_nil (P := Try.prog) w 63 _ _ (some M) Try.underlying63
  simpa using h

theorem none_tab (tb M O : Nat) (c : Int) (w : World) (h : Blk w tb 66 #[.map (some M), .map (some O), .int .i64 c]) :
    Calls Try.prog 90 #[.pointer (some ⟨tb, 0, none⟩)] w fun e w' => e = .returned (.bool false) ∧ w' = w := by
  have c0 := h.cell 0
  simp only [List.getElem?_toArray, List.getElem?_cons_zero] at c0
  have hq := map_neq_nil
  go_enter Try.func90, Try.ntmps90
  go_wp2
  go_ret
  exact ⟨rfl, rfl⟩

theorem New_any (w : World) : Calls Try.prog 25 #[] w fun e w' => ∃ tb, e = .returned (.pointer (some ⟨tb, 0, none⟩)) ∧ Tab w' w.heap.size w'.heap.size tb w.heap.size (w.heap.size + 1) [] 0 ∧ Fr No w w' := by
  have hmm := @run_makeMap Try.prog
  go_enter Try.func25, Try.ntmps25
  go_wp2
  go_ret
  refine ⟨_, rfl, ?_, (((Fr.refl No w).alloc _).alloc _).alloc _⟩
  have b := Blk.new' ((w.alloc (.map #[] 0)).alloc (.map #[] 0)) 66 #[.map (some w.heap.size), .map (some (w.heap.size + 1)), .int .i64 0] (g := w.heap.size + 1 + 1) (by simp)
  refine ⟨b, ⟨#[], 0, ?_, rfl, by simp⟩, ⟨#[], 0, ?_, rfl, by simp⟩, Forest.nil _ _ _, by first | (simp; done) | (simp; omega), by first | (simp; done) | (simp; omega), by first | (simp; done) | (simp; omega), by omega, by simp [trees], by simp [trees], by simp [trees], by simp, by simp, by simp, by simp, by omega⟩
  · rw [Below.heap_alloc _ _ _ (by simp; omega), Below.heap_alloc _ _ _ (by simp)]; exact World.alloc_heap_new _ _
  · rw [Below.heap_alloc _ _ _ (by simp)]
    have := World.alloc_heap_new (w.alloc (.map #[] 0)) (.map #[] 0)
    simpa using this

theorem Len_any (w : World) (lo hi tb M O : Nat) (l : List Ent) (came : Nat) (h : Tab w lo hi tb M O l came) :
    Calls Try.prog 28 #[.pointer (some ⟨tb, 0, none⟩)] w fun e w' => e = .returned (.int .i64 (l.length : Int)) ∧ w' = w := by
  have hN := none_tab tb M O came w h.blk
  have c0 := h.blk.cell 0
  simp only [List.getElem?_toArray, List.getElem?_cons_zero] at c0
  obtain ⟨es, cl, hm, hme⟩ := h.m
  have hlen : (Builtin.len_ #[63] 3 #[.map (some M)]).run Try.prog w = .ok (.int .i64 (l.length : Int)) w := by
    have := hme.1
    simp at this
    simp [Builtin.len_, run_underlying Try.underlying63, get_map hm, goInt, this]
  clear hme h hm
  go_enter Try.func28, Try.ntmps28
  go_wp2_with fail
  refine hN.mono ?_
  rintro e w' ⟨rfl, rfl⟩
  clear hN
  go_wp2
  go_ret
  exact ⟨rfl, rfl⟩

/-- What 'find' answers: the mark of a key, or why it can't be asked for. -/
def FindP (v : V) (w : World) (e : Ending) (w' : World) : Prop :=
  (v.may = true → v.keys = true → ∃ m, e = .returned (.tuple #[m, .int .i64 0]) ∧ IsMk v m ∧ Fr No w w') ∧
  (v.may = true → v.keys = false → e = .returned (.tuple #[.nilIface, .int .i64 40]) ∧ Fr No w w') ∧
  (v.may = false → e = .returned (.tuple #[.nilIface, .int .i64 2]) ∧ Fr No w w')

set_option maxHeartbeats 1000000 in
theorem find_any (t : T) (w : World) (lo hi : Nat) (ht : t.In w lo hi) (hh : hi ≤ w.heap.size) (tb M O : Nat) (c : Int) (hb : Blk w tb 66 #[.map (some M), .map (some O), .int .i64 c]) :
    Calls Try.prog 91 #[.pointer (some ⟨tb, 0, none⟩), t.val] w (FindP t.v w) := by
  have hM := fun w' h h' => Of_any t w' lo hi h h'
  cases t with
  | mk k n s A cap l r =>
    rw [T.val_mk] at *
    have hN := none_tab tb M O c _ (hb.alloc (.cells #[.int .u8 k, .int .i64 n, .string s, .slice A l.length cap, .int .i64 r] 27))
    have ht1 := ht.no ((Fr.refl No w).alloc (.cells #[.int .u8 k, .int .i64 n, .string s, .slice A l.length cap, .int .i64 r] 27)) hh
    cases hm : (T.mk k n s A cap l r).v.may
    · have HM := hide hm
      have HT := hide ht1
      clear hm ht ht1
      go_enter Try.func91, Try.ntmps91
      go_wp2_with fail
      refine hN.mono ?_
      rintro e w' ⟨rfl, rfl⟩
      clear hN
      go_wp2_with fail
      refine (hM _ HT.out (by simp; omega)).mono ?_
      rintro e w2 ⟨-, h⟩
      obtain ⟨rfl, fr2⟩ := h HM.out
      clear h hM
      go_wp2
      go_ret2
      exact ⟨fun h => (by rw [HM.out] at h; cases h), fun h => (by rw [HM.out] at h; cases h), fun _ => ⟨rfl, ((Fr.refl No w).alloc _).trans fr2⟩⟩
    · have hd := may_dep hm
      cases hk : (T.mk k n s A cap l r).v.keys
      all_goals
        have HM := hide hm
        have HK := hide hk
        have HT := hide ht1
        clear hm ht ht1 hk
        go_enter Try.func91, Try.ntmps91
        go_wp2_with fail
        refine hN.mono ?_
        rintro e w' ⟨rfl, rfl⟩
        clear hN
        go_wp2_with fail
        refine (hM _ HT.out (by simp; omega)).mono ?_
        rintro e w2 ⟨h, -⟩
        obtain ⟨m, rfl, hmk, fr2⟩ := h HM.out
        obtain ⟨ty, x, rfl⟩ := hmk.iface
        have hky := key_any _ ty x hmk hd w2
        rw [HK.out] at hky
        clear h hM
        go_wp2_with fail
        refine hky.mono ?_
        rintro e w3 ⟨rfl, fr3⟩
        clear hky
        have HF := hide ((((Fr.refl No w).alloc _).trans fr2).trans fr3)
        clear fr2 fr3
        go_wp2
        go_ret2
      · exact ⟨fun _ h => (by rw [HK.out] at h; cases h), fun _ _ => ⟨rfl, HF.out⟩, fun h => (by rw [HM.out] at h; cases h)⟩
      · exact ⟨fun _ _ => ⟨_, rfl, hmk, HF.out⟩, fun _ h => (by rw [HK.out] at h; cases h), fun h => (by rw [HM.out] at h; cases h)⟩

end Go.Proofs.Ytihjmipmjogpoaa

/- Laws on the maps of a table: stores, deletions, look-ups by number. -/
namespace Go.Proofs.Ytihjmipmjogpoaa
open Go.RowKit

/-- The mark of a value without a row is one alone. -/
theorem mk_unique (u : V) : u.keys = true → ∀ m1 m2, IsMk u m1 → IsMk u m2 → m1 = m2 := by
  induction u using V.ind with
  | h k n s l r ih =>
    intro hk m1 m2 h1 h2
    rw [IsMk_mk] at h1 h2
    unfold mkOf at h1 h2
    by_cases k1 : k = 1
    · rw [if_pos k1] at h1 h2; rw [h1, h2]
    rw [if_neg k1] at h1 h2
    by_cases k2 : k = 2
    · rw [if_pos k2] at h1 h2; rw [h1, h2]
    rw [if_neg k2] at h1 h2
    by_cases k4 : k = 4
    · rw [if_pos k4] at h1 h2; rw [h1, h2]
    rw [if_neg k4] at h1 h2
    by_cases k3 : k = 3
    · rw [if_pos k3] at h1 h2
      rw [V.keys_mk, if_pos k3] at hk
      simp at hk
      obtain ⟨hl, hall⟩ := hk
      obtain ⟨a, b, rfl⟩ := at2 hl
      obtain ⟨x, y, rfl, hx, hy⟩ := h1
      obtain ⟨x', y', rfl, hx', hy'⟩ := h2
      rw [ih a (by simp) (hall a (by simp)) x x' hx hx', ih b (by simp) (hall b (by simp)) y y' hy hy']
    · rw [if_neg k3] at h1 h2; rw [h1, h2]

theorem same_mark (u : V) : u.keys = true → ∀ m d, 2 * u.dep + 2 ≤ d → IsMk u m → Instr.sameBits d m m = true := by
  induction u using V.ind with
  | h k n s l r ih =>
    intro hk m d hd h1
    rw [IsMk_mk] at h1
    unfold mkOf at h1
    obtain ⟨d, rfl⟩ : ∃ e, d = e + 2 := ⟨d - 2, by omega⟩
    by_cases k1 : k = 1
    · rw [if_pos k1] at h1; rw [h1]; simp [Instr.sameBits]
    rw [if_neg k1] at h1
    by_cases k2 : k = 2
    · rw [if_pos k2] at h1; rw [h1]; simp [Instr.sameBits, beq_toListBytes]
    rw [if_neg k2] at h1
    by_cases k4 : k = 4
    · rw [if_pos k4] at h1; rw [h1]; simp [Instr.sameBits]
    rw [if_neg k4] at h1
    by_cases k3 : k = 3
    · rw [if_pos k3] at h1
      rw [V.keys_mk, if_pos k3] at hk
      rw [V.dep_mk, if_pos k3] at hd
      simp at hk
      obtain ⟨hl, hall⟩ := hk
      obtain ⟨a, b, rfl⟩ := at2 hl
      obtain ⟨x, y, rfl, hx, hy⟩ := h1
      have hda : a.dep ≤ top [a.dep, b.dep] := le_top (by simp)
      have hdb : b.dep ≤ top [a.dep, b.dep] := le_top (by simp)
      simp only [List.map_cons, List.map_nil] at hd
      have e1 := ih a (by simp) (hall a (by simp)) x d (by omega) hx
      have e2 := ih b (by simp) (hall b (by simp)) y d (by omega) hy
      simp [Instr.sameBits, e1, e2]
    · rw [if_neg k3] at h1; rw [h1]; simp [Instr.sameBits]

/-- A store under a mark that isn't there. -/
theorem run_update_new {t el : TypeId} (ht : Try.prog.underlying t = some (.map 45 el)) (w : World) (u : V) (m val : Value) (hm : IsMk u m) (hd : u.dep ≤ 16) (hkey : u.keys = true)
    {B : Nat} {es : Array MapEntry} {cl : Nat} (hB : w.heap[B]? = some (.map es cl)) {vs : List V} (h : KeysAre es.toList vs) (hp : pos u vs = none) :
    (Instr.mapUpdate t (.map (some B)) m val).run Try.prog w = .ok () (w.putObj B (.map (es.push { key := m, val := val, born := cl }) (cl + 1))) := by
  have hc := run_key u 10000 m false w (by omega) hm
  have hf := run_findKey u m hm hd w es.toList vs h (fun v _ => keys_ne2 u hkey v)
  rw [hp] at hf
  rcases hc with ⟨_, hc⟩ | ⟨h0, _⟩
  · unfold Instr.mapUpdate
    simp only [Sem.run_bind, run_underlying ht, Result.andThen_ok, get_map hB, hc, hf, found, set_map _ hB]
  · rw [hkey] at h0; cases h0

/-- A store under a mark that is there. -/
theorem run_update_old {t el : TypeId} (ht : Try.prog.underlying t = some (.map 45 el)) (w : World) (u : V) (m val : Value) (hm : IsMk u m) (hd : u.dep ≤ 16) (hkey : u.keys = true)
    {B : Nat} {es : Array MapEntry} {cl : Nat} (hB : w.heap[B]? = some (.map es cl)) {vs : List V} (h : KeysAre es.toList vs) {i : Nat} (hp : pos u vs = some i) (hu : vs[i]? = some u) :
    (Instr.mapUpdate t (.map (some B)) m val).run Try.prog w = .ok () (w.putObj B (.map (es.modify i fun e => { e with key := m, val := val }) cl)) := by
  have hc := run_key u 10000 m false w (by omega) hm
  have hf := run_findKey u m hm hd w es.toList vs h (fun v _ => keys_ne2 u hkey v)
  rw [hp] at hf
  have hi : i < es.toList.length := by rw [h.1]; exact pos_lt hp
  have he : es.toList[i]? = some es.toList[i] := List.getElem?_eq_getElem hi
  have hkm : es.toList[i].key = m := mk_unique u hkey _ _ (h.2 i _ u he hu) hm
  simp only [found, he, Option.map_some, Nat.zero_add] at hf
  have he' : es[i]? = some es.toList[i] := by rw [← he]; simp
  rcases hc with ⟨_, hc⟩ | ⟨h0, _⟩
  · unfold Instr.mapUpdate
    simp only [Sem.run_bind, run_underlying ht, Result.andThen_ok, get_map hB, hc, hf, he', Option.map_some, Option.getD_some, hkm, Instr.keyThatStays, same_mark u hkey m 10000 (by omega) hm, if_pos, Sem.run_pure, set_map _ hB]
  · rw [hkey] at h0; cases h0

/-! ### Maps by number -/

theorem findNow_none {n : Int} : ∀ {es : List MapEntry} {i : Nat}, (∀ e ∈ es, ∃ c : Int, e.key = .int .i64 c ∧ n ≠ c) → Instr.findNow (.int .i64) (.int .i64 n) es i = some none
  | [], _, _ => rfl
  | e :: es, i, h => by
    obtain ⟨c, hc, hne⟩ := h e (by simp)
    unfold Instr.findNow
    have : Instr.sameNow (.int .i64) (.int .i64 n) e.key = some false := by rw [hc]; simp [Instr.sameNow]; exact hne
    rw [this]
    exact findNow_none fun e he => h e (by simp [he])

theorem findNow_some {n : Int} : ∀ {es : List MapEntry} {i j : Nat} {e : MapEntry}, (∀ e ∈ es, ∃ c : Int, e.key = .int .i64 c) → es[j]? = some e → e.key = .int .i64 n → (∀ k e', k < j → es[k]? = some e' → e'.key ≠ .int .i64 n) →
    Instr.findNow (.int .i64) (.int .i64 n) es i = some (some (i + j, e.val))
  | [], _, j, e, _, h, _, _ => by simp at h
  | e0 :: es, i, 0, e, _, h, hk, _ => by
    simp at h; subst h
    unfold Instr.findNow
    have : Instr.sameNow (.int .i64) (.int .i64 n) e0.key = some true := by rw [hk]; simp [Instr.sameNow]
    rw [this]; rfl
  | e0 :: es, i, j + 1, e, hall, h, hk, hb => by
    obtain ⟨c, hc⟩ := hall e0 (by simp)
    have hne : n ≠ c := fun h' => hb 0 e0 (by omega) rfl (by rw [hc, h'])
    unfold Instr.findNow
    have : Instr.sameNow (.int .i64) (.int .i64 n) e0.key = some false := by rw [hc]; simp [Instr.sameNow]; exact hne
    rw [this]
    have := findNow_some (n := n) (i := i + 1) (j := j) (fun e he => hall e (List.mem_cons_of_mem _ he)) (by simpa using h) hk (fun k e' hk' he' => hb (k + 1) e' (by omega) (by simpa using he'))
    rw [show i + (j + 1) = i + 1 + j from by omega]
    exact this

theorem checkKey_int' (d : Nat) (e : Bool) (n : Int) (w : World) : (Instr.checkKey e (d + 1) 3 (.int .i64 n)).run Try.prog w = .ok () w := by
  simp [Instr.checkKey, run_underlying Try.underlying3]
theorem checkKey_int (e : Bool) (n : Int) (w : World) : (Instr.checkKey e 10000 3 (.int .i64 n)).run Try.prog w = .ok () w := checkKey_int' 9999 e n w

/-- A store under a number that isn't there. -/
theorem run_update_num {t el : TypeId} (ht : Try.prog.underlying t = some (.map 3 el)) (w : World) (n : Int) (val : Value) {B : Nat} {es : Array MapEntry} {cl : Nat} (hB : w.heap[B]? = some (.map es cl))
    (h : ∀ e ∈ es.toList, ∃ c : Int, e.key = .int .i64 c ∧ n ≠ c) :
    (Instr.mapUpdate t (.map (some B)) (.int .i64 n) val).run Try.prog w = .ok () (w.putObj B (.map (es.push { key := .int .i64 n, val := val, born := cl }) (cl + 1))) := by
  unfold Instr.mapUpdate
  simp only [Sem.run_bind, run_underlying ht, Result.andThen_ok, get_map hB, checkKey_int, Instr.findKey, run_underlying Try.underlying3, findNow_none h, Sem.run_pure, set_map _ hB]

end Go.Proofs.Ytihjmipmjogpoaa

/- Texts joined: L1, N3. -/
import Derived.Test.YtihjmipmjogpoaaJn15
import Derived.Deep.Cut
import Derived.Deep.CutRange
import Derived.Deep.DrawnRows
import Derived.LoopN
/- posternlaw04.lives. -/
namespace Go.Proofs.Ytihjmipmjogpoaa
open Go.RowKit

def vOne : V := .mk 1 1 ⟨#[]⟩ [] 0
def vTwo : V := .mk 1 2 ⟨#[]⟩ [] 0
def vW1 : V := .mk 2 0 ⟨#[49]⟩ [] 0
def vWa : V := .mk 2 0 ⟨#[97]⟩ [] 0
def vNil : V := .mk 3 0 ⟨#[]⟩ [] 0
def vPair : V := .mk 3 0 ⟨#[]⟩ [vOne, vTwo] 0

theorem toList0 : (⟨#[]⟩ : ByteArray).toList = [] := by rw [ByteArray.toList_eq]

theorem one_may : vOne.may = true := by simp [vOne, V.may, V.fits, V.ok_mk, V.size_mk, V.dep_mk, fok, toList0, top]
theorem two_may : vTwo.may = true := by simp [vTwo, V.may, V.fits, V.ok_mk, V.size_mk, V.dep_mk, fok, toList0, top]
theorem w1_may : vW1.may = true := by simp [vW1, V.may, V.fits, V.ok_mk, V.size_mk, V.dep_mk, fok, top, ByteArray.size]
theorem wa_may : vWa.may = true := by simp [vWa, V.may, V.fits, V.ok_mk, V.size_mk, V.dep_mk, fok, top, ByteArray.size]
theorem nil_may : vNil.may = true := by simp [vNil, V.may, V.fits, V.ok_mk, V.size_mk, V.dep_mk, fok, toList0, top]
theorem pair_may : vPair.may = true := by simp [vPair, vOne, vTwo, V.may, V.fits, V.ok_mk, V.size_mk, V.dep_mk, fok, toList0, top]
theorem wa_keys : vWa.keys = true := by simp [vWa, V.keys_mk]
theorem nil_keys : vNil.keys = false := by simp [vNil, V.keys_mk]
theorem one_w1 : vOne.cmp vW1 = 0 := by simp [vOne, vW1, V.cmp_mk, cmpOf, shp, leafEq, pairCmp]
theorem pair_pair : vPair.cmp vPair = 1 := by simp [vPair, vOne, vTwo, V.cmp_mk, cmpOf, shp, leafEq, pairCmp]
theorem nil_nil : vNil.cmp vNil = 2 := by simp [vNil, V.cmp_mk, cmpOf, shp, leafEq, pairCmp]

def tLeaf (k n : Int) (s : ByteArray) : T := .mk k n s none 0 [] 0

theorem tLeaf_val (k n : Int) (s : ByteArray) : (tLeaf k n s).val = .agg #[.int .u8 k, .int .i64 n, .string s, .slice none 0 0, .int .i64 0] := rfl
theorem tLeaf_v (k n : Int) (s : ByteArray) : (tLeaf k n s).v = .mk k n s [] 0 := by rw [tLeaf, T.v_mk]; rfl

theorem leaf_in {k n : Int} {s : ByteArray} (h : Fit k n s 0 0 0) (w : World) (lo hi : Nat) : (tLeaf k n s).In w lo hi := by
  rw [tLeaf, T.in_mk]; exact ⟨h, fun h => absurd rfl h, by simp⟩

theorem fit_leaf {k n : Int} {s : ByteArray} (h0 : 0 ≤ k) (h1 : k < 256) (h2 : -100 ≤ n) (h3 : n ≤ 100) (h4 : s.size ≤ 100) : Fit k n s 0 0 0 := by
  refine ⟨h0, h1, by omega, by omega, by omega, by omega, by omega, by omega, ?_⟩
  all_goals omega

def vZ : Value := .slice none 0 0
def cs12 : Array Value := #[.int .u8 1, .int .i64 1, .string ⟨#[]⟩, .slice none 0 0, .int .i64 0, .int .u8 1, .int .i64 2, .string ⟨#[]⟩, .slice none 0 0, .int .i64 0]

theorem pair_in {w : World} {g lo hi : Nat} (h : Blk w g 27 cs12) (h0 : lo ≤ g) (h1 : g < hi) : (T.mk 3 0 ⟨#[]⟩ (some ⟨g, 0, none⟩) 2 [tLeaf 1 1 ⟨#[]⟩, tLeaf 1 2 ⟨#[]⟩] 0).In w lo hi := by
  rw [T.in_mk]
  refine ⟨⟨by omega, by omega, by omega, by omega, by simp [ByteArray.size], by simp, by simp, by omega, by omega⟩, fun _ => ⟨g, 0, rfl, h0, h1, fun i x hx c u hu => ?_⟩, ?_⟩
  · rw [h.cell]
    match i, hx with
    | 0, hx =>
      simp at hx; subst hx
      match c, hu with
      | 0, hu => exact hu
      | 1, hu => exact hu
      | 2, hu => exact hu
      | 3, hu => exact hu
      | 4, hu => exact hu
      | c + 5, hu => simp [tLeaf, T.cells] at hu
    | 1, hx =>
      simp at hx; subst hx
      match c, hu with
      | 0, hu => exact hu
      | 1, hu => exact hu
      | 2, hu => exact hu
      | 3, hu => exact hu
      | 4, hu => exact hu
      | c + 5, hu => simp [tLeaf, T.cells] at hu
    | i + 2, hx => simp at hx
  · intro x hx
    simp at hx
    rcases hx with rfl | rfl
    · exact leaf_in (fit_leaf (by omega) (by omega) (by omega) (by omega) (by simp [ByteArray.size])) _ _ _
    · exact leaf_in (fit_leaf (by omega) (by omega) (by omega) (by omega) (by simp [ByteArray.size])) _ _ _

theorem pair_v (g : Nat) : (T.mk 3 0 ⟨#[]⟩ (some ⟨g, 0, none⟩) 2 [tLeaf 1 1 ⟨#[]⟩, tLeaf 1 2 ⟨#[]⟩] 0).v = vPair := by
  rw [T.v_mk]; simp [tLeaf_v, vPair, vOne, vTwo]

theorem cmp_one_w1 (w : World) : Calls Try.prog 20 #[.agg #[.int .u8 1, .int .i64 1, .string ⟨#[]⟩, .slice none 0 0, .int .i64 0], .agg #[.int .u8 2, .int .i64 0, .string ⟨#[49]⟩, .slice none 0 0, .int .i64 0]] w
    fun e w' => e = .returned (.tuple #[.int .u8 0, .int .i64 0]) ∧ Fr No w w' := by
  have h := Compare_any (tLeaf 1 1 ⟨#[]⟩) (tLeaf 2 0 ⟨#[49]⟩) w 0 0 (leaf_in (fit_leaf (by omega) (by omega) (by omega) (by omega) (by simp [ByteArray.size])) _ _ _) (leaf_in (fit_leaf (by omega) (by omega) (by omega) (by omega) (by simp [ByteArray.size])) _ _ _) (by omega)
  have e1 : (tLeaf 1 1 ⟨#[]⟩).v = vOne := tLeaf_v _ _ _
  have e2 : (tLeaf 2 0 ⟨#[49]⟩).v = vW1 := tLeaf_v _ _ _
  rw [e1, e2] at h
  simpa [V.ans, V.err2, one_may, w1_may, one_w1, tLeaf_val] using h

theorem cmp_nil (w : World) : Calls Try.prog 20 #[.agg #[.int .u8 3, .int .i64 0, .string ⟨#[]⟩, .slice none 0 0, .int .i64 0], .agg #[.int .u8 3, .int .i64 0, .string ⟨#[]⟩, .slice none 0 0, .int .i64 0]] w
    fun e w' => e = .returned (.tuple #[.int .u8 2, .int .i64 0]) ∧ Fr No w w' := by
  have h := Compare_any (tLeaf 3 0 ⟨#[]⟩) (tLeaf 3 0 ⟨#[]⟩) w 0 0 (leaf_in (fit_leaf (by omega) (by omega) (by omega) (by omega) (by simp [ByteArray.size])) _ _ _) (leaf_in (fit_leaf (by omega) (by omega) (by omega) (by omega) (by simp [ByteArray.size])) _ _ _) (by omega)
  have e1 : (tLeaf 3 0 ⟨#[]⟩).v = vNil := tLeaf_v _ _ _
  rw [e1] at h
  simpa [V.ans, V.err2, nil_may, nil_nil, tLeaf_val] using h

theorem cmp_pair (w : World) (g g' : Nat) (h1 : Blk w g 27 cs12) (h2 : Blk w g' 27 cs12) : Calls Try.prog 20 #[.agg #[.int .u8 3, .int .i64 0, .string ⟨#[]⟩, .slice (some ⟨g, 0, none⟩) 2 2, .int .i64 0], .agg #[.int .u8 3, .int .i64 0, .string ⟨#[]⟩, .slice (some ⟨g', 0, none⟩) 2 2, .int .i64 0]] w
    fun e w' => e = .returned (.tuple #[.int .u8 1, .int .i64 0]) ∧ Fr No w w' := by
  have h := Compare_any _ _ w 0 w.heap.size (pair_in h1 (Nat.zero_le _) h1.lt) (pair_in h2 (Nat.zero_le _) h2.lt) (Nat.le_refl _)
  rw [pair_v, pair_v] at h
  simpa [V.ans, V.err2, pair_may, pair_pair, T.val_mk] using h

theorem leaf_blocks (k n : Int) (s : ByteArray) (i : Nat) : ¬ i ∈ (tLeaf k n s).blocks := by
  rw [tLeaf, T.blocks_mk]; simp

theorem put_one (w : World) (lo tb M O : Nat) (hT : Tab w lo w.heap.size tb M O [] 0) :
    Calls Try.prog 26 #[.pointer (some ⟨tb, 0, none⟩), .agg #[.int .u8 2, .int .i64 0, .string ⟨#[97]⟩, .slice none 0 0, .int .i64 0], .agg #[.int .u8 1, .int .i64 1, .string ⟨#[]⟩, .slice none 0 0, .int .i64 0]] w
    fun e w' => e = .returned (tripZ 0) ∧ ∃ x : Ent, x.k.v = vWa ∧ x.v.v = vOne ∧ Tab w' lo w'.heap.size tb M O [x] 1 ∧ Fr (fun i => i = tb ∨ i = M ∨ i = O) w w' := by
  have e1 : (tLeaf 2 0 ⟨#[97]⟩).v = vWa := tLeaf_v _ _ _
  have e2 : (tLeaf 1 1 ⟨#[]⟩).v = vOne := tLeaf_v _ _ _
  have h := Put_new (tLeaf 2 0 ⟨#[97]⟩) (tLeaf 1 1 ⟨#[]⟩) w 0 0 (leaf_in (fit_leaf (by omega) (by omega) (by omega) (by omega) (by simp [ByteArray.size])) _ _ _) (leaf_in (fit_leaf (by omega) (by omega) (by omega) (by omega) (by simp [ByteArray.size])) _ _ _) (Nat.zero_le _) lo tb M O [] 0 hT (by simp [leaf_blocks]) (by rw [e1]; exact wa_may) (by rw [e2]; exact one_may) (by rw [e1]; exact wa_keys) (by simp [pos]) (by omega)
  rw [e1, e2, tLeaf_val, tLeaf_val] at h
  refine h.mono ?_
  rintro e w' ⟨rfl, x, h1, h2, -, h3, h4, -⟩
  exact ⟨rfl, x, h1, h2, by simpa using h3, h4⟩

theorem put_two (w : World) (lo tb M O : Nat) (x : Ent) (hT : Tab w lo w.heap.size tb M O [x] 1) (hk : x.k.v = vWa) (hv : x.v.v = vOne) :
    Calls Try.prog 26 #[.pointer (some ⟨tb, 0, none⟩), .agg #[.int .u8 2, .int .i64 0, .string ⟨#[97]⟩, .slice none 0 0, .int .i64 0], .agg #[.int .u8 1, .int .i64 2, .string ⟨#[]⟩, .slice none 0 0, .int .i64 0]] w
    fun e w' => (∃ A cap, e = .returned (.tuple #[.agg #[.int .u8 1, .int .i64 1, .string ⟨#[]⟩, .slice A 0 cap, .int .i64 0], .bool true, .int .i64 0]) ∧ (T.mk 1 1 ⟨#[]⟩ A cap [] 0).In w' 0 w'.heap.size) ∧
      (∃ y : Ent, Tab w' lo w'.heap.size tb M O [y] 1) ∧ Fr (fun i => i = M) w w' := by
  have e1 : (tLeaf 2 0 ⟨#[97]⟩).v = vWa := tLeaf_v _ _ _
  have e2 : (tLeaf 1 2 ⟨#[]⟩).v = vTwo := tLeaf_v _ _ _
  have hw : vWa.cmp vWa = 1 := by simp [vWa, V.cmp_mk, cmpOf, shp, leafEq]
  have h := Put_old (tLeaf 2 0 ⟨#[97]⟩) (tLeaf 1 2 ⟨#[]⟩) w 0 0 (leaf_in (fit_leaf (by omega) (by omega) (by omega) (by omega) (by simp [ByteArray.size])) _ _ _) (leaf_in (fit_leaf (by omega) (by omega) (by omega) (by omega) (by simp [ByteArray.size])) _ _ _) (Nat.zero_le _) lo tb M O [x] 1 hT (by simp [leaf_blocks]) (by rw [e1]; exact wa_may) (by rw [e2]; exact two_may) (by rw [e1]; exact wa_keys) (i := 0) (x := x) (by rw [e1]; simp [pos, hk, hw]) rfl
  rw [e2, tLeaf_val, tLeaf_val] at h
  refine h.mono ?_
  rintro e w' ⟨rfl, v', h1, h2, h3, -, h4, -⟩
  obtain ⟨xk, ⟨k, n, s, A, cap, l, r⟩, c⟩ := x
  simp only at hv
  rw [T.v_mk, vOne] at hv
  injection hv with q1 q2 q3 q4 q5
  subst q1 q2 q3 q5
  simp at q4
  subst q4
  exact ⟨⟨A, cap, rfl, T.In.more (Nat.zero_le _) (Nat.le_refl _) _ h3.inn⟩, ⟨_, by simpa using h2⟩, h4⟩

theorem put_nil (w : World) (lo tb M O : Nat) (y : Ent) (hT : Tab w lo w.heap.size tb M O [y] 1) :
    Calls Try.prog 26 #[.pointer (some ⟨tb, 0, none⟩), .agg #[.int .u8 3, .int .i64 0, .string ⟨#[]⟩, .slice none 0 0, .int .i64 0], .agg #[.int .u8 1, .int .i64 2, .string ⟨#[]⟩, .slice none 0 0, .int .i64 0]] w
    fun e w' => e = .returned (tripZ 40) ∧ Fr No w w' := by
  have e1 : (tLeaf 3 0 ⟨#[]⟩).v = vNil := tLeaf_v _ _ _
  have e2 : (tLeaf 1 2 ⟨#[]⟩).v = vTwo := tLeaf_v _ _ _
  have hp : putErr vNil vTwo = 40 := by simp [putErr, nil_may, two_may, nil_keys]
  have h := Put_err (tLeaf 3 0 ⟨#[]⟩) (tLeaf 1 2 ⟨#[]⟩) w 0 0 (leaf_in (fit_leaf (by omega) (by omega) (by omega) (by omega) (by simp [ByteArray.size])) _ _ _) (leaf_in (fit_leaf (by omega) (by omega) (by omega) (by omega) (by simp [ByteArray.size])) _ _ _) (Nat.zero_le _) tb M O _ hT.blk (by rw [e1, e2, hp]; decide)
  rw [e1, e2, hp, tLeaf_val, tLeaf_val] at h
  exact h

theorem same_old (A : Option Addr) (cap hi : Nat) (w : World) (h : (T.mk 1 1 ⟨#[]⟩ A cap [] 0).In w 0 hi) (hh : hi ≤ w.heap.size) :
    Calls Try.prog 37 #[.agg #[.int .u8 1, .int .i64 1, .string ⟨#[]⟩, .slice A 0 cap, .int .i64 0], .agg #[.int .u8 1, .int .i64 1, .string ⟨#[]⟩, .slice none 0 0, .int .i64 0]] w
    fun e w' => e = .returned (.bool true) ∧ Fr No w w' := by
  have h := same_any (T.mk 1 1 ⟨#[]⟩ A cap [] 0) (tLeaf 1 1 ⟨#[]⟩) w 0 hi 0 0 h hh (leaf_in (fit_leaf (by omega) (by omega) (by omega) (by omega) (by simp [ByteArray.size])) _ _ _) (Nat.zero_le _)
  rw [T.val_mk, tLeaf_val] at h
  refine h.mono ?_
  rintro e w' ⟨q, rfl, hq, fr⟩
  obtain rfl : q = true := hq.2 (by rw [T.v_mk, tLeaf_v]; rfl)
  exact ⟨rfl, fr⟩

theorem len_one (w : World) (lo hi tb M O : Nat) (y : Ent) (h : Tab w lo hi tb M O [y] 1) :
    Calls Try.prog 28 #[.pointer (some ⟨tb, 0, none⟩)] w fun e w' => e = .returned (.int .i64 1) ∧ w' = w := by
  simpa using Len_any w lo hi tb M O [y] 1 h

set_option maxRecDepth 100000 in
set_option maxHeartbeats 4000000 in
theorem lives_any (w : World) : Calls Try.prog 19 #[] w fun e w' => e = .returned (.bool true) ∧ Fr No w w' := by
  go_enter Try.func19, Try.ntmps19
  go_wp2_with fail
  refine (bnumber_any 1 w).mono ?_
  rintro e w1 ⟨rfl, fr1, -⟩
  go_wp2_with fail
  refine (word_any _ w1).mono ?_
  rintro e w2 ⟨rfl, fr2, -⟩
  go_wp2_with fail
  refine (cmp_one_w1 w2).mono ?_
  rintro e w3 ⟨rfl, fr3⟩
  have f3 := (fr1.trans fr2).trans fr3
  clear fr1 fr2 fr3
  go_wp2_with fail
  refine (bnumber_any 1 w3).mono ?_
  rintro e w4 ⟨rfl, fr4, -⟩
  go_wp2_with fail
  refine (bnumber_any 2 w4).mono ?_
  rintro e w5 ⟨rfl, fr5, -⟩
  have f5 := (f3.trans fr4).trans fr5
  clear f3 fr4 fr5
  go_wp2_with fail
  have hB6 : Blk (w5.alloc (.cells cs12 27)) w5.heap.size 27 cs12 := Blk.new w5 27 cs12
  have f6 := f5.alloc (.cells cs12 27)
  unfold cs12 at hB6 f6
  generalize World.alloc w5 _ = w6 at *
  refine (list_any _ 2 2 w6).mono ?_
  rintro e w7 ⟨rfl, fr7, -⟩
  go_wp2_with fail
  refine (bnumber_any 1 w7).mono ?_
  rintro e w8 ⟨rfl, fr8, -⟩
  go_wp2_with fail
  refine (bnumber_any 2 w8).mono ?_
  rintro e w9 ⟨rfl, fr9, -⟩
  go_wp2_with fail
  have hB9 := ((hB6.fr fr7 (fun h => h)).fr fr8 (fun h => h)).fr fr9 (fun h => h)
  have hB10 := hB9.alloc (.cells cs12 27)
  have hC10 : Blk (w9.alloc (.cells cs12 27)) w9.heap.size 27 cs12 := Blk.new w9 27 cs12
  have f10 := (((f6.trans fr7).trans fr8).trans fr9).alloc (.cells cs12 27)
  unfold cs12 at hB10 hC10 f10
  generalize World.alloc w9 _ = w10 at *
  clear hB9 f5 f6 fr7 fr8 fr9 hB6
  refine (list_any _ 2 2 w10).mono ?_
  rintro e w11 ⟨rfl, fr11, -⟩
  go_wp2_with fail
  refine (cmp_pair w11 _ _ (hB10.fr fr11 (fun h => h)) (hC10.fr fr11 (fun h => h))).mono ?_
  rintro e w12 ⟨rfl, fr12⟩
  have f12 := (f10.trans fr11).trans fr12
  clear f10 fr11 fr12 hB10 hC10
  go_wp2_with fail
  refine (list_any none 0 0 w12).mono ?_
  rintro e w13 ⟨rfl, fr13, -⟩
  go_wp2_with fail
  refine (list_any none 0 0 w13).mono ?_
  rintro e w14 ⟨rfl, fr14, -⟩
  go_wp2_with fail
  refine (cmp_nil w14).mono ?_
  rintro e w15 ⟨rfl, fr15⟩
  have f15 := ((f12.trans fr13).trans fr14).trans fr15
  clear f12 fr13 fr14 fr15
  go_wp2_with fail
  refine (New_any w15).mono ?_
  rintro e w16 ⟨tb, rfl, hT, fr16⟩
  have f16 := f15.trans fr16
  have HLO := hide f15.size
  clear f15
  go_wp2_with fail
  refine (word_any _ w16).mono ?_
  rintro e w17 ⟨rfl, fr17, -⟩
  go_wp2_with fail
  refine (bnumber_any 1 w17).mono ?_
  rintro e w18 ⟨rfl, fr18, -⟩
  have hT1 := (hT.no (fr17.trans fr18) (Nat.le_refl _)).more (Nat.le_refl _) (fr17.trans fr18).size
  have f18 := (f16.trans fr17).trans fr18
  clear hT fr16 fr17 fr18 f16
  go_wp2_with fail
  have hlo : w.heap.size ≤ w15.heap.size := HLO.out
  refine (put_one w18 _ _ _ _ hT1).mono ?_
  rintro e w19 ⟨rfl, x, hx1, hx2, hT2, fr19⟩
  have g1 := hT1.tb0
  have g2 := hT1.m0
  have g3 := hT1.o0
  have f19 : Fr No w w19 := f18.trans' fr19 (fun i hi h => by omega)
  clear f18 fr19 hT1 hlo
  unfold tripZ
  go_wp2_with fail
  have fz := (Fr.refl No w19).alloc (.cells #[.int .u8 0, .int .i64 0, .string ⟨#[]⟩, .slice none 0 0, .int .i64 0] 27)
  generalize World.alloc w19 _ = w20 at *
  refine (word_any _ w20).mono ?_
  rintro e w21 ⟨rfl, fr21, -⟩
  go_wp2_with fail
  refine (bnumber_any 2 w21).mono ?_
  rintro e w22 ⟨rfl, fr22, -⟩
  have fzz := (fz.trans fr21).trans fr22
  have hT3 := (hT2.no fzz (Nat.le_refl _)).more (Nat.le_refl _) fzz.size
  have f22 := f19.trans fzz
  clear fz fr21 fr22 fzz f19 hT2
  go_wp2_with fail
  refine (put_two w22 _ _ _ _ x hT3 hx1 hx2).mono ?_
  rintro e w23 ⟨⟨A1, cap1, rfl, hold⟩, ⟨z, hT4⟩, fr23⟩
  have hlo : w.heap.size ≤ w15.heap.size := HLO.out
  have f23 : Fr No w w23 := f22.trans' fr23 (fun i hi h => by have h' : i = _ := h; omega)
  clear f22 fr23 hT3 hlo hx1 hx2
  go_wp2_with fail
  have fz := (Fr.refl No w23).alloc (.cells #[.int .u8 1, .int .i64 1, .string ⟨#[]⟩, .slice A1 0 cap1, .int .i64 0] 27)
  have hQ : Blk (w23.alloc (.cells #[.int .u8 1, .int .i64 1, .string ⟨#[]⟩, .slice A1 0 cap1, .int .i64 0] 27)) w23.heap.size 27 #[.int .u8 1, .int .i64 1, .string ⟨#[]⟩, .slice A1 0 cap1, .int .i64 0] := Blk.new _ _ _
  generalize World.alloc w23 _ = w24 at *
  refine (list_any none 0 0 w24).mono ?_
  rintro e w25 ⟨rfl, fr25, -⟩
  go_wp2_with fail
  refine (bnumber_any 2 w25).mono ?_
  rintro e w26 ⟨rfl, fr26, -⟩
  have fzz := (fz.trans fr25).trans fr26
  have hT5 := (hT4.no fzz (Nat.le_refl _)).more (Nat.le_refl _) fzz.size
  have hQ2 := (hQ.fr fr25 (fun h => h)).fr fr26 (fun h => h)
  have f26 := f23.trans fzz
  have hold2 := hold.no fzz (Nat.le_refl _)
  have hs26 := fzz.size
  clear fz fr25 fr26 fzz f23 hT4 hQ hold
  go_wp2_with fail
  refine (put_nil w26 _ _ _ _ z hT5).mono ?_
  rintro e w27 ⟨rfl, fr27⟩
  have hT6 := (hT5.no fr27 (Nat.le_refl _)).more (Nat.le_refl _) fr27.size
  have hQ3 := hQ2.fr fr27 (fun h => h)
  have f27 := f26.trans fr27
  have hold3 := hold2.no fr27 hs26
  have hs27 := Nat.le_trans hs26 fr27.size
  clear f26 fr27 hT5 hQ2 hold2 hs26
  unfold tripZ
  go_wp2_with fail
  have fz := (Fr.refl No w27).alloc (.cells #[.int .u8 0, .int .i64 0, .string ⟨#[]⟩, .slice none 0 0, .int .i64 0] 27)
  generalize World.alloc w27 _ = w28 at *
  have hT7 := (hT6.no fz (Nat.le_refl _))
  obtain ⟨d0, d1, d2, d3, d4, df⟩ := (hQ3.fr fz (fun h => h)).cells5
  have hlt := Nat.lt_of_lt_of_le hQ3.lt fz.size
  have hold4 := hold3.no fz hs27
  have hs28 := Nat.le_trans hs27 fz.size
  have h728 := fz.size
  have f28 := hide (f27.trans fz)
  clear f27 fz hT6 hQ3 hold3 hs27
  go_region_held3 (fun w' => (∀ c i, c < w28.heap.size → w'.cell? ⟨c, i, none⟩ = w28.cell? ⟨c, i, none⟩) ∧ Fr No w28 w')
    (first | exact ⟨fun _ _ _ => rfl, Fr.drew (Fr.refl No w28)⟩ | exact ‹_ ∧ Fr No w28 _› | (have hq : Fr No w28 _ := (‹_ ∧ Fr No w28 _›).2.trans ‹Fr No _ _›; exact ⟨hq.cells, hq⟩))
    (first
      | (go_at_call 80; (with_reducible refine (bnumber_any 1 _).mono ?_); rintro e wa ⟨rfl, fra, -⟩)
      | (go_at_call 28; have hs0 := (‹_ ∧ Fr No w28 _›).2; ((with_reducible refine (len_one _ _ _ _ _ _ z (hT7.no hs0 h728)).mono ?_); rintro e wc ⟨rfl, rfl⟩))
      | (go_at_call 37; have hs0 := (‹_ ∧ Fr No w28 _›).2; ((with_reducible refine (same_old A1 cap1 _ _ (hold4.no hs0 hs28) (Nat.le_trans hs28 hs0.size)).mono ?_); rintro e wb ⟨rfl, frb⟩)))
  all_goals
    go_wp2
    go_ret
    exact ⟨rfl, f28.out.trans (‹_ ∧ Fr No w28 _›).2⟩

end Go.Proofs.Ytihjmipmjogpoaa

/- BrandNone: what it computes. -/
namespace Go.Proofs.Ytihjmipmjogpoaa
open Go.RowKit
attribute [local go_sem ↓] Go.wp_at_zero Go.wp_at_succ

theorem same_zero (w : World) : Calls Try.prog 37 #[.agg #[.int .u8 0, .int .i64 0, .string ⟨#[]⟩, .slice none 0 0, .int .i64 0], .agg #[.int .u8 0, .int .i64 0, .string ⟨#[]⟩, .slice none 0 0, .int .i64 0]] w fun e w' => e = .returned (.bool true) ∧ Fr No w w' := by
  have h := same_any T.zero T.zero w 0 0 0 0 (T.zero_ow _ _ _).inn (Nat.zero_le _) (T.zero_ow _ _ _).inn (Nat.zero_le _)
  rw [T.zero_val] at h
  refine h.mono ?_
  rintro e w' ⟨q, rfl, hq, fr⟩
  exact ⟨by rw [hq.2 rfl], fr⟩

def zero5 : Array Value := #[.int .u8 0, .int .i64 0, .string ⟨#[]⟩, .slice none 0 0, .int .i64 0]

/-- What a call that answers a value leaves. -/
def ZeroCut (w : World) (s8 s9 s10 : Value) (wx : World) : Prop :=
  ∃ g : Nat, s8 = .pointer (some ⟨g, 0, none⟩) ∧ s9 = .bool false ∧ s10 = .int .i64 1 ∧ Blk wx g 27 zero5 ∧ Fr No w wx

theorem zerocut_after {w w2 : World} (fr : Fr No w w2) : ZeroCut w (.pointer (some ⟨w2.heap.size, 0, none⟩)) (.bool false) (.int .i64 1) (w2.alloc (.cells #[.int .u8 0, .int .i64 0, .string ⟨#[]⟩, .slice none 0 0, .int .i64 0] 27)) :=
  ⟨_, rfl, rfl, rfl, Blk.new _ _ _, fr.alloc _⟩

theorem zerocut_before {w w2 : World} {g : Nat} (hb : Blk w2 g 27 #[.int .u8 0, .int .i64 0, .string ⟨#[]⟩, .slice none 0 0, .int .i64 0]) (fr : Fr No w w2) (hg : w.heap.size ≤ g) : ZeroCut w (.pointer (some ⟨g, 0, none⟩)) (.bool false) (.int .i64 1)
    (((((w2.setCell ⟨g, 0, none⟩ (.int .u8 0)).setCell ⟨g, 1, none⟩ (.int .i64 0)).setCell ⟨g, 2, none⟩ (.string ⟨#[]⟩)).setCell ⟨g, 3, none⟩ (.slice none 0 0)).setCell ⟨g, 4, none⟩ (.int .i64 0)) :=
  ⟨_, rfl, rfl, rfl, (sets5 w2 g 27 _ _ _ _ _ _ _ _ _ _ hb).1, ((((fr.setNew hg _).setNew hg _).setNew hg _).setNew hg _).setNew hg _⟩

/-- What lies there all the while. -/
structure NS (w : World) (ka va : Array Value) (tb ar : Nat) (W : World) : Prop where
  fr : Fr No w W
  bk : Blk W w.heap.size 27 ka
  bv : Blk W (w.heap.size + 1) 27 va
  br : Blk W (w.heap.size + 1 + 1) 4 #[.bool false]
  bt : Blk W tb 66 #[.map none, .map none, .int .i64 0]
  ba : Blk W ar 51 #[.pointer none, .pointer (some ⟨tb, 0, none⟩)]

theorem NS.no {w W W' : World} {ka va : Array Value} {tb ar : Nat} (h : NS w ka va tb ar W) (f : Fr No W W') : NS w ka va tb ar W' :=
  ⟨h.fr.trans f, h.bk.fr f fun h => h, h.bv.fr f fun h => h, h.br.fr f fun h => h, h.bt.fr f fun h => h, h.ba.fr f fun h => h⟩

theorem NS.p0 {w W : World} {ka va : Array Value} {tb ar : Nat} (_ : NS w ka va tb ar W) : NoTab W none := .inl rfl
theorem NS.p1 {w W : World} {ka va : Array Value} {tb ar : Nat} (h : NS w ka va tb ar W) : NoTab W (some ⟨tb, 0, none⟩) := .inr ⟨tb, rfl, h.bt⟩

theorem fr_both {w W : World} (h : Fr No w W) : (∀ c i, c < w.heap.size → W.cell? ⟨c, i, none⟩ = w.cell? ⟨c, i, none⟩) ∧ Fr No w W := ⟨h.cells, h⟩

theorem enters_fn {P : Program} {f : FuncId} {fn : Func} {c : Code} (hf : P.funcs[f]? = some fn) (hname : (fn.name == "runtime.NumGoroutine") = false) (hb : fn.body = some c) : ∀ args w, (callFunc f args).run P w = .ok (.enter f args) w := by
  intro args w
  have h1 : fn.name ≠ "runtime.NumGoroutine" := by simpa using hname
  simp [callFunc, hf, h1, hb, mark]

theorem func_eql_nil (w : World) (g : Nat) : (binOp .eql 68 (.func (.func 100) #[] #[.pointer (some ⟨g, 0, none⟩)]) .nilFunc).run Try.prog w = .ok (.bool false) w := by kernel_rfl

theorem def_kept {w W : World} {D : Nat} {o : Obj} (h : w.heap[D]? = some o) (f : Fr No w W) : W.heap[D]? = some o := (f.block D (lt_of_heap h) (fun h => h)).trans h

theorem five_new {w W : World} (h : Fr No w W) {g : Nat} (hg : w.heap.size ≤ g) (x0 x1 x2 x3 x4 : Value) : Fr No w (((((W.setCell ⟨g, 0, none⟩ x0).setCell ⟨g, 1, none⟩ x1).setCell ⟨g, 2, none⟩ x2).setCell ⟨g, 3, none⟩ x3).setCell ⟨g, 4, none⟩ x4) :=
  ((((h.setNew hg _).setNew hg _).setNew hg _).setNew hg _).setNew hg _

theorem box_keptN {wr w2 : World} {cs : Array Value} (fr : Fr No (wr.alloc (.cells cs 27)).drew w2) : Blk w2 wr.heap.size 27 cs :=
  Blk.fr (a := (wr.alloc (.cells cs 27)).drew) ((Blk.new' wr 27 cs rfl).drew) fr fun h => h

theorem Blk.cells2 {w : World} {g : Nat} {t : TypeId} {a b : Value} (h : Blk w g t #[a, b]) : w.cell? ⟨g, 0, none⟩ = some a ∧ w.cell? ⟨g, 1, none⟩ = some b := ⟨h.cell 0, h.cell 1⟩

set_option maxRecDepth 100000 in
set_option maxHeartbeats 8000000 in
theorem none_any (a b : T) (w : World) (ha : a.In w 0 w.heap.size) (hb : b.In w 0 w.heap.size) : Calls Try.prog 7 #[a.val, b.val] w fun e w' => e = .returned (.bool true) ∧ Fr No w w' := by
  have hL := lives_any
  have hP := fun p w' h => Put_no p a.val b.val (by cases a; exact ⟨_, _, _, _, _, _, _, rfl⟩) (by cases b; exact ⟨_, _, _, _, _, _, _, rfl⟩) w' h
  have hG := fun p w' h => Get_no p a.val (by cases a; exact ⟨_, _, _, _, _, _, _, rfl⟩) w' h
  have hD := fun p w' h => Drop_no p a.val (by cases a; exact ⟨_, _, _, _, _, _, _, rfl⟩) w' h
  have hC := Copy_no
  have hLen := Len_no
  have hAll := All_val
  have hS := same_zero
  have hfn := func_eql_nil
  clear ha hb
  cases a with
  | mk k n s A cap l r =>
  cases b with
  | mk k' n' s' A' cap' l' r' =>
    rw [T.val_mk] at hP hG hD
    rw [T.val_mk] at hP
    rw [T.val_mk, T.val_mk]
    generalize l.length = ll at *
    generalize l'.length = ll' at *
    refine (callsIn_wide (n := 5)).1 ?_
    refine callsIn_of_wp_marks Try.func7 rfl trivial ?_
    simp only [Try.ntmps7, List.size_toArray, List.length_cons, List.length_nil, Nat.reduceAdd, Nat.reduceSub, Array.replicate_succ, Array.replicate_zero, List.push_toArray, List.append_toArray, List.nil_append, List.cons_append]
    refine wpIn_wide.2 ?_
    go_wp2_with fail
    have hb0 := ((((Blk.new' w 27 #[.int .u8 k, .int .i64 n, .string s, .slice A ll cap, .int .i64 r] rfl).alloc (.cells #[.int .u8 k', .int .i64 n', .string s', .slice A' ll' cap', .int .i64 r'] 27)).alloc (.cells #[.bool false] 4)))
    have hb1 := ((Blk.new' (w.alloc (.cells #[.int .u8 k, .int .i64 n, .string s, .slice A ll cap, .int .i64 r] 27)) 27 #[.int .u8 k', .int .i64 n', .string s', .slice A' ll' cap', .int .i64 r'] (g := w.heap.size + 1) (by simp)).alloc (.cells #[.bool false] 4))
    have hb2 := (Blk.new' ((w.alloc (.cells #[.int .u8 k, .int .i64 n, .string s, .slice A ll cap, .int .i64 r] 27)).alloc (.cells #[.int .u8 k', .int .i64 n', .string s', .slice A' ll' cap', .int .i64 r'] 27)) 4 #[.bool false] (g := w.heap.size + 1 + 1) (by simp))
    have hf0 := (((Fr.refl No w).alloc (.cells #[.int .u8 k, .int .i64 n, .string s, .slice A ll cap, .int .i64 r] 27)).alloc (.cells #[.int .u8 k', .int .i64 n', .string s', .slice A' ll' cap', .int .i64 r'] 27)).alloc (.cells #[.bool false] 4)
    generalize World.alloc _ (.cells #[.bool false] 4) = W0 at *
    refine (hL _).mono ?_
    rintro e w1 ⟨rfl, fr1⟩
    have hns : NS w #[.int .u8 k, .int .i64 n, .string s, .slice A ll cap, .int .i64 r] #[.int .u8 k', .int .i64 n', .string s', .slice A' ll' cap', .int .i64 r'] w1.heap.size (w1.heap.size + 1)
        ((w1.alloc (.cells #[.map none, .map none, .int .i64 0] 66)).alloc (.cells #[.pointer none, .pointer (some ⟨w1.heap.size, 0, none⟩)] 51)) :=
      ⟨((hf0.trans fr1).alloc _).alloc _, ((hb0.fr fr1 fun h => h).alloc _).alloc _, ((hb1.fr fr1 fun h => h).alloc _).alloc _, ((hb2.fr fr1 fun h => h).alloc _).alloc _, (Blk.new' w1 66 _ rfl).alloc _, Blk.new' (w1.alloc _) 51 _ (by simp)⟩
    have HNS := hide hns
    clear hb0 hb1 hb2 hf0 fr1 hns
    go_wp2_with fail

    generalize World.alloc (World.alloc w1 _) _ = w2 at *
    refine wp_loop_rounds 3 ?_
    rw [rounds_succ]
    obtain ⟨k0, k1, k2, k3, k4, -⟩ := HNS.out.bk.cells5
    obtain ⟨v0, v1, v2, v3, v4, -⟩ := HNS.out.bv.cells5
    obtain ⟨a0, a1⟩ := HNS.out.ba.cells2
    have q0 := HNS.out.bk.lt
    have q1 := HNS.out.bv.lt
    have q2 := HNS.out.ba.lt
    go_upto_region 8 with (fail)
    go_cut [8, 9, 10] from 23 to 109 (fun s8 s9 s10 wx => ZeroCut w2 s8 s9 s10 wx)
    case first =>
      go_region_held3 (fun w' => (∀ c i, c < w2.heap.size → w'.cell? ⟨c, i, none⟩ = w2.cell? ⟨c, i, none⟩) ∧ Fr No w2 w')
          (first
            | with_reducible exact fr_both (Fr.drew (Fr.refl No w2))
            | with_reducible exact fr_both HW2.out
            | with_reducible exact fr_both (Fr.trans (‹_ ∧ Fr No w2 _›).2 ‹Fr No _ _›)
            | with_reducible exact fr_both (Fr.drew (Fr.alloc (Fr.refl No w2) _))
            | with_reducible exact fr_both (Fr.alloc HW2.out _)
            | with_reducible exact fr_both (five_new HW2.out (Nat.le_refl _) _ _ _ _ _))
          (first
            | (go_at_call 26; have hs0 := (‹_ ∧ Fr No w2 _›).2; ((with_reducible refine (hP _ _ ((HNS.out.p0).fr hs0)).mono ?_); rintro e wa ⟨rfl, frA⟩; have HW2 := hide (hs0.trans frA); unfold tripZ; (try (have hbx := box_keptN frA; have HBX := hide hbx; obtain ⟨x0, x1, x2, x3, x4, xf⟩ := hbx.cells5; have q9 := hbx.lt; clear hbx)))))
      all_goals
        go_simp
        go_wp2_with fail
        go_meet
        first
          | with_reducible exact zerocut_after HW2.out
          | with_reducible exact zerocut_before HBX.out HW2.out (Nat.le_refl _)
    obtain ⟨g8, rfl, rfl, rfl, g8b, w3f⟩ := hcut
    obtain ⟨w3, rfl⟩ : ∃ w3 : World, w3 = wc := ⟨_, rfl⟩
    clear k0 k1 k2 k3 k4 v0 v1 v2 v3 v4 a0 a1 q0 q1 q2
    replace HNS := hide (HNS.out.no w3f)
    obtain ⟨k0, k1, k2, k3, k4, -⟩ := HNS.out.bk.cells5
    obtain ⟨v0, v1, v2, v3, v4, -⟩ := HNS.out.bv.cells5
    obtain ⟨a0, a1⟩ := HNS.out.ba.cells2
    have q0 := HNS.out.bk.lt
    have q1 := HNS.out.bv.lt
    have q2 := HNS.out.ba.lt
    have Bg8 := hide g8b
    clear w3f g8b
    go_upto_region 9 with (fail)
    go_cut [11, 12, 13] from 23 to 109 (fun s8 s9 s10 wx => ZeroCut w3 s8 s9 s10 wx)
    case first =>
      go_region_held3 (fun w' => (∀ c i, c < w3.heap.size → w'.cell? ⟨c, i, none⟩ = w3.cell? ⟨c, i, none⟩) ∧ Fr No w3 w')
          (first
            | with_reducible exact fr_both (Fr.drew (Fr.refl No w3))
            | with_reducible exact fr_both HW2.out
            | with_reducible exact fr_both (Fr.trans (‹_ ∧ Fr No w3 _›).2 ‹Fr No _ _›)
            | with_reducible exact fr_both (Fr.drew (Fr.alloc (Fr.refl No w3) _))
            | with_reducible exact fr_both (Fr.alloc HW2.out _)
            | with_reducible exact fr_both (five_new HW2.out (Nat.le_refl _) _ _ _ _ _))
          (first
            | (go_at_call 30; have hs0 := (‹_ ∧ Fr No w3 _›).2; ((with_reducible refine (hG _ _ ((HNS.out.p0).fr hs0)).mono ?_); rintro e wa ⟨rfl, frA⟩; have HW2 := hide (hs0.trans frA); unfold tripZ; (try (have hbx := box_keptN frA; have HBX := hide hbx; obtain ⟨x0, x1, x2, x3, x4, xf⟩ := hbx.cells5; have q9 := hbx.lt; clear hbx)))))
      all_goals
        go_simp
        go_wp2_with fail
        go_meet
        first
          | with_reducible exact zerocut_after HW2.out
          | with_reducible exact zerocut_before HBX.out HW2.out (Nat.le_refl _)
    obtain ⟨g11, rfl, rfl, rfl, g11b, w4f⟩ := hcut
    obtain ⟨w4, rfl⟩ : ∃ w4 : World, w4 = wc := ⟨_, rfl⟩
    clear k0 k1 k2 k3 k4 v0 v1 v2 v3 v4 a0 a1 q0 q1 q2
    replace HNS := hide (HNS.out.no w4f)
    replace Bg8 := hide (Bg8.out.fr w4f fun h => h)
    obtain ⟨k0, k1, k2, k3, k4, -⟩ := HNS.out.bk.cells5
    obtain ⟨v0, v1, v2, v3, v4, -⟩ := HNS.out.bv.cells5
    obtain ⟨a0, a1⟩ := HNS.out.ba.cells2
    have q0 := HNS.out.bk.lt
    have q1 := HNS.out.bv.lt
    have q2 := HNS.out.ba.lt
    have Bg11 := hide g11b
    clear w4f g11b
    go_wp2_with fail
    go_region_held3 (fun w' => (∀ c i, c < w4.heap.size → w'.cell? ⟨c, i, none⟩ = w4.cell? ⟨c, i, none⟩) ∧ Fr No w4 w')
          (first | with_reducible exact fr_both (Fr.drew (Fr.refl No w4)) | with_reducible exact fr_both (Fr.trans (‹_ ∧ Fr No w4 _›).2 ‹Fr No _ _›))
          (first
            | (go_at_call 35; have hs0 := (‹_ ∧ Fr No w4 _›).2; ((with_reducible refine (hD _ _ ((HNS.out.p0).fr hs0)).mono ?_); rintro e w5 ⟨rfl, frA⟩)))
    have hfr := (‹_ ∧ Fr No w4 w5›).2
    (try rename (∀ c i, _) ∧ Fr No w4 w5 => hold; clear hold)
    clear k0 k1 k2 k3 k4 v0 v1 v2 v3 v4 a0 a1 q0 q1 q2
    replace HNS := hide (HNS.out.no hfr)
    replace Bg8 := hide (Bg8.out.fr hfr fun h => h)
    replace Bg11 := hide (Bg11.out.fr hfr fun h => h)
    obtain ⟨k0, k1, k2, k3, k4, -⟩ := HNS.out.bk.cells5
    obtain ⟨v0, v1, v2, v3, v4, -⟩ := HNS.out.bv.cells5
    obtain ⟨a0, a1⟩ := HNS.out.ba.cells2
    have q0 := HNS.out.bk.lt
    have q1 := HNS.out.bv.lt
    have q2 := HNS.out.ba.lt
    clear hfr frA
    go_wp2_with fail
    refine (hAll _ _).mono ?_
    rintro e w6 ⟨rfl, bAll, frA⟩
    clear k0 k1 k2 k3 k4 v0 v1 v2 v3 v4 a0 a1 q0 q1 q2
    replace HNS := hide (HNS.out.no frA)
    replace Bg8 := hide (Bg8.out.fr frA fun h => h)
    replace Bg11 := hide (Bg11.out.fr frA fun h => h)
    obtain ⟨k0, k1, k2, k3, k4, -⟩ := HNS.out.bk.cells5
    obtain ⟨v0, v1, v2, v3, v4, -⟩ := HNS.out.bv.cells5
    obtain ⟨a0, a1⟩ := HNS.out.ba.cells2
    have q0 := HNS.out.bk.lt
    have q1 := HNS.out.bv.lt
    have q2 := HNS.out.ba.lt
    have bA0 := hide bAll
    clear bAll frA
    obtain ⟨z0, z1, z2, z3, z4, -⟩ := Bg8.out.cells5
    have zq := Bg8.out.lt
    go_wp2_with fail
    refine (hS _).mono ?_
    rintro e w7 ⟨rfl, frA⟩
    clear z0 z1 z2 z3 z4 zq
    clear k0 k1 k2 k3 k4 v0 v1 v2 v3 v4 a0 a1 q0 q1 q2
    replace HNS := hide (HNS.out.no frA)
    replace Bg8 := hide (Bg8.out.fr frA fun h => h)
    replace Bg11 := hide (Bg11.out.fr frA fun h => h)
    replace bA0 := hide (bA0.out.fr frA fun h => h)
    obtain ⟨k0, k1, k2, k3, k4, -⟩ := HNS.out.bk.cells5
    obtain ⟨v0, v1, v2, v3, v4, -⟩ := HNS.out.bv.cells5
    obtain ⟨a0, a1⟩ := HNS.out.ba.cells2
    have q0 := HNS.out.bk.lt
    have q1 := HNS.out.bv.lt
    have q2 := HNS.out.ba.lt
    clear frA
    obtain ⟨z0, z1, z2, z3, z4, -⟩ := Bg11.out.cells5
    have zq := Bg11.out.lt
    go_wp2_with fail
    refine (hS _).mono ?_
    rintro e w8 ⟨rfl, frA⟩
    clear z0 z1 z2 z3 z4 zq
    clear k0 k1 k2 k3 k4 v0 v1 v2 v3 v4 a0 a1 q0 q1 q2
    replace HNS := hide (HNS.out.no frA)
    replace Bg8 := hide (Bg8.out.fr frA fun h => h)
    replace Bg11 := hide (Bg11.out.fr frA fun h => h)
    replace bA0 := hide (bA0.out.fr frA fun h => h)
    obtain ⟨k0, k1, k2, k3, k4, -⟩ := HNS.out.bk.cells5
    obtain ⟨v0, v1, v2, v3, v4, -⟩ := HNS.out.bv.cells5
    obtain ⟨a0, a1⟩ := HNS.out.ba.cells2
    have q0 := HNS.out.bk.lt
    have q1 := HNS.out.bv.lt
    have q2 := HNS.out.ba.lt
    clear frA
    go_wp2_with fail
    refine (hLen _ _ HNS.out.p0).mono ?_
    rintro e wE ⟨rfl, rfl⟩
    go_wp2_with fail
    refine (hC _ _ HNS.out.p0).mono ?_
    rintro e wE ⟨rfl, rfl⟩
    go_wp2_with fail
    refine wp_rangeFunc_none rfl (enters_fn Try.func100 (by kernel_rfl) rfl) ?_ ?_
    · intro l W1 hb
      have fb := Fr.ofBelow hb
      exact All1_no _ ⟨l, rfl⟩ _ _ W1 ((HNS.out.p0).fr fb) (bA0.out.fr fb fun h => h)
    intro D0 w9 hb hd hge
    have frD := Fr.ofBelow hb

    have HGE0 := hide (Nat.le_trans HNS.out.fr.size hge)
    clear hge
    clear k0 k1 k2 k3 k4 v0 v1 v2 v3 v4 a0 a1 q0 q1 q2
    replace HNS := hide (HNS.out.no frD)
    replace Bg8 := hide (Bg8.out.fr frD fun h => h)
    replace Bg11 := hide (Bg11.out.fr frD fun h => h)
    replace bA0 := hide (bA0.out.fr frD fun h => h)
    obtain ⟨k0, k1, k2, k3, k4, -⟩ := HNS.out.bk.cells5
    obtain ⟨v0, v1, v2, v3, v4, -⟩ := HNS.out.bv.cells5
    obtain ⟨a0, a1⟩ := HNS.out.ba.cells2
    have q0 := HNS.out.bk.lt
    have q1 := HNS.out.bv.lt
    have q2 := HNS.out.ba.lt
    have HD0 := hide hd
    clear hb frD hd
    go_wp2_with fail
    rw [rounds_succ]
    go_upto_region 8 with (fail)
    go_cut [8, 9, 10] from 23 to 109 (fun s8 s9 s10 wx => ZeroCut w9 s8 s9 s10 wx)
    case first =>
      go_region_held3 (fun w' => (∀ c i, c < w9.heap.size → w'.cell? ⟨c, i, none⟩ = w9.cell? ⟨c, i, none⟩) ∧ Fr No w9 w')
          (first
            | with_reducible exact fr_both (Fr.drew (Fr.refl No w9))
            | with_reducible exact fr_both HW2.out
            | with_reducible exact fr_both (Fr.trans (‹_ ∧ Fr No w9 _›).2 ‹Fr No _ _›)
            | with_reducible exact fr_both (Fr.drew (Fr.alloc (Fr.refl No w9) _))
            | with_reducible exact fr_both (Fr.alloc HW2.out _)
            | with_reducible exact fr_both (five_new HW2.out (Nat.le_refl _) _ _ _ _ _))
          (first
            | (go_at_call 26; have hs0 := (‹_ ∧ Fr No w9 _›).2; ((with_reducible refine (hP _ _ ((HNS.out.p1).fr hs0)).mono ?_); rintro e wa ⟨rfl, frA⟩; have HW2 := hide (hs0.trans frA); unfold tripZ; (try (have hbx := box_keptN frA; have HBX := hide hbx; obtain ⟨x0, x1, x2, x3, x4, xf⟩ := hbx.cells5; have q9 := hbx.lt; clear hbx)))))
      all_goals
        go_simp
        go_wp2_with fail
        go_meet
        first
          | with_reducible exact zerocut_after HW2.out
          | with_reducible exact zerocut_before HBX.out HW2.out (Nat.le_refl _)
    obtain ⟨h8, rfl, rfl, rfl, h8b, w10f⟩ := hcut
    obtain ⟨w10, rfl⟩ : ∃ w10 : World, w10 = wc := ⟨_, rfl⟩
    clear k0 k1 k2 k3 k4 v0 v1 v2 v3 v4 a0 a1 q0 q1 q2
    replace HNS := hide (HNS.out.no w10f)
    replace Bg8 := hide (Bg8.out.fr w10f fun h => h)
    replace Bg11 := hide (Bg11.out.fr w10f fun h => h)
    replace bA0 := hide (bA0.out.fr w10f fun h => h)
    replace HD0 := hide (def_kept HD0.out w10f)
    obtain ⟨k0, k1, k2, k3, k4, -⟩ := HNS.out.bk.cells5
    obtain ⟨v0, v1, v2, v3, v4, -⟩ := HNS.out.bv.cells5
    obtain ⟨a0, a1⟩ := HNS.out.ba.cells2
    have q0 := HNS.out.bk.lt
    have q1 := HNS.out.bv.lt
    have q2 := HNS.out.ba.lt
    have Bh8 := hide h8b
    clear w10f h8b
    go_upto_region 9 with (fail)
    go_cut [11, 12, 13] from 23 to 109 (fun s8 s9 s10 wx => ZeroCut w10 s8 s9 s10 wx)
    case first =>
      go_region_held3 (fun w' => (∀ c i, c < w10.heap.size → w'.cell? ⟨c, i, none⟩ = w10.cell? ⟨c, i, none⟩) ∧ Fr No w10 w')
          (first
            | with_reducible exact fr_both (Fr.drew (Fr.refl No w10))
            | with_reducible exact fr_both HW2.out
            | with_reducible exact fr_both (Fr.trans (‹_ ∧ Fr No w10 _›).2 ‹Fr No _ _›)
            | with_reducible exact fr_both (Fr.drew (Fr.alloc (Fr.refl No w10) _))
            | with_reducible exact fr_both (Fr.alloc HW2.out _)
            | with_reducible exact fr_both (five_new HW2.out (Nat.le_refl _) _ _ _ _ _))
          (first
            | (go_at_call 30; have hs0 := (‹_ ∧ Fr No w10 _›).2; ((with_reducible refine (hG _ _ ((HNS.out.p1).fr hs0)).mono ?_); rintro e wa ⟨rfl, frA⟩; have HW2 := hide (hs0.trans frA); unfold tripZ; (try (have hbx := box_keptN frA; have HBX := hide hbx; obtain ⟨x0, x1, x2, x3, x4, xf⟩ := hbx.cells5; have q9 := hbx.lt; clear hbx)))))
      all_goals
        go_simp
        go_wp2_with fail
        go_meet
        first
          | with_reducible exact zerocut_after HW2.out
          | with_reducible exact zerocut_before HBX.out HW2.out (Nat.le_refl _)
    obtain ⟨h11, rfl, rfl, rfl, h11b, w11f⟩ := hcut
    obtain ⟨w11, rfl⟩ : ∃ w11 : World, w11 = wc := ⟨_, rfl⟩
    clear k0 k1 k2 k3 k4 v0 v1 v2 v3 v4 a0 a1 q0 q1 q2
    replace HNS := hide (HNS.out.no w11f)
    replace Bg8 := hide (Bg8.out.fr w11f fun h => h)
    replace Bg11 := hide (Bg11.out.fr w11f fun h => h)
    replace bA0 := hide (bA0.out.fr w11f fun h => h)
    replace HD0 := hide (def_kept HD0.out w11f)
    replace Bh8 := hide (Bh8.out.fr w11f fun h => h)
    obtain ⟨k0, k1, k2, k3, k4, -⟩ := HNS.out.bk.cells5
    obtain ⟨v0, v1, v2, v3, v4, -⟩ := HNS.out.bv.cells5
    obtain ⟨a0, a1⟩ := HNS.out.ba.cells2
    have q0 := HNS.out.bk.lt
    have q1 := HNS.out.bv.lt
    have q2 := HNS.out.ba.lt
    have Bh11 := hide h11b
    clear w11f h11b
    go_wp2_with fail
    go_region_held3 (fun w' => (∀ c i, c < w11.heap.size → w'.cell? ⟨c, i, none⟩ = w11.cell? ⟨c, i, none⟩) ∧ Fr No w11 w')
          (first | with_reducible exact fr_both (Fr.drew (Fr.refl No w11)) | with_reducible exact fr_both (Fr.trans (‹_ ∧ Fr No w11 _›).2 ‹Fr No _ _›))
          (first
            | (go_at_call 35; have hs0 := (‹_ ∧ Fr No w11 _›).2; ((with_reducible refine (hD _ _ ((HNS.out.p1).fr hs0)).mono ?_); rintro e w12 ⟨rfl, frA⟩)))
    have hfr := (‹_ ∧ Fr No w11 w12›).2
    (try rename (∀ c i, _) ∧ Fr No w11 w12 => hold; clear hold)
    clear k0 k1 k2 k3 k4 v0 v1 v2 v3 v4 a0 a1 q0 q1 q2
    replace HNS := hide (HNS.out.no hfr)
    replace Bg8 := hide (Bg8.out.fr hfr fun h => h)
    replace Bg11 := hide (Bg11.out.fr hfr fun h => h)
    replace bA0 := hide (bA0.out.fr hfr fun h => h)
    replace HD0 := hide (def_kept HD0.out hfr)
    replace Bh8 := hide (Bh8.out.fr hfr fun h => h)
    replace Bh11 := hide (Bh11.out.fr hfr fun h => h)
    obtain ⟨k0, k1, k2, k3, k4, -⟩ := HNS.out.bk.cells5
    obtain ⟨v0, v1, v2, v3, v4, -⟩ := HNS.out.bv.cells5
    obtain ⟨a0, a1⟩ := HNS.out.ba.cells2
    have q0 := HNS.out.bk.lt
    have q1 := HNS.out.bv.lt
    have q2 := HNS.out.ba.lt
    clear hfr frA
    go_wp2_with fail
    refine (hAll _ _).mono ?_
    rintro e w13 ⟨rfl, bAll, frA⟩
    clear k0 k1 k2 k3 k4 v0 v1 v2 v3 v4 a0 a1 q0 q1 q2
    replace HNS := hide (HNS.out.no frA)
    replace Bg8 := hide (Bg8.out.fr frA fun h => h)
    replace Bg11 := hide (Bg11.out.fr frA fun h => h)
    replace bA0 := hide (bA0.out.fr frA fun h => h)
    replace HD0 := hide (def_kept HD0.out frA)
    replace Bh8 := hide (Bh8.out.fr frA fun h => h)
    replace Bh11 := hide (Bh11.out.fr frA fun h => h)
    obtain ⟨k0, k1, k2, k3, k4, -⟩ := HNS.out.bk.cells5
    obtain ⟨v0, v1, v2, v3, v4, -⟩ := HNS.out.bv.cells5
    obtain ⟨a0, a1⟩ := HNS.out.ba.cells2
    have q0 := HNS.out.bk.lt
    have q1 := HNS.out.bv.lt
    have q2 := HNS.out.ba.lt
    have bA1 := hide bAll
    clear bAll frA
    obtain ⟨z0, z1, z2, z3, z4, -⟩ := Bh8.out.cells5
    have zq := Bh8.out.lt
    go_wp2_with fail
    refine (hS _).mono ?_
    rintro e w14 ⟨rfl, frA⟩
    clear z0 z1 z2 z3 z4 zq
    clear k0 k1 k2 k3 k4 v0 v1 v2 v3 v4 a0 a1 q0 q1 q2
    replace HNS := hide (HNS.out.no frA)
    replace Bg8 := hide (Bg8.out.fr frA fun h => h)
    replace Bg11 := hide (Bg11.out.fr frA fun h => h)
    replace bA0 := hide (bA0.out.fr frA fun h => h)
    replace HD0 := hide (def_kept HD0.out frA)
    replace Bh8 := hide (Bh8.out.fr frA fun h => h)
    replace Bh11 := hide (Bh11.out.fr frA fun h => h)
    replace bA1 := hide (bA1.out.fr frA fun h => h)
    obtain ⟨k0, k1, k2, k3, k4, -⟩ := HNS.out.bk.cells5
    obtain ⟨v0, v1, v2, v3, v4, -⟩ := HNS.out.bv.cells5
    obtain ⟨a0, a1⟩ := HNS.out.ba.cells2
    have q0 := HNS.out.bk.lt
    have q1 := HNS.out.bv.lt
    have q2 := HNS.out.ba.lt
    clear frA
    obtain ⟨z0, z1, z2, z3, z4, -⟩ := Bh11.out.cells5
    have zq := Bh11.out.lt
    go_wp2_with fail
    refine (hS _).mono ?_
    rintro e w15 ⟨rfl, frA⟩
    clear z0 z1 z2 z3 z4 zq
    clear k0 k1 k2 k3 k4 v0 v1 v2 v3 v4 a0 a1 q0 q1 q2
    replace HNS := hide (HNS.out.no frA)
    replace Bg8 := hide (Bg8.out.fr frA fun h => h)
    replace Bg11 := hide (Bg11.out.fr frA fun h => h)
    replace bA0 := hide (bA0.out.fr frA fun h => h)
    replace HD0 := hide (def_kept HD0.out frA)
    replace Bh8 := hide (Bh8.out.fr frA fun h => h)
    replace Bh11 := hide (Bh11.out.fr frA fun h => h)
    replace bA1 := hide (bA1.out.fr frA fun h => h)
    obtain ⟨k0, k1, k2, k3, k4, -⟩ := HNS.out.bk.cells5
    obtain ⟨v0, v1, v2, v3, v4, -⟩ := HNS.out.bv.cells5
    obtain ⟨a0, a1⟩ := HNS.out.ba.cells2
    have q0 := HNS.out.bk.lt
    have q1 := HNS.out.bv.lt
    have q2 := HNS.out.ba.lt
    clear frA
    go_wp2_with fail
    refine (hLen _ _ HNS.out.p1).mono ?_
    rintro e wE ⟨rfl, rfl⟩
    go_wp2_with fail
    refine (hC _ _ HNS.out.p1).mono ?_
    rintro e wE ⟨rfl, rfl⟩
    go_wp2_with fail
    refine wp_rangeFunc_none rfl (enters_fn Try.func100 (by kernel_rfl) rfl) ?_ ?_
    · intro l W1 hb
      have fb := Fr.ofBelow hb
      exact All1_no _ ⟨l, rfl⟩ _ _ W1 ((HNS.out.p1).fr fb) (bA1.out.fr fb fun h => h)
    intro D1 w16 hb hd hge
    have frD := Fr.ofBelow hb
    have HNE := hide (show D0 ≠ D1 from by have := lt_of_heap HD0.out; omega)
    have HGE1 := hide (Nat.le_trans HNS.out.fr.size hge)
    clear hge
    clear k0 k1 k2 k3 k4 v0 v1 v2 v3 v4 a0 a1 q0 q1 q2
    replace HNS := hide (HNS.out.no frD)
    replace Bg8 := hide (Bg8.out.fr frD fun h => h)
    replace Bg11 := hide (Bg11.out.fr frD fun h => h)
    replace bA0 := hide (bA0.out.fr frD fun h => h)
    replace HD0 := hide (def_kept HD0.out frD)
    replace Bh8 := hide (Bh8.out.fr frD fun h => h)
    replace Bh11 := hide (Bh11.out.fr frD fun h => h)
    replace bA1 := hide (bA1.out.fr frD fun h => h)
    obtain ⟨k0, k1, k2, k3, k4, -⟩ := HNS.out.bk.cells5
    obtain ⟨v0, v1, v2, v3, v4, -⟩ := HNS.out.bv.cells5
    obtain ⟨a0, a1⟩ := HNS.out.ba.cells2
    have q0 := HNS.out.bk.lt
    have q1 := HNS.out.bv.lt
    have q2 := HNS.out.ba.lt
    have HD1 := hide hd
    clear hb frD hd
    go_wp2_with fail
    rw [rounds_succ]
    go_wp2_with fail
    refine (hL _).mono ?_
    rintro e wY ⟨rfl, frA⟩
    clear k0 k1 k2 k3 k4 v0 v1 v2 v3 v4 a0 a1 q0 q1 q2
    replace HNS := hide (HNS.out.no frA)
    replace Bg8 := hide (Bg8.out.fr frA fun h => h)
    replace Bg11 := hide (Bg11.out.fr frA fun h => h)
    replace bA0 := hide (bA0.out.fr frA fun h => h)
    replace HD0 := hide (def_kept HD0.out frA)
    replace Bh8 := hide (Bh8.out.fr frA fun h => h)
    replace Bh11 := hide (Bh11.out.fr frA fun h => h)
    replace bA1 := hide (bA1.out.fr frA fun h => h)
    replace HD1 := hide (def_kept HD1.out frA)
    obtain ⟨k0, k1, k2, k3, k4, -⟩ := HNS.out.bk.cells5
    obtain ⟨v0, v1, v2, v3, v4, -⟩ := HNS.out.bv.cells5
    obtain ⟨a0, a1⟩ := HNS.out.ba.cells2
    have q0 := HNS.out.bk.lt
    have q1 := HNS.out.bv.lt
    have q2 := HNS.out.ba.lt
    have hbr := HNS.out.br
    have r0 := hbr.cell 0
    have r1 := hbr.frozen 0
    simp only [List.getElem?_toArray, List.getElem?_cons_zero] at r0
    have hRne : ∀ (D : Nat) (o : Obj), wY.heap[D]? = some o → o.isCells = false → D ≠ w.heap.size + 1 + 1 := by
      rintro D o h1 h2 rfl
      unfold Blk at hbr
      rw [hbr] at h1
      injection h1 with h1
      subst h1
      cases h2
    have HR0 := hide (hRne _ _ HD0.out rfl)
    have HR1 := hide (hRne _ _ HD1.out rfl)
    have HBR := hide hbr
    clear hbr frA hRne
    go_wp2_with fail
    have frF := HNS.out.fr
    have hbF := HBR.out.set_ 0 (.bool true)
    have e1 : (wY.setCell ⟨w.heap.size + 1 + 1, 0, none⟩ (.bool true)).heap[D1]? = some (.deferred (some [])) := (Below.heap_setCell _ _ _ _ HR1.out).trans HD1.out
    have e0 : (wY.setCell ⟨w.heap.size + 1 + 1, 0, none⟩ (.bool true)).heap[D0]? = some (.deferred (some [])) := (Below.heap_setCell _ _ _ _ HR0.out).trans HD0.out
    have frG : Fr No w (wY.setCell ⟨w.heap.size + 1 + 1, 0, none⟩ (.bool true)) := frF.setNew (by simp; omega) _
    generalize World.setCell wY _ _ = wZ at *
    have e0' : (wZ.putObj D1 (.deferred none)).heap[D0]? = some (.deferred (some [])) := (World.putObj_heap_other HNE.out).trans e0
    have hbG : Blk ((wZ.putObj D1 (.deferred none)).putObj D0 (.deferred none)) (w.heap.size + 1 + 1) 4 #[.bool true] := by
      unfold Blk at hbF ⊢
      rw [World.putObj_heap_other (Ne.symm HR0.out), World.putObj_heap_other (Ne.symm HR1.out)]
      simpa using hbF
    refine ⟨by simp, .inl ⟨_, _, rfl, run_takeDeferred e1, ⟨by simp, .inl ⟨_, _, rfl, run_takeDeferred e0', ?_⟩⟩⟩⟩
    have r2 := hbG.cell 0
    simp only [List.getElem?_toArray, List.getElem?_cons_zero] at r2
    refine ⟨.bool true, by simp [results, Try.results7, go_sem, r2], rfl, ?_⟩
    have n1 := HGE1.out
    have n0 := HGE0.out
    exact (frG.putObj (fun h => by omega) _).putObj (fun h => by omega) _

end Go.Proofs.Ytihjmipmjogpoaa

/- posternlaw04.lives. -/
import Derived.Test.YtihjmipmjogpoaaPut3
import Derived.Test.YtihjmipmjogpoaaS1
namespace Go.Proofs.Ytihjmipmjogpoaa
open Go.RowKit

def vOne : V := .mk 1 1 ⟨#[]⟩ [] 0
def vTwo : V := .mk 1 2 ⟨#[]⟩ [] 0
def vW1 : V := .mk 2 0 ⟨#[49]⟩ [] 0
def vWa : V := .mk 2 0 ⟨#[97]⟩ [] 0
def vNil : V := .mk 3 0 ⟨#[]⟩ [] 0
def vPair : V := .mk 3 0 ⟨#[]⟩ [vOne, vTwo] 0

theorem toList0 : (⟨#[]⟩ : ByteArray).toList = [] := by rw [ByteArray.toList_eq]

theorem one_may : vOne.may = true := by simp [vOne, V.may, V.fits, V.ok_mk, V.size_mk, V.dep_mk, fok, toList0, top]
theorem two_may : vTwo.may = true := by simp [vTwo, V.may, V.fits, V.ok_mk, V.size_mk, V.dep_mk, fok, toList0, top]
theorem w1_may : vW1.may = true := by simp [vW1, V.may, V.fits, V.ok_mk, V.size_mk, V.dep_mk, fok, top, ByteArray.size]
theorem wa_may : vWa.may = true := by simp [vWa, V.may, V.fits, V.ok_mk, V.size_mk, V.dep_mk, fok, top, ByteArray.size]
theorem nil_may : vNil.may = true := by simp [vNil, V.may, V.fits, V.ok_mk, V.size_mk, V.dep_mk, fok, toList0, top]
theorem pair_may : vPair.may = true := by simp [vPair, vOne, vTwo, V.may, V.fits, V.ok_mk, V.size_mk, V.dep_mk, fok, toList0, top]
theorem wa_keys : vWa.keys = true := by simp [vWa, V.keys_mk]
theorem nil_keys : vNil.keys = false := by simp [vNil, V.keys_mk]
theorem one_w1 : vOne.cmp vW1 = 0 := by simp [vOne, vW1, V.cmp_mk, cmpOf, shp, leafEq, pairCmp]
theorem pair_pair : vPair.cmp vPair = 1 := by simp [vPair, vOne, vTwo, V.cmp_mk, cmpOf, shp, leafEq, pairCmp]
theorem nil_nil : vNil.cmp vNil = 2 := by simp [vNil, V.cmp_mk, cmpOf, shp, leafEq, pairCmp]

def tLeaf (k n : Int) (s : ByteArray) : T := .mk k n s none 0 [] 0

theorem tLeaf_val (k n : Int) (s : ByteArray) : (tLeaf k n s).val = .agg #[.int .u8 k, .int .i64 n, .string s, .slice none 0 0, .int .i64 0] := rfl
theorem tLeaf_v (k n : Int) (s : ByteArray) : (tLeaf k n s).v = .mk k n s [] 0 := by rw [tLeaf, T.v_mk]; rfl

theorem leaf_in {k n : Int} {s : ByteArray} (h : Fit k n s 0 0 0) (w : World) (lo hi : Nat) : (tLeaf k n s).In w lo hi := by
  rw [tLeaf, T.in_mk]; exact ⟨h, fun h => absurd rfl h, by simp⟩

theorem fit_leaf {k n : Int} {s : ByteArray} (h0 : 0 ≤ k) (h1 : k < 256) (h2 : -100 ≤ n) (h3 : n ≤ 100) (h4 : s.size ≤ 100) : Fit k n s 0 0 0 := by
  refine ⟨h0, h1, by omega, by omega, by omega, by omega, by omega, by omega, ?_⟩
  all_goals omega

def vZ : Value := .slice none 0 0
def cs12 : Array Value := #[.int .u8 1, .int .i64 1, .string ⟨#[]⟩, .slice none 0 0, .int .i64 0, .int .u8 1, .int .i64 2, .string ⟨#[]⟩, .slice none 0 0, .int .i64 0]

theorem pair_in {w : World} {g lo hi : Nat} (h : Blk w g 27 cs12) (h0 : lo ≤ g) (h1 : g < hi) : (T.mk 3 0 ⟨#[]⟩ (some ⟨g, 0, none⟩) 2 [tLeaf 1 1 ⟨#[]⟩, tLeaf 1 2 ⟨#[]⟩] 0).In w lo hi := by
  rw [T.in_mk]
  refine ⟨⟨by omega, by omega, by omega, by omega, by simp [ByteArray.size], by simp, by simp, by omega, by omega⟩, fun _ => ⟨g, 0, rfl, h0, h1, fun i x hx c u hu => ?_⟩, ?_⟩
  · rw [h.cell]
    match i, hx with
    | 0, hx =>
      simp at hx; subst hx
      match c, hu with
      | 0, hu => exact hu
      | 1, hu => exact hu
      | 2, hu => exact hu
      | 3, hu => exact hu
      | 4, hu => exact hu
      | c + 5, hu => simp [tLeaf, T.cells] at hu
    | 1, hx =>
      simp at hx; subst hx
      match c, hu with
      | 0, hu => exact hu
      | 1, hu => exact hu
      | 2, hu => exact hu
      | 3, hu => exact hu
      | 4, hu => exact hu
      | c + 5, hu => simp [tLeaf, T.cells] at hu
    | i + 2, hx => simp at hx
  · intro x hx
    simp at hx
    rcases hx with rfl | rfl
    · exact leaf_in (fit_leaf (by omega) (by omega) (by omega) (by omega) (by simp [ByteArray.size])) _ _ _
    · exact leaf_in (fit_leaf (by omega) (by omega) (by omega) (by omega) (by simp [ByteArray.size])) _ _ _

theorem pair_v (g : Nat) : (T.mk 3 0 ⟨#[]⟩ (some ⟨g, 0, none⟩) 2 [tLeaf 1 1 ⟨#[]⟩, tLeaf 1 2 ⟨#[]⟩] 0).v = vPair := by
  rw [T.v_mk]; simp [tLeaf_v, vPair, vOne, vTwo]

theorem cmp_one_w1 (w : World) : Calls Try.prog 20 #[.agg #[.int .u8 1, .int .i64 1, .string ⟨#[]⟩, .slice none 0 0, .int .i64 0], .agg #[.int .u8 2, .int .i64 0, .string ⟨#[49]⟩, .slice none 0 0, .int .i64 0]] w
    fun e w' => e = .returned (.tuple #[.int .u8 0, .int .i64 0]) ∧ Fr No w w' := by
  have h := Compare_any (tLeaf 1 1 ⟨#[]⟩) (tLeaf 2 0 ⟨#[49]⟩) w 0 0 (leaf_in (fit_leaf (by omega) (by omega) (by omega) (by omega) (by simp [ByteArray.size])) _ _ _) (leaf_in (fit_leaf (by omega) (by omega) (by omega) (by omega) (by simp [ByteArray.size])) _ _ _) (by omega)
  have e1 : (tLeaf 1 1 ⟨#[]⟩).v = vOne := tLeaf_v _ _ _
  have e2 : (tLeaf 2 0 ⟨#[49]⟩).v = vW1 := tLeaf_v _ _ _
  rw [e1, e2] at h
  simpa [V.ans, V.err2, one_may, w1_may, one_w1, tLeaf_val] using h

theorem cmp_nil (w : World) : Calls Try.prog 20 #[.agg #[.int .u8 3, .int .i64 0, .string ⟨#[]⟩, .slice none 0 0, .int .i64 0], .agg #[.int .u8 3, .int .i64 0, .string ⟨#[]⟩, .slice none 0 0, .int .i64 0]] w
    fun e w' => e = .returned (.tuple #[.int .u8 2, .int .i64 0]) ∧ Fr No w w' := by
  have h := Compare_any (tLeaf 3 0 ⟨#[]⟩) (tLeaf 3 0 ⟨#[]⟩) w 0 0 (leaf_in (fit_leaf (by omega) (by omega) (by omega) (by omega) (by simp [ByteArray.size])) _ _ _) (leaf_in (fit_leaf (by omega) (by omega) (by omega) (by omega) (by simp [ByteArray.size])) _ _ _) (by omega)
  have e1 : (tLeaf 3 0 ⟨#[]⟩).v = vNil := tLeaf_v _ _ _
  rw [e1] at h
  simpa [V.ans, V.err2, nil_may, nil_nil, tLeaf_val] using h

theorem cmp_pair (w : World) (g g' : Nat) (h1 : Blk w g 27 cs12) (h2 : Blk w g' 27 cs12) : Calls Try.prog 20 #[.agg #[.int .u8 3, .int .i64 0, .string ⟨#[]⟩, .slice (some ⟨g, 0, none⟩) 2 2, .int .i64 0], .agg #[.int .u8 3, .int .i64 0, .string ⟨#[]⟩, .slice (some ⟨g', 0, none⟩) 2 2, .int .i64 0]] w
    fun e w' => e = .returned (.tuple #[.int .u8 1, .int .i64 0]) ∧ Fr No w w' := by
  have h := Compare_any _ _ w 0 w.heap.size (pair_in h1 (Nat.zero_le _) h1.lt) (pair_in h2 (Nat.zero_le _) h2.lt) (Nat.le_refl _)
  rw [pair_v, pair_v] at h
  simpa [V.ans, V.err2, pair_may, pair_pair, T.val_mk] using h

theorem leaf_blocks (k n : Int) (s : ByteArray) (i : Nat) : ¬ i ∈ (tLeaf k n s).blocks := by
  rw [tLeaf, T.blocks_mk]; simp

theorem put_one (w : World) (lo tb M O : Nat) (hT : Tab w lo w.heap.size tb M O [] 0) :
    Calls Try.prog 26 #[.pointer (some ⟨tb, 0, none⟩), .agg #[.int .u8 2, .int .i64 0, .string ⟨#[97]⟩, .slice none 0 0, .int .i64 0], .agg #[.int .u8 1, .int .i64 1, .string ⟨#[]⟩, .slice none 0 0, .int .i64 0]] w
    fun e w' => e = .returned (tripZ 0) ∧ ∃ x : Ent, x.k.v = vWa ∧ x.v.v = vOne ∧ Tab w' lo w'.heap.size tb M O [x] 1 ∧ Fr (fun i => i = tb ∨ i = M ∨ i = O) w w' := by
  have e1 : (tLeaf 2 0 ⟨#[97]⟩).v = vWa := tLeaf_v _ _ _
  have e2 : (tLeaf 1 1 ⟨#[]⟩).v = vOne := tLeaf_v _ _ _
  have h := Put_new (tLeaf 2 0 ⟨#[97]⟩) (tLeaf 1 1 ⟨#[]⟩) w 0 0 (leaf_in (fit_leaf (by omega) (by omega) (by omega) (by omega) (by simp [ByteArray.size])) _ _ _) (leaf_in (fit_leaf (by omega) (by omega) (by omega) (by omega) (by simp [ByteArray.size])) _ _ _) (Nat.zero_le _) lo tb M O [] 0 hT (by simp [leaf_blocks]) (by rw [e1]; exact wa_may) (by rw [e2]; exact one_may) (by rw [e1]; exact wa_keys) (by simp [pos]) (by omega)
  rw [e1, e2, tLeaf_val, tLeaf_val] at h
  refine h.mono ?_
  rintro e w' ⟨rfl, x, h1, h2, -, h3, h4, -⟩
  exact ⟨rfl, x, h1, h2, by simpa using h3, h4⟩

theorem put_two (w : World) (lo tb M O : Nat) (x : Ent) (hT : Tab w lo w.heap.size tb M O [x] 1) (hk : x.k.v = vWa) (hv : x.v.v = vOne) :
    Calls Try.prog 26 #[.pointer (some ⟨tb, 0, none⟩), .agg #[.int .u8 2, .int .i64 0, .string ⟨#[97]⟩, .slice none 0 0, .int .i64 0], .agg #[.int .u8 1, .int .i64 2, .string ⟨#[]⟩, .slice none 0 0, .int .i64 0]] w
    fun e w' => (∃ A cap, e = .returned (.tuple #[.agg #[.int .u8 1, .int .i64 1, .string ⟨#[]⟩, .slice A 0 cap, .int .i64 0], .bool true, .int .i64 0]) ∧ (T.mk 1 1 ⟨#[]⟩ A cap [] 0).In w' 0 w'.heap.size) ∧
      (∃ y : Ent, Tab w' lo w'.heap.size tb M O [y] 1) ∧ Fr (fun i => i = M) w w' := by
  have e1 : (tLeaf 2 0 ⟨#[97]⟩).v = vWa := tLeaf_v _ _ _
  have e2 : (tLeaf 1 2 ⟨#[]⟩).v = vTwo := tLeaf_v _ _ _
  have hw : vWa.cmp vWa = 1 := by simp [vWa, V.cmp_mk, cmpOf, shp, leafEq]
  have h := Put_old (tLeaf 2 0 ⟨#[97]⟩) (tLeaf 1 2 ⟨#[]⟩) w 0 0 (leaf_in (fit_leaf (by omega) (by omega) (by omega) (by omega) (by simp [ByteArray.size])) _ _ _) (leaf_in (fit_leaf (by omega) (by omega) (by omega) (by omega) (by simp [ByteArray.size])) _ _ _) (Nat.zero_le _) lo tb M O [x] 1 hT (by simp [leaf_blocks]) (by rw [e1]; exact wa_may) (by rw [e2]; exact two_may) (by rw [e1]; exact wa_keys) (i := 0) (x := x) (by rw [e1]; simp [pos, hk, hw]) rfl
  rw [e2, tLeaf_val, tLeaf_val] at h
  refine h.mono ?_
  rintro e w' ⟨rfl, v', h1, h2, h3, -, h4, -⟩
  obtain ⟨xk, ⟨k, n, s, A, cap, l, r⟩, c⟩ := x
  simp only at hv
  rw [T.v_mk, vOne] at hv
  injection hv with q1 q2 q3 q4 q5
  subst q1 q2 q3 q5
  simp at q4
  subst q4
  exact ⟨⟨A, cap, rfl, T.In.more (Nat.zero_le _) (Nat.le_refl _) _ h3.inn⟩, ⟨_, by simpa using h2⟩, h4⟩

theorem put_nil (w : World) (lo tb M O : Nat) (y : Ent) (hT : Tab w lo w.heap.size tb M O [y] 1) :
    Calls Try.prog 26 #[.pointer (some ⟨tb, 0, none⟩), .agg #[.int .u8 3, .int .i64 0, .string ⟨#[]⟩, .slice none 0 0, .int .i64 0], .agg #[.int .u8 1, .int .i64 2, .string ⟨#[]⟩, .slice none 0 0, .int .i64 0]] w
    fun e w' => e = .returned (tripZ 40) ∧ Fr No w w' := by
  have e1 : (tLeaf 3 0 ⟨#[]⟩).v = vNil := tLeaf_v _ _ _
  have e2 : (tLeaf 1 2 ⟨#[]⟩).v = vTwo := tLeaf_v _ _ _
  have hp : putErr vNil vTwo = 40 := by simp [putErr, nil_may, two_may, nil_keys]
  have h := Put_err (tLeaf 3 0 ⟨#[]⟩) (tLeaf 1 2 ⟨#[]⟩) w 0 0 (leaf_in (fit_leaf (by omega) (by omega) (by omega) (by omega) (by simp [ByteArray.size])) _ _ _) (leaf_in (fit_leaf (by omega) (by omega) (by omega) (by omega) (by simp [ByteArray.size])) _ _ _) (Nat.zero_le _) tb M O _ hT.blk (by rw [e1, e2, hp]; decide)
  rw [e1, e2, hp, tLeaf_val, tLeaf_val] at h
  exact h

theorem same_old (A : Option Addr) (cap hi : Nat) (w : World) (h : (T.mk 1 1 ⟨#[]⟩ A cap [] 0).In w 0 hi) (hh : hi ≤ w.heap.size) :
    Calls Try.prog 37 #[.agg #[.int .u8 1, .int .i64 1, .string ⟨#[]⟩, .slice A 0 cap, .int .i64 0], .agg #[.int .u8 1, .int .i64 1, .string ⟨#[]⟩, .slice none 0 0, .int .i64 0]] w
    fun e w' => e = .returned (.bool true) ∧ Fr No w w' := by
  have h := same_any (T.mk 1 1 ⟨#[]⟩ A cap [] 0) (tLeaf 1 1 ⟨#[]⟩) w 0 hi 0 0 h hh (leaf_in (fit_leaf (by omega) (by omega) (by omega) (by omega) (by simp [ByteArray.size])) _ _ _) (Nat.zero_le _)
  rw [T.val_mk, tLeaf_val] at h
  refine h.mono ?_
  rintro e w' ⟨q, rfl, hq, fr⟩
  obtain rfl : q = true := hq.2 (by rw [T.v_mk, tLeaf_v]; rfl)
  exact ⟨rfl, fr⟩

theorem len_one (w : World) (lo hi tb M O : Nat) (y : Ent) (h : Tab w lo hi tb M O [y] 1) :
    Calls Try.prog 28 #[.pointer (some ⟨tb, 0, none⟩)] w fun e w' => e = .returned (.int .i64 1) ∧ w' = w := by
  simpa using Len_any w lo hi tb M O [y] 1 h

set_option maxRecDepth 100000 in
set_option maxHeartbeats 4000000 in
theorem lives_any (w : World) : Calls Try.prog 19 #[] w fun e w' => e = .returned (.bool true) ∧ Fr No w w' := by
  go_enter Try.func19, Try.ntmps19
  go_wp2_with fail
  refine (number_any 1 w).mono ?_
  rintro e w1 ⟨rfl, fr1, -⟩
  go_wp2_with fail
  refine (word_any _ w1).mono ?_
  rintro e w2 ⟨rfl, fr2, -⟩
  go_wp2_with fail
  refine (cmp_one_w1 w2).mono ?_
  rintro e w3 ⟨rfl, fr3⟩
  have f3 := (fr1.trans fr2).trans fr3
  clear fr1 fr2 fr3
  go_wp2_with fail
  refine (number_any 1 w3).mono ?_
  rintro e w4 ⟨rfl, fr4, -⟩
  go_wp2_with fail
  refine (number_any 2 w4).mono ?_
  rintro e w5 ⟨rfl, fr5, -⟩
  have f5 := (f3.trans fr4).trans fr5
  clear f3 fr4 fr5
  go_wp2_with fail
  have hB6 : Blk (w5.alloc (.cells cs12 27)) w5.heap.size 27 cs12 := Blk.new w5 27 cs12
  have f6 := f5.alloc (.cells cs12 27)
  unfold cs12 at hB6 f6
  generalize World.alloc w5 _ = w6 at *
  refine (list_any _ 2 2 w6).mono ?_
  rintro e w7 ⟨rfl, fr7, -⟩
  go_wp2_with fail
  refine (number_any 1 w7).mono ?_
  rintro e w8 ⟨rfl, fr8, -⟩
  go_wp2_with fail
  refine (number_any 2 w8).mono ?_
  rintro e w9 ⟨rfl, fr9, -⟩
  go_wp2_with fail
  have hB9 := ((hB6.fr fr7 (fun h => h)).fr fr8 (fun h => h)).fr fr9 (fun h => h)
  have hB10 := hB9.alloc (.cells cs12 27)
  have hC10 : Blk (w9.alloc (.cells cs12 27)) w9.heap.size 27 cs12 := Blk.new w9 27 cs12
  have f10 := (((f6.trans fr7).trans fr8).trans fr9).alloc (.cells cs12 27)
  unfold cs12 at hB10 hC10 f10
  generalize World.alloc w9 _ = w10 at *
  clear hB9 f5 f6 fr7 fr8 fr9 hB6
  refine (list_any _ 2 2 w10).mono ?_
  rintro e w11 ⟨rfl, fr11, -⟩
  go_wp2_with fail
  refine (cmp_pair w11 _ _ (hB10.fr fr11 (fun h => h)) (hC10.fr fr11 (fun h => h))).mono ?_
  rintro e w12 ⟨rfl, fr12⟩
  have f12 := (f10.trans fr11).trans fr12
  clear f10 fr11 fr12 hB10 hC10
  go_wp2_with fail
  refine (list_any none 0 0 w12).mono ?_
  rintro e w13 ⟨rfl, fr13, -⟩
  go_wp2_with fail
  refine (list_any none 0 0 w13).mono ?_
  rintro e w14 ⟨rfl, fr14, -⟩
  go_wp2_with fail
  refine (cmp_nil w14).mono ?_
  rintro e w15 ⟨rfl, fr15⟩
  have f15 := ((f12.trans fr13).trans fr14).trans fr15
  clear f12 fr13 fr14 fr15
  go_wp2_with fail
  refine (New_any w15).mono ?_
  rintro e w16 ⟨tb, rfl, hT, fr16⟩
  have f16 := f15.trans fr16
  have HLO := hide f15.size
  clear f15
  go_wp2_with fail
  refine (word_any _ w16).mono ?_
  rintro e w17 ⟨rfl, fr17, -⟩
  go_wp2_with fail
  refine (number_any 1 w17).mono ?_
  rintro e w18 ⟨rfl, fr18, -⟩
  have hT1 := (hT.no (fr17.trans fr18) (Nat.le_refl _)).more (Nat.le_refl _) (fr17.trans fr18).size
  have f18 := (f16.trans fr17).trans fr18
  clear hT fr16 fr17 fr18 f16
  go_wp2_with fail
  have hlo : w.heap.size ≤ w15.heap.size := HLO.out
  refine (put_one w18 _ _ _ _ hT1).mono ?_
  rintro e w19 ⟨rfl, x, hx1, hx2, hT2, fr19⟩
  have g1 := hT1.tb0
  have g2 := hT1.m0
  have g3 := hT1.o0
  have f19 : Fr No w w19 := f18.trans' fr19 (fun i hi h => by omega)
  clear f18 fr19 hT1 hlo
  unfold tripZ
  go_wp2_with fail
  have fz := (Fr.refl No w19).alloc (.cells #[.int .u8 0, .int .i64 0, .string ⟨#[]⟩, .slice none 0 0, .int .i64 0] 27)
  generalize World.alloc w19 _ = w20 at *
  refine (word_any _ w20).mono ?_
  rintro e w21 ⟨rfl, fr21, -⟩
  go_wp2_with fail
  refine (number_any 2 w21).mono ?_
  rintro e w22 ⟨rfl, fr22, -⟩
  have fzz := (fz.trans fr21).trans fr22
  have hT3 := (hT2.no fzz (Nat.le_refl _)).more (Nat.le_refl _) fzz.size
  have f22 := f19.trans fzz
  clear fz fr21 fr22 fzz f19 hT2
  go_wp2_with fail
  refine (put_two w22 _ _ _ _ x hT3 hx1 hx2).mono ?_
  rintro e w23 ⟨⟨A1, cap1, rfl, hold⟩, ⟨z, hT4⟩, fr23⟩
  have hlo : w.heap.size ≤ w15.heap.size := HLO.out
  have f23 : Fr No w w23 := f22.trans' fr23 (fun i hi h => by have h' : i = _ := h; omega)
  clear f22 fr23 hT3 hlo hx1 hx2
  go_wp2_with fail
  have fz := (Fr.refl No w23).alloc (.cells #[.int .u8 1, .int .i64 1, .string ⟨#[]⟩, .slice A1 0 cap1, .int .i64 0] 27)
  have hQ : Blk (w23.alloc (.cells #[.int .u8 1, .int .i64 1, .string ⟨#[]⟩, .slice A1 0 cap1, .int .i64 0] 27)) w23.heap.size 27 #[.int .u8 1, .int .i64 1, .string ⟨#[]⟩, .slice A1 0 cap1, .int .i64 0] := Blk.new _ _ _
  generalize World.alloc w23 _ = w24 at *
  refine (list_any none 0 0 w24).mono ?_
  rintro e w25 ⟨rfl, fr25, -⟩
  go_wp2_with fail
  refine (number_any 2 w25).mono ?_
  rintro e w26 ⟨rfl, fr26, -⟩
  have fzz := (fz.trans fr25).trans fr26
  have hT5 := (hT4.no fzz (Nat.le_refl _)).more (Nat.le_refl _) fzz.size
  have hQ2 := (hQ.fr fr25 (fun h => h)).fr fr26 (fun h => h)
  have f26 := f23.trans fzz
  have hold2 := hold.no fzz (Nat.le_refl _)
  have hs26 := fzz.size
  clear fz fr25 fr26 fzz f23 hT4 hQ hold
  go_wp2_with fail
  refine (put_nil w26 _ _ _ _ z hT5).mono ?_
  rintro e w27 ⟨rfl, fr27⟩
  have hT6 := (hT5.no fr27 (Nat.le_refl _)).more (Nat.le_refl _) fr27.size
  have hQ3 := hQ2.fr fr27 (fun h => h)
  have f27 := f26.trans fr27
  have hold3 := hold2.no fr27 hs26
  have hs27 := Nat.le_trans hs26 fr27.size
  clear f26 fr27 hT5 hQ2 hold2 hs26
  unfold tripZ
  go_wp2_with fail
  have fz := (Fr.refl No w27).alloc (.cells #[.int .u8 0, .int .i64 0, .string ⟨#[]⟩, .slice none 0 0, .int .i64 0] 27)
  generalize World.alloc w27 _ = w28 at *
  have hT7 := (hT6.no fz (Nat.le_refl _))
  obtain ⟨d0, d1, d2, d3, d4, df⟩ := (hQ3.fr fz (fun h => h)).cells5
  have hlt := Nat.lt_of_lt_of_le hQ3.lt fz.size
  have hold4 := hold3.no fz hs27
  have hs28 := Nat.le_trans hs27 fz.size
  have h728 := fz.size
  have f28 := hide (f27.trans fz)
  clear f27 fz hT6 hQ3 hold3 hs27
  go_region_held3 (fun w' => (∀ c i, c < w28.heap.size → w'.cell? ⟨c, i, none⟩ = w28.cell? ⟨c, i, none⟩) ∧ Fr No w28 w')
    (first | exact ⟨fun _ _ _ => rfl, Fr.drew (Fr.refl No w28)⟩ | exact ‹_ ∧ Fr No w28 _› | (have hq : Fr No w28 _ := (‹_ ∧ Fr No w28 _›).2.trans ‹Fr No _ _›; exact ⟨hq.cells, hq⟩))
    (first
      | (go_at_call 80; (with_reducible refine (number_any 1 _).mono ?_); rintro e wa ⟨rfl, fra, -⟩)
      | (go_at_call 28; have hs0 := (‹_ ∧ Fr No w28 _›).2; ((with_reducible refine (len_one _ _ _ _ _ _ z (hT7.no hs0 h728)).mono ?_); rintro e wc ⟨rfl, rfl⟩))
      | (go_at_call 37; have hs0 := (‹_ ∧ Fr No w28 _›).2; ((with_reducible refine (same_old A1 cap1 _ _ (hold4.no hs0 hs28) (Nat.le_trans hs28 hs0.size)).mono ?_); rintro e wb ⟨rfl, frb⟩)))
  all_goals
    go_wp2
    go_ret
    exact ⟨rfl, f28.out.trans (‹_ ∧ Fr No w28 _›).2⟩

end Go.Proofs.Ytihjmipmjogpoaa

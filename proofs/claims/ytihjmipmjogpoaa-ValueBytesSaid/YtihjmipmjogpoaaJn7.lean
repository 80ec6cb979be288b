/- Texts joined: E6, Q1, Z5, P1. -/
import Derived.Test.YtihjmipmjogpoaaJn6
/- Chapter 2: At. -/
namespace Go.Proofs.Ytihjmipmjogpoaa
open Go.RowKit

/-- What At answers: the part, the error. -/
def atOf (v : V) (p : List Int) : V × Int := if v.may = true then (match vAt p v with | some x => (x, 0) | none => (V.zero, 22)) else (V.zero, 2)

set_option maxRecDepth 100000 in
set_option maxHeartbeats 4000000 in
theorem At_any (t : T) (w : World) (lo hi : Nat) (ht : t.In w lo hi) (hh : hi ≤ w.heap.size) (A : Option Addr) (cap : Nat) (p : List Int) (lo' hi' : Nat) (hp : Ints w lo' hi' A cap p) (hh' : hi' ≤ w.heap.size) :
    Calls Try.prog 68 #[t.val, .slice A p.length cap] w (OwnE (atOf t.v p).1 (atOf t.v p).2 w) := by
  have hM := fun w' h h' => may_any t w' lo hi h h'
  have hF := fun w' h h' h1 h2 => find2_any t w' lo hi h h' A cap p lo' hi' h1 h2
  have hO := own_any
  cases t with
  | mk k n s A1 cap1 l r =>
    rw [T.val_mk] at *
    generalize hu : (T.mk k n s A1 cap1 l r).v = u at *
    have fr1 : Fr No w ((w.alloc (.cells #[.int .u8 k, .int .i64 n, .string s, .slice A1 l.length cap1, .int .i64 r] 27)).alloc (.cells #[.int .u8 0, .int .i64 0, .string ⟨#[]⟩, .slice none 0 0, .int .i64 0] 27)) := ((Fr.refl No w).alloc _).alloc _
    have hK : Blk ((w.alloc (.cells #[.int .u8 k, .int .i64 n, .string s, .slice A1 l.length cap1, .int .i64 r] 27)).alloc (.cells #[.int .u8 0, .int .i64 0, .string ⟨#[]⟩, .slice none 0 0, .int .i64 0] 27)) w.heap.size 27 #[.int .u8 k, .int .i64 n, .string s, .slice A1 l.length cap1, .int .i64 r] := (Blk.new' w 27 _ rfl).alloc _
    have hZ : Blk ((w.alloc (.cells #[.int .u8 k, .int .i64 n, .string s, .slice A1 l.length cap1, .int .i64 r] 27)).alloc (.cells #[.int .u8 0, .int .i64 0, .string ⟨#[]⟩, .slice none 0 0, .int .i64 0] 27)) (w.heap.size + 1) 27 #[.int .u8 0, .int .i64 0, .string ⟨#[]⟩, .slice none 0 0, .int .i64 0] := Blk.new' (w.alloc _) 27 _ (by simp)
    have ht1 := ht.no fr1 hh
    have hp1 := hp.no fr1 hh'
    have hs0 : w.heap.size + 2 ≤ ((w.alloc (.cells #[.int .u8 k, .int .i64 n, .string s, .slice A1 l.length cap1, .int .i64 r] 27)).alloc (.cells #[.int .u8 0, .int .i64 0, .string ⟨#[]⟩, .slice none 0 0, .int .i64 0] 27)).heap.size := by simp
    have HU := hide hu
    clear hu ht hp
    cases hm : u.may with
    | false =>
      have e1 : atOf u p = (V.zero, 2) := by simp [atOf, hm]
      rw [e1]
      rw [hm] at hM
      clear hm e1 hF
      go_enter Try.func68, Try.ntmps68
      go_wp2_with fail
      generalize World.alloc _ (.cells #[.int .u8 0, .int .i64 0, .string ⟨#[]⟩, .slice none 0 0, .int .i64 0] 27) = W0 at *
      refine (hM _ ht1 (by omega)).mono ?_
      rintro e w2 ⟨rfl, fr2⟩
      have hZ2 := hZ.fr fr2 fun h => h
      obtain ⟨d0, d1, d2, d3, d4, df⟩ := hZ2.cells5
      have q0 := hZ2.lt
      have HF := hide (fr1.trans fr2)
      clear fr1 fr2 hK hZ hZ2 hM
      go_wp2
      refine bodyPost_ret (v := .tuple #[.agg #[.int .u8 0, .int .i64 0, .string ⟨#[]⟩, .slice none 0 0, .int .i64 0], .int .i64 2]) (by simp [results, Try.results68, go_sem, *]) rfl ?_
      have hF2 := HF.out
      refine ⟨T.zero, rfl, T.zero_v, T.zero_ow _ _ _, ?_⟩
      repeat (first | with_reducible exact hF2 | with_reducible refine Fr.setNew ?_ (by first | (simp; done) | (simp; omega)) _)
    | true =>
      have e1 : atOf u p = (match vAt p u with | some x => (x, 0) | none => (V.zero, 22)) := by simp [atOf, hm]
      have E1 := hide e1
      rw [hm] at hM
      clear hm e1
      go_enter Try.func68, Try.ntmps68
      go_wp2_with fail
      generalize World.alloc _ (.cells #[.int .u8 0, .int .i64 0, .string ⟨#[]⟩, .slice none 0 0, .int .i64 0] 27) = W0 at *
      refine (hM _ ht1 (by omega)).mono ?_
      rintro e w2 ⟨rfl, fr2⟩
      have hZ2 := hZ.fr fr2 fun h => h
      obtain ⟨c0, c1, c2, c3, c4, cf⟩ := (hK.fr fr2 fun h => h).cells5
      have ht2 := ht1.no fr2 (by omega)
      have hp2 := hp1.no fr2 (by omega)
      have hs2 := fr2.size
      have HF := hide (fr1.trans fr2)
      clear fr1 fr2 hK hZ hM
      go_wp2_with fail
      refine (hF _ ht2 (by omega) hp2 (by omega)).mono ?_
      rintro e w3 ⟨fr3, hP⟩
      have hZ3 := hZ2.fr fr3 fun h => h
      have hs3 := fr3.size
      have HF3 := hide (HF.out.trans fr3)
      clear c0 c1 c2 c3 c4 cf hF hZ2 fr3
      rcases hP with ⟨⟨k2, n2, s2, A2, cap2, l2, r2⟩, rfl, hv, hin⟩ | ⟨rfl, hv⟩
      · have e2 : atOf u p = ((T.mk k2 n2 s2 A2 cap2 l2 r2).v, 0) := by rw [E1.out, hv]
        have E2 := hide e2
        rw [T.val_mk]
        have frB := (Fr.refl No w3).alloc (.cells #[.int .u8 k2, .int .i64 n2, .string s2, .slice A2 l2.length cap2, .int .i64 r2] 27)
        have hinB := hin.no frB (by omega)
        have hO1 := hO (T.mk k2 n2 s2 A2 cap2 l2 r2) (w3.alloc (.cells #[.int .u8 k2, .int .i64 n2, .string s2, .slice A2 l2.length cap2, .int .i64 r2] 27)) lo hi hinB (Nat.le_trans (by omega) frB.size)
        rw [T.val_mk] at hO1
        have HO := hide hO1
        have HZB := hide (hZ3.alloc (.cells #[.int .u8 k2, .int .i64 n2, .string s2, .slice A2 l2.length cap2, .int .i64 r2] 27))
        have HFB := hide (HF3.out.alloc (.cells #[.int .u8 k2, .int .i64 n2, .string s2, .slice A2 l2.length cap2, .int .i64 r2] 27))
        have hsB : w.heap.size + 2 ≤ (w3.alloc (.cells #[.int .u8 k2, .int .i64 n2, .string s2, .slice A2 l2.length cap2, .int .i64 r2] 27)).heap.size := by simp; omega
        have HSB := hide hsB
        clear e2 hv hin frB hinB hO1 hZ3 hO hsB
        go_wp2_with fail
        refine HO.out.mono ?_
        rintro e w4 ⟨⟨k3, n3, s3, A3, cap3, l3, r3⟩, rfl, hv3, how, fr4⟩
        rw [T.val_mk]
        have hZ4 := HZB.out.fr fr4 fun h => h
        obtain ⟨d0, d1, d2, d3, d4, df⟩ := hZ4.cells5
        have q0 := hZ4.lt
        have HF4 := hide (HFB.out.trans fr4)
        have HV3 := hide hv3
        have HOW := hide how
        have hs5 := HSB.out
        have hs6 := fr4.size
        clear hZ4 fr4 hv3 how
        go_wp2
        refine bodyPost_ret (v := .tuple #[.agg #[.int .u8 k3, .int .i64 n3, .string s3, .slice A3 l3.length cap3, .int .i64 r3], .int .i64 0]) (by simp [results, Try.results68, go_sem, *]) rfl ?_
        have hF2 := HF4.out
        have hO2 := HOW.out
        refine ⟨T.mk k3 n3 s3 A3 cap3 l3 r3, by rw [E2.out]; rfl, by rw [E2.out]; exact HV3.out, ?_, ?_⟩
        · refine ((hO2.fr (S := (· = w.heap.size + 1)) ?_ (Nat.le_refl _) (fun i h0 h1 h2 => by have h' : i = w.heap.size + 1 := h2; omega)).more (by omega) (by simp))
          repeat (first | with_reducible exact Fr.refl _ w4 | with_reducible refine Fr.set ?_ (by simp) _)
        · repeat (first | with_reducible exact hF2 | with_reducible refine Fr.setNew ?_ (by first | (simp; done) | (simp; omega)) _)
      · have e2 : atOf u p = (V.zero, 22) := by rw [E1.out, hv]
        have E2 := hide e2
        clear e2 hv hO
        have HZ3 := hide (hZ3.alloc (.cells #[.int .u8 0, .int .i64 0, .string ⟨#[]⟩, .slice none 0 0, .int .i64 0] 27))
        obtain ⟨d0, d1, d2, d3, d4, df⟩ := hZ3.cells5
        have q0 := hZ3.lt
        clear hZ3
        go_wp2
        refine bodyPost_ret (v := .tuple #[.agg #[.int .u8 0, .int .i64 0, .string ⟨#[]⟩, .slice none 0 0, .int .i64 0], .int .i64 22]) (by simp [results, Try.results68, go_sem, *]) rfl ?_
        have hF2 := HF3.out
        refine ⟨T.zero, by rw [E2.out]; rfl, by rw [E2.out]; exact T.zero_v, T.zero_ow _ _ _, ?_⟩
        repeat (first | with_reducible exact hF2 | with_reducible refine Fr.setNew ?_ (by first | (simp; done) | (simp; omega)) _ | with_reducible refine Fr.alloc ?_ _)

end Go.Proofs.Ytihjmipmjogpoaa

/- Chapter 2: the bytes of a value, there and back; the order. Plain laws, no program in sight. -/
namespace Go.Proofs.Ytihjmipmjogpoaa
open Go.RowKit


/-! ### Rows of bytes -/
def ofB (l : List Nat) : ByteArray := ⟨(l.map UInt8.ofNat).toArray⟩

theorem ba_ext {a b : ByteArray} (h : a.data.toList = b.data.toList) : a = b := by
  cases a; cases b; simp at h; exact congrArg ByteArray.mk h

theorem ofB_data (l : List Nat) : (ofB l).data.toList = l.map UInt8.ofNat := rfl
theorem ofB_nil : ofB [] = ⟨#[]⟩ := rfl
theorem ofB_append (a b : List Nat) : ofB (a ++ b) = ofB a ++ ofB b := by
  apply ba_ext; simp [ofB, ByteArray.data_append]
theorem ofB_size (l : List Nat) : (ofB l).size = l.length := by simp [ofB, ByteArray.size]
theorem strB_ofB {l : List Nat} (h : ∀ x ∈ l, x < 256) : strB (ofB l) = l := by
  unfold strB ofB
  simp only [List.map_map]
  rw [List.map_congr_left (g := id) (fun x hx => by simp [Nat.mod_eq_of_lt (h x hx)])]
  simp
theorem ofB_strB (s : ByteArray) : ofB (strB s) = s := by
  apply ba_ext
  have h : (UInt8.ofNat ∘ UInt8.toNat) = id := by funext x; simp
  simp [ofB, strB, h]
theorem encS_eq (v : V) : v.encS = ofB v.enc := by
  unfold V.encS strOfNums ofB
  simp [Function.comp_def]

theorem app_assoc (a b c : ByteArray) : a ++ b ++ c = a ++ (b ++ c) := by
  apply ba_ext; simp [ByteArray.data_append]

theorem app_nil (a : ByteArray) : a ++ ⟨#[]⟩ = a := by
  apply ba_ext; simp [ByteArray.data_append]

theorem nil_app (a : ByteArray) : (⟨#[]⟩ : ByteArray) ++ a = a := by
  apply ba_ext; simp [ByteArray.data_append]

theorem ext_left (a b : ByteArray) (n : Nat) (h : a.size = n) : (a ++ b).extract 0 n = a := by
  apply ba_ext
  have h' : a.data.toList.length = n := by rw [Array.length_toList]; exact h
  simp only [ByteArray.data_extract, ByteArray.data_append, Array.toList_extract, Array.toList_append, List.extract_eq_take_drop, List.drop_zero, Nat.sub_zero]
  rw [List.take_append_of_le_length (by omega), List.take_of_length_le (by omega)]

theorem ext_right (a b : ByteArray) (n : Nat) (h : a.size = n) : (a ++ b).extract n (a ++ b).size = b := by
  apply ba_ext
  have h' : a.data.toList.length = n := by rw [Array.length_toList]; exact h
  have h2 : (a ++ b).size = a.data.toList.length + b.data.toList.length := by
    rw [show (a ++ b).size = (a ++ b).data.toList.length from by rw [Array.length_toList]; rfl, ByteArray.data_append]; simp
  rw [h2]
  simp only [ByteArray.data_extract, ByteArray.data_append, Array.toList_extract, Array.toList_append, List.extract_eq_take_drop]
  rw [List.drop_append_of_le_length (by omega), List.drop_of_length_le (by omega), List.nil_append, List.take_of_length_le (by omega)]

theorem app_size (a b : ByteArray) : (a ++ b).size = a.size + b.size := by
  rw [show (a ++ b).size = (a ++ b).data.toList.length from by rw [Array.length_toList]; rfl, ByteArray.data_append, Array.toList_append, List.length_append, Array.length_toList, Array.length_toList]
  rfl

theorem ext_all (s : ByteArray) (n : Nat) (h : n ≤ s.size) : s.extract 0 n ++ s.extract n s.size = s := by
  apply ba_ext
  have h' : s.data.toList.length = s.size := by rw [Array.length_toList]; rfl
  simp only [ByteArray.data_extract, ByteArray.data_append, Array.toList_extract, Array.toList_append, List.extract_eq_take_drop, List.drop_zero, Nat.sub_zero]
  rw [List.take_of_length_le (l := List.drop n s.data.toList) (by simp), List.take_append_drop]

/-! ### Numbers by bytes -/
theorem foldl_big (l : List Nat) : ∀ a : Nat, l.foldl (fun a x => a * 256 + x) a = a * 256 ^ l.length + bigN l := by
  induction l with
  | nil => intro a; simp [bigN]
  | cons x l ih =>
    intro a
    simp only [List.foldl_cons, List.length_cons, bigN]
    rw [ih (a * 256 + x), ih (0 * 256 + x), Nat.zero_mul, Nat.zero_add, Nat.add_mul, Nat.pow_succ, Nat.mul_assoc a 256, Nat.mul_comm 256, Nat.add_assoc]

theorem bigN_cons (x : Nat) (l : List Nat) : bigN (x :: l) = x * 256 ^ l.length + bigN l := by
  show (x :: l).foldl (fun a x => a * 256 + x) 0 = _
  rw [List.foldl_cons, foldl_big, Nat.zero_mul, Nat.zero_add]

theorem p256 (j : Nat) : 2 ^ (8 * j) = 256 ^ j := by rw [Nat.pow_mul]

theorem bigN_hiB (n j : Nat) : bigN (hiB n j) = n % 256 ^ j := by
  induction j with
  | zero => simp [hiB, bigN, Nat.mod_one]
  | succ j ih =>
    rw [hiB, bigN_cons, hiB_length, ih, p256, Nat.pow_succ, Nat.mul_comm (256 ^ j) 256, Nat.mul_comm 256, Nat.mod_mul, Nat.mul_comm, Nat.add_comm]

theorem hiB_lt (n j : Nat) : ∀ x ∈ hiB n j, x < 256 := by
  induction j with
  | zero => simp [hiB]
  | succ j ih => intro x hx; rw [hiB] at hx; rcases List.mem_cons.1 hx with rfl | hx; exact Nat.mod_lt _ (by decide); exact ih x hx

theorem hiB_mod (n m j : Nat) (h : n % 256 ^ j = m % 256 ^ j) : hiB n j = hiB m j := by
  induction j with
  | zero => rfl
  | succ j ih =>
    have h1 : n % 256 ^ j = m % 256 ^ j := by
      have := congrArg (· % 256 ^ j) h
      simpa [Nat.pow_succ, Nat.mod_mul_right_mod] using this
    rw [hiB, hiB, ih h1, p256]
    congr 1
    rw [Nat.pow_succ, Nat.mod_mul, Nat.mod_mul, h1] at h
    have h2 := Nat.add_left_cancel h
    exact Nat.eq_of_mul_eq_mul_left (Nat.pow_pos (by decide)) h2

theorem hiB_bigN : ∀ (l : List Nat), (∀ x ∈ l, x < 256) → hiB (bigN l) l.length = l := by
  intro l
  induction l with
  | nil => intro _; rfl
  | cons x l ih =>
    intro h
    have hx := h x (by simp)
    have hl := bigN_lt l fun y hy => h y (by simp [hy])
    rw [List.length_cons, hiB, p256, bigN_cons]
    congr 1
    · rw [Nat.mul_comm, Nat.mul_add_div (Nat.pow_pos (by decide)), Nat.div_eq_of_lt hl, Nat.add_zero, Nat.mod_eq_of_lt hx]
    · rw [hiB_mod _ (bigN l) _ (by rw [Nat.mul_comm, Nat.mul_add_mod]), ih fun y hy => h y (by simp [hy])]

theorem cut_app (l : List Nat) (s : ByteArray) (n : Nat) (hl : l.length = n) (h : ∀ x ∈ l, x < 256) : cutN (ofB l ++ s) n = some (bigN l, s) := by
  have hs : (ofB l).size = n := by rw [ofB_size, hl]
  rw [cutN_some (by rw [app_size]; omega), ext_left _ _ _ hs, ext_right _ _ _ hs, strB_ofB h]

theorem cut_sound {s s' : ByteArray} {n x : Nat} (h : cutN s n = some (x, s')) : s = ofB (hiB x n) ++ s' ∧ x < 256 ^ n := by
  unfold cutN at h
  split at h
  · rename_i hn
    injection h with h
    injection h with h1 h2
    have hl : (strB (s.extract 0 n)).length = n := by rw [strB_length, ByteArray.size_extract]; omega
    have h3 := hiB_bigN (strB (s.extract 0 n)) (strB_lt _)
    rw [hl, h1] at h3
    refine ⟨?_, ?_⟩
    · rw [h3, ofB_strB, ← h2, ext_all _ _ hn]
    · rw [← h1]; have := bigN_lt _ (strB_lt (s.extract 0 n)); rwa [hl] at this
  · cases h

theorem hd_app (x : Nat) (l : List Nat) (s : ByteArray) (hx : x < 256) : hdB (ofB (x :: l) ++ s) = x ∧ (ofB (x :: l) ++ s).extract 1 (ofB (x :: l) ++ s).size = ofB l ++ s ∧ ¬ (ofB (x :: l) ++ s).size < 1 := by
  refine ⟨?_, ?_, by rw [app_size, ofB_size]; simp⟩
  · unfold hdB
    rw [ByteArray.data_append, Array.toList_append]
    show (UInt8.ofNat x).toNat = x
    simp [Nat.mod_eq_of_lt hx]
  · have e : ofB (x :: l) ++ s = ofB [x] ++ (ofB l ++ s) := by rw [← app_assoc, ← ofB_append]; rfl
    rw [e]
    exact ext_right (ofB [x]) _ 1 rfl

theorem hd_sound {s : ByteArray} (h : ¬ s.size < 1) : s = ofB [hdB s] ++ s.extract 1 s.size := by
  have h1 : s.extract 0 1 = ofB [hdB s] := by
    apply ba_ext
    have h0 : 0 < s.data.toList.length := by rw [Array.length_toList]; exact (by omega : 0 < s.size)
    simp only [ByteArray.data_extract, Array.toList_extract, List.extract_eq_take_drop, List.drop_zero, Nat.sub_zero, ofB_data, hdB, List.map_cons, List.map_nil]
    cases hd : s.data.toList with
    | nil => rw [hd] at h0; simp at h0
    | cons x l => simp
  rw [← h1, ext_all _ _ (by omega)]



/-- Numbers within 64 bits. -/
def V.rng : V → Bool
  | .mk _ n _ l _ => decide (-9223372036854775808 ≤ n) && decide (n ≤ 9223372036854775807) && (l.map V.rng).all id
termination_by v => v
theorem V.rng_mk (k n : Int) (s : ByteArray) (l : List V) (r : Int) : (V.mk k n s l r).rng = (decide (-9223372036854775808 ≤ n) && decide (n ≤ 9223372036854775807) && l.all V.rng) := by
  rw [V.rng, List.all_map]; rfl

/-- References that bytes can hold. -/
def V.low : V → Bool
  | .mk k _ _ l r => (decide (k ≠ 4) || decide (r ≤ 4294967295)) && (l.map V.low).all id
termination_by v => v
theorem V.low_mk (k n : Int) (s : ByteArray) (l : List V) (r : Int) : (V.mk k n s l r).low = ((decide (k ≠ 4) || decide (r ≤ 4294967295)) && l.all V.low) := by
  rw [V.low, List.all_map]; rfl

theorem toList_nil {s : ByteArray} (h : s.toList = []) : s = ⟨#[]⟩ := bytes_ext (by rw [h, ByteArray.toList_eq])

theorem size_sum (l : List V) : l.length ≤ (l.map V.size).sum := by
  induction l with
  | nil => simp
  | cons x l ih => have := x.size_pos; simp; omega

theorem parseL_enc (g : ByteArray → Nat → Got) (rest : ByteArray) : ∀ (l : List V) (n : Nat), (∀ v ∈ l, ∀ (n : Nat) (rest : ByteArray), v.size ≤ n → n ≤ 512 → g (ofB v.enc ++ rest) n = some (v, rest, n - v.size)) → (l.map V.size).sum ≤ n → n ≤ 512 →
    parseL g l.length (ofB (l.map V.enc).flatten ++ rest) n = some (l, rest, n - (l.map V.size).sum)
  | [], n, _, _, _ => by simp [parseL, ofB_nil, nil_app]
  | v :: l, n, h, hn, h5 => by
    simp only [List.map_cons, List.sum_cons] at hn
    have h1 := h v (by simp) n (ofB (l.map V.enc).flatten ++ rest) (by omega) h5
    rw [List.map_cons, List.flatten_cons, ofB_append, app_assoc, List.length_cons, parseL_step g _ _ _ _ h1]
    have h2 := parseL_enc g rest l (n - v.size) (fun u hu => h u (by simp [hu])) (by omega) (by omega)
    simp only
    rw [h2]
    simp only [Option.map_some, List.map_cons, List.sum_cons]
    rw [Nat.sub_sub]

theorem parse_enc (v : V) : ∀ (d n : Nat) (rest : ByteArray), v.ok = true → v.rng = true → v.low = true → v.dep ≤ d → v.size ≤ n → n ≤ 512 → parse d (ofB v.enc ++ rest) n = some (v, rest, n - v.size) := by
  induction v using V.ind with
  | h k n0 s l r ih =>
    intro d n rest hok hrng hlow hdep hsz h5
    have hp := (V.mk k n0 s l r).size_pos
    rw [V.ok_mk, Bool.and_eq_true] at hok
    obtain ⟨hf, hall⟩ := hok
    rw [V.rng_mk] at hrng
    rw [V.low_mk] at hlow
    simp only [Bool.and_eq_true, decide_eq_true_eq, List.all_eq_true, Bool.or_eq_true] at hrng hlow hall
    have hk := fok_kind hf
    have e0 : parse d (ofB (V.mk k n0 s l r).enc ++ rest) n = parseK (match d with | 0 => none | d + 1 => some (parse d)) k.toNat (ofB ((V.mk k n0 s l r).enc.tail) ++ rest) (n - 1) := by
      rw [V.enc_mk]
      obtain ⟨h1, h2, h3⟩ := hd_app k.toNat (if k = 1 then hiB ((n0 + 9223372036854775808).toNat) 8 else if k = 2 then hiB s.size 2 ++ strB s else if k = 3 then hiB l.length 2 ++ (l.map V.enc).flatten else if k = 4 then hiB r.toNat 4 else []) rest (by omega)
      have h4 : ∀ g, parseG g (ofB (k.toNat :: (if k = 1 then hiB ((n0 + 9223372036854775808).toNat) 8 else if k = 2 then hiB s.size 2 ++ strB s else if k = 3 then hiB l.length 2 ++ (l.map V.enc).flatten else if k = 4 then hiB r.toNat 4 else [])) ++ rest) n = parseK g k.toNat (ofB (if k = 1 then hiB ((n0 + 9223372036854775808).toNat) 8 else if k = 2 then hiB s.size 2 ++ strB s else if k = 3 then hiB l.length 2 ++ (l.map V.enc).flatten else if k = 4 then hiB r.toNat 4 else []) ++ rest) (n - 1) := fun g => by
        rw [parseG_eq g _ _ (by omega), h1, h2]
      cases d with
      | zero => exact h4 none
      | succ d => exact h4 (some (parse d))
    rw [e0]
    clear e0
    rw [V.enc_mk, List.tail_cons]
    rw [V.size_mk] at hsz ⊢
    have hleaf : k ≠ 3 → l = [] := fun h => List.eq_nil_of_length_eq_zero (fok_len h hf)
    rcases hk with rfl | rfl | rfl | rfl | rfl
    · have := hleaf (by decide); subst this
      simp [fok] at hf
      simp [parseK, ofB_nil, nil_app, hf, toList_nil hf.1.2]
    · have := hleaf (by decide); subst this
      simp [fok] at hf
      have hm : (n0 + 9223372036854775808).toNat % 256 ^ 8 = (n0 + 9223372036854775808).toNat := Nat.mod_eq_of_lt (by omega)
      have hc := cut_app (hiB ((n0 + 9223372036854775808).toNat) 8) rest 8 (hiB_length _ _) (hiB_lt _ _)
      rw [bigN_hiB, hm] at hc
      simp only [if_pos]
      show parseK _ 1 _ _ = _
      unfold parseK
      rw [if_neg (by decide), if_pos rfl, hc]
      simp only [Option.map_some, List.map_nil, List.sum_nil, Nat.add_zero]
      rw [show (((n0 + 9223372036854775808).toNat : Int) - 9223372036854775808) = n0 by omega, toList_nil hf.1, hf.2]
    · have := hleaf (by decide); subst this
      simp [fok] at hf
      have hc := cut_app (hiB s.size 2) (ofB (strB s) ++ rest) 2 (hiB_length _ _) (hiB_lt _ _)
      rw [bigN_hiB, Nat.mod_eq_of_lt (by omega), ofB_strB] at hc
      simp only [if_pos, if_neg (show ¬ (2 : Int) = 1 by decide)]
      show parseK _ 2 _ _ = _
      unfold parseK
      rw [if_neg (by decide), if_neg (by decide), if_neg (by decide), if_pos rfl, ofB_append, ofB_strB, app_assoc, hc]
      simp only [Option.bind_some, List.map_nil, List.sum_nil, Nat.add_zero]
      rw [if_neg (by rw [app_size]; omega), ext_left _ _ _ rfl, ext_right _ _ _ rfl, hf.1.2, hf.2]
    · simp [fok] at hf
      rw [V.dep_mk, if_pos rfl] at hdep
      have hls := size_sum l
      have hc := cut_app (hiB l.length 2) (ofB (l.map V.enc).flatten ++ rest) 2 (hiB_length _ _) (hiB_lt _ _)
      rw [bigN_hiB, Nat.mod_eq_of_lt (by omega)] at hc
      simp only [if_pos, if_neg (show ¬ (3 : Int) = 1 by decide), if_neg (show ¬ (3 : Int) = 2 by decide)]
      show parseK _ 3 _ _ = _
      unfold parseK
      rw [if_neg (by decide), if_neg (by decide), if_neg (by decide), if_neg (by decide), if_pos rfl, ofB_append, app_assoc, hc]
      cases d with
      | zero => omega
      | succ d =>
        have hL := parseL_enc (parse d) rest l (n - 1) (fun v hv n rest h1 h2 => ih v hv d n rest (hall v hv) (hrng.2 v hv) (hlow.2 v hv) (by
          have := le_top (List.mem_map_of_mem (f := V.dep) hv); omega) h1 h2) (by omega) (by omega)
        simp only [Option.bind_some]
        rw [if_neg (by omega), hL]
        simp only [Option.map_some]
        rw [Nat.sub_sub, hf.1.1, toList_nil hf.1.2, hf.2]
    · have := hleaf (by decide); subst this
      simp [fok] at hf
      have hr : r ≤ 4294967295 := by rcases hlow.1 with h | h; exact absurd rfl h; exact h
      have hm : r.toNat % 256 ^ 4 = r.toNat := Nat.mod_eq_of_lt (by omega)
      have hc := cut_app (hiB r.toNat 4) rest 4 (hiB_length _ _) (hiB_lt _ _)
      rw [bigN_hiB, hm] at hc
      simp only [if_pos, if_neg (show ¬ (4 : Int) = 1 by decide), if_neg (show ¬ (4 : Int) = 2 by decide), if_neg (show ¬ (4 : Int) = 3 by decide)]
      show parseK _ 4 _ _ = _
      unfold parseK
      rw [if_neg (by decide), if_neg (by decide), if_pos rfl, hc]
      simp only [Option.bind_some, List.map_nil, List.sum_nil, Nat.add_zero]
      rw [if_pos (by omega), show ((r.toNat : Nat) : Int) = r by omega, hf.1.2, toList_nil hf.2]

/-- What a reader's answer says of the bytes. -/
def Sound (d : Nat) (s : ByteArray) (n : Nat) (u : V) (s' : ByteArray) (n' : Nat) : Prop :=
  u.ok = true ∧ u.rng = true ∧ u.low = true ∧ u.dep ≤ d ∧ n = n' + u.size ∧ s = ofB u.enc ++ s'

theorem parseL_sound {d : Nat} {g : ByteArray → Nat → Got} (hg : ∀ s n u s' n', g s n = some (u, s', n') → Sound d s n u s' n') : ∀ (c : Nat) (s : ByteArray) (n : Nat) (l : List V) (s' : ByteArray) (n' : Nat), parseL g c s n = some (l, s', n') →
    l.length = c ∧ l.all V.ok = true ∧ l.all V.rng = true ∧ l.all V.low = true ∧ (∀ v ∈ l, v.dep ≤ d) ∧ n = n' + (l.map V.size).sum ∧ s = ofB (l.map V.enc).flatten ++ s' := by
  intro c
  induction c with
  | zero =>
    intro s n l s' n' h
    simp only [parseL, Option.some.injEq, Prod.mk.injEq] at h
    obtain ⟨rfl, rfl, rfl⟩ := h
    simp [ofB_nil, nil_app]
  | succ c ih =>
    intro s n l s' n' h
    cases hp : g s n with
    | none => rw [parseL_none _ _ _ _ hp] at h; cases h
    | some x =>
      obtain ⟨u, s1, n1⟩ := x
      rw [parseL_step _ _ _ _ _ hp] at h
      simp only at h
      cases hq : parseL g c s1 n1 with
      | none => rw [hq] at h; cases h
      | some y =>
        obtain ⟨l1, s2, n2⟩ := y
        rw [hq] at h
        simp only [Option.map_some, Option.some.injEq, Prod.mk.injEq] at h
        obtain ⟨rfl, rfl, rfl⟩ := h
        obtain ⟨a1, a2, a3, a4, a5, a6⟩ := hg _ _ _ _ _ hp
        obtain ⟨b0, b1, b2, b3, b4, b5, b6⟩ := ih _ _ _ _ _ hq
        refine ⟨by simp [b0], by simp [a1, b1], by simp [a2, b2], by simp [a3, b3], ?_, by simp; omega, ?_⟩
        · intro v hv
          rcases List.mem_cons.1 hv with rfl | hv
          · exact a4
          · exact b4 v hv
        · rw [a6, b6, List.map_cons, List.flatten_cons, ofB_append, app_assoc]

theorem parseG_sound {d : Nat} {g : Option (ByteArray → Nat → Got)} (hg : ∀ g', g = some g' → 1 ≤ d ∧ ∀ s n u s' n', g' s n = some (u, s', n') → Sound (d - 1) s n u s' n') (s : ByteArray) (n : Nat) (u : V) (s' : ByteArray) (n' : Nat) (h : parseG g s n = some (u, s', n')) : Sound d s n u s' n' := by
  by_cases h0 : s.size < 1 ∨ n = 0
  · unfold parseG at h; rw [if_pos h0] at h; cases h
  rw [parseG_eq _ _ _ h0] at h
  have hs := hd_sound (fun h => h0 (.inl h))
  have hkl := hdB_lt s
  generalize hdB s = k at *
  generalize s.extract 1 s.size = s1 at *
  subst hs
  have hn : 1 ≤ n := by omega
  clear h0
  unfold parseK at h
  by_cases k0 : k = 0
  · rw [if_pos k0] at h
    subst k0
    simp only [Option.some.injEq, Prod.mk.injEq] at h
    obtain ⟨rfl, rfl, rfl⟩ := h
    exact ⟨by simp [V.ok_mk, fok], by simp [V.rng_mk], by simp [V.low_mk], by simp [V.dep_mk], by simp [V.size_mk]; omega, by simp [V.enc_mk]⟩
  rw [if_neg k0] at h
  by_cases k1 : k = 1
  · rw [if_pos k1] at h
    subst k1
    cases hc : cutN s1 8 with
    | none => rw [hc] at h; cases h
    | some q =>
      obtain ⟨x, s2⟩ := q
      rw [hc] at h
      simp only [Option.map_some, Option.some.injEq, Prod.mk.injEq] at h
      obtain ⟨rfl, rfl, rfl⟩ := h
      obtain ⟨e1, e2⟩ := cut_sound hc
      have e3 : x < 18446744073709551616 := e2
      refine ⟨by simp [V.ok_mk, fok], by simp [V.rng_mk]; omega, by simp [V.low_mk], by simp [V.dep_mk], by simp [V.size_mk]; omega, ?_⟩
      rw [e1, V.enc_mk, if_pos rfl, ← app_assoc, ← ofB_append]
      congr 3
      rw [show ((x : Int) - 9223372036854775808 + 9223372036854775808).toNat = x by omega]
      rfl
  rw [if_neg k1] at h
  by_cases k4 : k = 4
  · rw [if_pos k4] at h
    subst k4
    cases hc : cutN s1 4 with
    | none => rw [hc] at h; cases h
    | some q =>
      obtain ⟨x, s2⟩ := q
      rw [hc] at h
      simp only [Option.bind_some] at h
      by_cases hx : 0 < x
      · rw [if_pos hx] at h
        simp only [Option.some.injEq, Prod.mk.injEq] at h
        obtain ⟨rfl, rfl, rfl⟩ := h
        obtain ⟨e1, e2⟩ := cut_sound hc
        have e3 : x < 4294967296 := e2
        refine ⟨by simp [V.ok_mk, fok]; omega, by simp [V.rng_mk], by simp [V.low_mk]; omega, by simp [V.dep_mk], by simp [V.size_mk]; omega, ?_⟩
        rw [e1, V.enc_mk, if_neg (by decide), if_neg (by decide), if_neg (by decide), if_pos rfl, ← app_assoc, ← ofB_append]
        rfl
      · rw [if_neg hx] at h; cases h
  rw [if_neg k4] at h
  by_cases k2 : k = 2
  · rw [if_pos k2] at h
    subst k2
    cases hc : cutN s1 2 with
    | none => rw [hc] at h; cases h
    | some q =>
      obtain ⟨x, s2⟩ := q
      rw [hc] at h
      simp only [Option.bind_some] at h
      by_cases hx : 256 < x ∨ s2.size < x
      · rw [if_pos hx] at h; cases h
      · rw [if_neg hx] at h
        simp only [Option.some.injEq, Prod.mk.injEq] at h
        obtain ⟨rfl, rfl, rfl⟩ := h
        obtain ⟨e1, e2⟩ := cut_sound hc
        have hsz : (s2.extract 0 x).size = x := by rw [ByteArray.size_extract]; omega
        refine ⟨by simp [V.ok_mk, fok]; omega, by simp [V.rng_mk], by simp [V.low_mk], by simp [V.dep_mk], by simp [V.size_mk]; omega, ?_⟩
        rw [e1, V.enc_mk, if_neg (by decide), if_pos rfl, hsz]
        rw [show ofB ((2 : Int).toNat :: (hiB x 2 ++ strB (s2.extract 0 x))) = ofB [2] ++ (ofB (hiB x 2) ++ s2.extract 0 x) from by
          rw [show ((2 : Int).toNat :: (hiB x 2 ++ strB (s2.extract 0 x))) = [2] ++ (hiB x 2 ++ strB (s2.extract 0 x)) from rfl, ofB_append, ofB_append, ofB_strB]]
        simp only [app_assoc]
        rw [ext_all s2 x (by omega)]
  rw [if_neg k2] at h
  by_cases k3 : k = 3
  · rw [if_pos k3] at h
    subst k3
    cases hc : cutN s1 2 with
    | none => rw [hc] at h; cases h
    | some q =>
      obtain ⟨x, s2⟩ := q
      rw [hc] at h
      simp only [Option.bind_some] at h
      cases hgg : g with
      | none => rw [hgg] at h; cases h
      | some g' =>
        rw [hgg] at h
        simp only at h
        by_cases hx : n - 1 < x
        · rw [if_pos hx] at h; cases h
        · rw [if_neg hx] at h
          cases hL : parseL g' x s2 (n - 1) with
          | none => rw [hL] at h; cases h
          | some y =>
            obtain ⟨l, s3, n3⟩ := y
            rw [hL] at h
            simp only [Option.map_some, Option.some.injEq, Prod.mk.injEq] at h
            obtain ⟨rfl, rfl, rfl⟩ := h
            obtain ⟨e1, e2⟩ := cut_sound hc
            obtain ⟨hd, hg'⟩ := hg g' hgg
            obtain ⟨b0, b1, b2, b3, b4, b5, b6⟩ := parseL_sound hg' _ _ _ _ _ _ hL
            have ht : top (l.map V.dep) ≤ d - 1 := top_le fun y hy => by
              obtain ⟨v, hv, rfl⟩ := List.mem_map.1 hy
              exact b4 v hv
            refine ⟨by simp [V.ok_mk, fok, b1], by simp [V.rng_mk, b2], by simp [V.low_mk, b3], by rw [V.dep_mk, if_pos rfl]; omega, by rw [V.size_mk]; omega, ?_⟩
            rw [e1, b6, V.enc_mk, if_neg (by decide), if_neg (by decide), if_pos rfl, b0]
            rw [show ofB ((3 : Int).toNat :: (hiB x 2 ++ (l.map V.enc).flatten)) = ofB [3] ++ (ofB (hiB x 2) ++ ofB (l.map V.enc).flatten) from by
              rw [← ofB_append, ← ofB_append]; rfl]
            simp only [app_assoc]
  · rw [if_neg k3] at h; cases h

theorem parse_sound (d : Nat) : ∀ (s : ByteArray) (n : Nat) (u : V) (s' : ByteArray) (n' : Nat), parse d s n = some (u, s', n') → Sound d s n u s' n' := by
  induction d with
  | zero => exact fun s n u s' n' h => parseG_sound (fun g' h => by cases h) s n u s' n' h
  | succ d ih => exact fun s n u s' n' h => parseG_sound (fun g' h => by cases h; exact ⟨by omega, ih⟩) s n u s' n' h



theorem refs_low (v : V) : ∀ p, (∀ r ∈ refsOf (v.walk p), r ≤ 4294967295) ↔ v.low = true := by
  induction v using V.ind with
  | h k n s l r ih =>
    intro p
    have hl : ∀ (l : List V) (i : Nat), (∀ x ∈ l, ∀ p, (∀ r ∈ refsOf (x.walk p), r ≤ 4294967295) ↔ x.low = true) → ((∀ r ∈ refsOf (walkL (l.map V.walk) i p), r ≤ 4294967295) ↔ ∀ x ∈ l, x.low = true) := by
      intro l
      induction l with
      | nil => intro i _; simp [walkL, refsOf]
      | cons x l ih2 =>
        intro i h
        have h1 := h x (by simp) (p ++ [(i : Int)])
        have h2 := ih2 (i + 1) fun y hy => h y (by simp [hy])
        simp only [List.map_cons, walkL, refsOf_append, List.mem_append, List.mem_cons, forall_eq_or_imp]
        rw [← h1, ← h2]
        exact ⟨fun h => ⟨fun r hr => h r (.inl hr), fun r hr => h r (.inr hr)⟩, fun ⟨a, b⟩ r hr => hr.elim (a r) (b r)⟩
    have h0 := hl l 0 ih
    rw [V.walk_mk, V.low_mk]
    simp only [refsOf, Bool.and_eq_true, Bool.or_eq_true, decide_eq_true_eq, List.all_eq_true]
    rw [← h0]
    by_cases hk : k = 4
    · simp [hk]
    · simp [hk]

theorem hasBytes_iff (v : V) : v.hasBytes ↔ v.may = true ∧ v.low = true := by
  unfold V.hasBytes V.refs
  constructor
  · rintro ⟨h1, h2⟩
    rw [if_pos h1] at h2
    exact ⟨h1, (refs_low v []).1 h2⟩
  · rintro ⟨h1, h2⟩
    rw [if_pos h1]
    exact ⟨h1, (refs_low v []).2 h2⟩

/-! ### The order -/
theorem less_self (l : List UInt8) : Op.bytesLess l l = false := by
  induction l with
  | nil => rfl
  | cons x l ih => simp [Op.bytesLess, ih]

theorem ordL_self (l : List V) : (∀ x ∈ l, x.ord x = 0) → ordL (l.map V.ord) l = 0 := by
  induction l with
  | nil => intro _; rfl
  | cons x l ih => intro h; simp only [List.map_cons, ordL]; rw [if_pos (h x (by simp)), ih fun y hy => h y (by simp [hy])]

theorem ord_self (u : V) : u.ord u = 0 := by
  induction u using V.ind with
  | h k n s l r ih =>
    rw [V.ord_mk, ordOf, if_pos rfl]
    split
    · simp [cmpI]
    split
    · simp [cmpS, less_self]
    split
    · simp [cmpI]
    exact ordL_self l ih

theorem ordL_eq (l : List V) : ∀ l' : List V, (∀ x ∈ l, ∀ y : V, y ∈ l' → x.ord y = 0 → x = y) → ordL (l.map V.ord) l' = 0 → l = l' := by
  induction l with
  | nil =>
    intro l' _ h
    cases l' with
    | nil => rfl
    | cons y l' => simp [ordL] at h
  | cons x l ih =>
    intro l' hx h
    cases l' with
    | nil => simp [ordL] at h
    | cons y l' =>
      simp only [List.map_cons, ordL] at h
      by_cases h0 : x.ord y = 0
      · rw [if_pos h0] at h
        rw [hx x (by simp) y (by simp) h0, ih l' (fun a ha b hb => hx a (by simp [ha]) b (by simp [hb])) h]
      · rw [if_neg h0] at h; exact absurd h h0

theorem cmpI_zero {a b : Int} (h : cmpI a b = 0) : a = b := by
  unfold cmpI at h
  split at h
  · cases h
  · split at h
    · cases h
    · omega

theorem cmpS_zero {a b : ByteArray} (h : cmpS a b = 0) : a = b := by
  unfold cmpS at h
  split at h
  · cases h
  · split at h
    · rename_i h2; exact bytes_ext (by simpa using h2)
    · cases h

theorem ord_eq (u : V) : ∀ v : V, u.ok = true → v.ok = true → u.ord v = 0 → u = v := by
  induction u using V.ind with
  | h k n s l r ih =>
    intro v hu hv hc
    cases v with
    | mk k' n' s' l' r' =>
      rw [V.ok_mk] at hu hv
      simp only [Bool.and_eq_true, List.all_eq_true] at hu hv
      obtain ⟨fu, au⟩ := hu
      obtain ⟨fv, av⟩ := hv
      rw [V.ord_mk, ordOf] at hc
      by_cases hk : k = k'
      · subst hk
        rw [if_pos rfl] at hc
        have hl0 : k ≠ 3 → l = [] ∧ l' = [] := fun h => ⟨List.eq_nil_of_length_eq_zero (fok_len h fu), List.eq_nil_of_length_eq_zero (fok_len h fv)⟩
        rcases fok_kind fu with rfl | rfl | rfl | rfl | rfl
        · obtain ⟨rfl, rfl⟩ := hl0 (by decide)
          simp [fok] at fu fv
          rw [fu.1.1, fv.1.1, fu.2, fv.2, toList_nil fu.1.2, toList_nil fv.1.2]
        · obtain ⟨rfl, rfl⟩ := hl0 (by decide)
          simp [fok] at fu fv
          rw [if_pos rfl] at hc
          rw [cmpI_zero hc, fu.2, fv.2, toList_nil fu.1, toList_nil fv.1]
        · obtain ⟨rfl, rfl⟩ := hl0 (by decide)
          simp [fok] at fu fv
          rw [if_neg (by decide), if_pos rfl] at hc
          rw [cmpS_zero hc, fu.2, fv.2, fu.1.2, fv.1.2]
        · simp [fok] at fu fv
          rw [if_neg (by decide), if_neg (by decide), if_neg (by decide)] at hc
          rw [ordL_eq l l' (fun x hx y hy h => ih x hx y (au x hx) (av y hy) h) hc, fu.1.1, fv.1.1, fu.2, fv.2, toList_nil fu.1.2, toList_nil fv.1.2]
        · obtain ⟨rfl, rfl⟩ := hl0 (by decide)
          simp [fok] at fu fv
          rw [if_neg (by decide), if_neg (by decide), if_pos rfl] at hc
          rw [cmpI_zero hc, fu.1.2, fv.1.2, toList_nil fu.2, toList_nil fv.2]
      · rw [if_neg hk] at hc
        exact absurd (cmpI_zero hc) hk

theorem same2_iff {u v : V} (hu : u.may = true) (hv : v.may = true) : u.same2 v = true ↔ u = v := by
  unfold V.same2
  rw [hu, hv]
  simp only [Bool.true_and, decide_eq_true_eq]
  exact ⟨ord_eq u v (may_ok hu) (may_ok hv), fun h => by subst h; exact ord_self u⟩

theorem same2_self {u : V} (hu : u.may = true) : u.same2 u = true := (same2_iff hu hu).2 rfl

/-! ### Bytes of numbers, in order -/
theorem less_cons (a b : Nat) (x y : List Nat) (ha : a < 256) (hb : b < 256) : Op.bytesLess ((a :: x).map UInt8.ofNat) ((b :: y).map UInt8.ofNat) = (decide (a < b) || (decide (a = b) && Op.bytesLess (x.map UInt8.ofNat) (y.map UInt8.ofNat))) := by
  simp only [List.map_cons, Op.bytesLess]
  have e1 : (decide (UInt8.ofNat a < UInt8.ofNat b)) = decide (a < b) := by
    rw [decide_eq_decide, UInt8.lt_iff_toNat_lt]; simp [Nat.mod_eq_of_lt ha, Nat.mod_eq_of_lt hb]
  have e2 : (UInt8.ofNat a == UInt8.ofNat b) = decide (a = b) := by
    rw [Bool.eq_iff_iff]
    simp only [beq_iff_eq, decide_eq_true_eq]
    constructor
    · intro h
      have := congrArg UInt8.toNat h
      simpa [Nat.mod_eq_of_lt ha, Nat.mod_eq_of_lt hb] using this
    · rintro rfl; rfl
  rw [e1, e2]

theorem less_hiB (j : Nat) : ∀ m n : Nat, Op.bytesLess ((hiB m j).map UInt8.ofNat) ((hiB n j).map UInt8.ofNat) = decide (m % 256 ^ j < n % 256 ^ j) := by
  induction j with
  | zero => intro m n; simp [hiB, Op.bytesLess, Nat.mod_one]
  | succ j ih =>
    intro m n
    rw [hiB, hiB, less_cons _ _ _ _ (Nat.mod_lt _ (by decide)) (Nat.mod_lt _ (by decide)), ih, p256, Nat.pow_succ, Nat.mod_mul, Nat.mod_mul]
    have h1 : m % 256 ^ j < 256 ^ j := Nat.mod_lt _ (Nat.pow_pos (by decide))
    have h2 : n % 256 ^ j < 256 ^ j := Nat.mod_lt _ (Nat.pow_pos (by decide))
    generalize m % 256 ^ j = a at *
    generalize n % 256 ^ j = b at *
    generalize m / 256 ^ j % 256 = x at *
    generalize n / 256 ^ j % 256 = y at *
    generalize 256 ^ j = P at *
    rw [Bool.eq_iff_iff]
    simp only [Bool.or_eq_true, Bool.and_eq_true, decide_eq_true_eq]
    rcases Nat.lt_trichotomy x y with h | h | h
    · have : P * (x + 1) ≤ P * y := Nat.mul_le_mul_left _ h
      rw [Nat.mul_add] at this
      exact ⟨fun _ => by omega, fun _ => .inl h⟩
    · subst h
      exact ⟨fun h => by rcases h with h | h <;> omega, fun h => .inr ⟨rfl, by omega⟩⟩
    · have : P * (y + 1) ≤ P * x := Nat.mul_le_mul_left _ h
      rw [Nat.mul_add] at this
      exact ⟨fun h => by omega, fun h => by omega⟩

theorem encS_list (v : V) : v.encS.toList = v.enc.map UInt8.ofNat := by
  rw [encS_eq, ByteArray.toList_eq, ofB_data]

theorem less_num {n n' : Int} {s s' : ByteArray} {l l' : List V} {r r' : Int} (h1 : -9223372036854775808 ≤ n) (h2 : n ≤ 9223372036854775807) (h3 : -9223372036854775808 ≤ n') (h4 : n' ≤ 9223372036854775807) :
    Op.bytesLess (V.mk 1 n s l r).encS.toList (V.mk 1 n' s' l' r').encS.toList = decide (n < n') := by
  rw [encS_list, encS_list, V.enc_mk, V.enc_mk, if_pos rfl, if_pos rfl, less_cons _ _ _ _ (by decide) (by decide), less_hiB]
  rw [Nat.mod_eq_of_lt (show (n + 9223372036854775808).toNat < 256 ^ 8 by omega), Nat.mod_eq_of_lt (show (n' + 9223372036854775808).toNat < 256 ^ 8 by omega)]
  rw [Bool.eq_iff_iff]; simp; omega

theorem less_ref {n n' : Int} {s s' : ByteArray} {l l' : List V} {r r' : Int} (h1 : 0 ≤ r) (h2 : r ≤ 4294967295) (h3 : 0 ≤ r') (h4 : r' ≤ 4294967295) :
    Op.bytesLess (V.mk 4 n s l r).encS.toList (V.mk 4 n' s' l' r').encS.toList = decide (r < r') := by
  rw [encS_list, encS_list, V.enc_mk, V.enc_mk]
  simp only [if_neg (show ¬ (4 : Int) = 1 by decide), if_neg (show ¬ (4 : Int) = 2 by decide), if_neg (show ¬ (4 : Int) = 3 by decide), if_pos]
  rw [less_cons _ _ _ _ (by decide) (by decide), less_hiB]
  rw [Nat.mod_eq_of_lt (show r.toNat < 256 ^ 4 by omega), Nat.mod_eq_of_lt (show r'.toNat < 256 ^ 4 by omega)]
  rw [Bool.eq_iff_iff]; simp; omega

/-! ### There and back -/
theorem front_back {v : V} (hb : v.hasBytes) (hr : v.rng = true) (s : ByteArray) : parse 16 (v.encS ++ s) 512 = some (v, s, 512 - v.size) := by
  obtain ⟨hm, hl⟩ := (hasBytes_iff v).1 hb
  have h := hm
  simp only [V.may, V.fits, Bool.and_eq_true, decide_eq_true_eq] at h
  rw [encS_eq]
  exact parse_enc v 16 512 s h.1.1 hr hl h.2 h.1.2 (Nat.le_refl _)

theorem read_back {v : V} (hb : v.hasBytes) (hr : v.rng = true) : parse 16 v.encS 512 = some (v, ⟨#[]⟩, 512 - v.size) := by
  have := front_back hb hr ⟨#[]⟩
  rwa [app_nil] at this

theorem encS_inj {u v : V} (hu : u.hasBytes) (hv : v.hasBytes) (ru : u.rng = true) (rv : v.rng = true) : u.encS = v.encS ↔ u = v := by
  constructor
  · intro h
    have h1 := read_back hu ru
    rw [h, read_back hv rv] at h1
    simp only [Option.some.injEq, Prod.mk.injEq] at h1
    exact h1.1.symm
  · rintro rfl; rfl

theorem parse_has {s s' : ByteArray} {u : V} {n' : Nat} (h : parse 16 s 512 = some (u, s', n')) : u.hasBytes ∧ u.rng = true ∧ s = u.encS ++ s' := by
  obtain ⟨h1, h2, h3, h4, h5, h6⟩ := parse_sound 16 _ _ _ _ _ h
  exact ⟨(hasBytes_iff u).2 ⟨by simp [V.may, V.fits, h1, h4]; omega, h3⟩, h2, by rw [encS_eq]; exact h6⟩

end Go.Proofs.Ytihjmipmjogpoaa

/- Chapter 2: awake: its calls, each at its closed data. -/
namespace Go.Proofs.Ytihjmipmjogpoaa
open Go.RowKit

/-- A value without a list, in memory. -/
def lf (k n : Int) (s : ByteArray) (r : Int) : T := .mk k n s none 0 [] r

theorem lf_v (k n : Int) (s : ByteArray) (r : Int) : (lf k n s r).v = .mk k n s [] r := by rw [lf, T.v_mk]; rfl
theorem lf_val (k n : Int) (s : ByteArray) (r : Int) : (lf k n s r).val = .agg #[.int .u8 k, .int .i64 n, .string s, .slice none 0 0, .int .i64 r] := rfl
theorem lf_in {k n r : Int} (w : World) (lo hi : Nat) (h0 : 0 ≤ k) (h1 : k < 256) (h2 : -100 ≤ n) (h3 : n ≤ 100) (h4 : -100 ≤ r) (h5 : r ≤ 100) : (lf k n ⟨#[]⟩ r).In w lo hi := by
  rw [lf, T.in_mk]; exact ⟨⟨h0, h1, by omega, by omega, by decide, by decide, Nat.le_refl _, by omega, by omega⟩, fun h => absurd rfl h, by simp⟩

def awC1 : Array Value := #[.int .u8 4, .int .i64 0, .string ⟨#[]⟩, .slice none 0 0, .int .i64 7]
def awC2 (g : Nat) : Array Value := #[.int .u8 1, .int .i64 1, .string ⟨#[]⟩, .slice none 0 0, .int .i64 0, .int .u8 3, .int .i64 0, .string ⟨#[]⟩, .slice (some ⟨g, 0, none⟩) 1 1, .int .i64 0]

/-- The value that awake builds, as it lies in memory. -/
def awT (g1 g2 : Nat) : T := .mk 3 0 ⟨#[]⟩ (some ⟨g2, 0, none⟩) 2 [lf 1 1 ⟨#[]⟩ 0, .mk 3 0 ⟨#[]⟩ (some ⟨g1, 0, none⟩) 1 [lf 4 0 ⟨#[]⟩ 7] 0] 0

theorem awT_v (g1 g2 : Nat) : (awT g1 g2).v = awV := by
  rw [awT, T.v_mk]; simp [lf_v, T.v_mk, awV]
theorem awT_val (g1 g2 : Nat) : (awT g1 g2).val = .agg #[.int .u8 3, .int .i64 0, .string ⟨#[]⟩, .slice (some ⟨g2, 0, none⟩) 2 2, .int .i64 0] := rfl

theorem fit3 (n : Nat) (h : n ≤ 100) : Fit 3 0 ⟨#[]⟩ n n 0 := ⟨by decide, by decide, by decide, by decide, by decide, by omega, Nat.le_refl _, by decide, by decide⟩

theorem five_cells (x : T) (c : Nat) (u : Value) (h : x.cells[c]? = some u) : c < 5 := by
  rcases Nat.lt_or_ge c 5 with hlt | hge
  · exact hlt
  · rw [List.getElem?_eq_none (by rw [T.cells_length]; exact hge)] at h; cases h

theorem awT_in {w : World} {g1 g2 lo hi : Nat} (h1 : Blk w g1 27 awC1) (h2 : Blk w g2 27 (awC2 g1)) (a : lo ≤ g1) (b : g1 < hi) (c : lo ≤ g2) (d : g2 < hi) : (awT g1 g2).In w lo hi := by
  rw [awT, T.in_mk]
  refine ⟨fit3 2 (by decide), fun _ => ⟨g2, 0, rfl, c, d, fun i x hx j u hu => ?_⟩, ?_⟩
  · have hj := five_cells x j u hu
    rw [h2.cell]
    match i, hx with
    | 0, hx =>
      simp at hx; subst hx
      match j, hu with
      | 0, hu => exact hu
      | 1, hu => exact hu
      | 2, hu => exact hu
      | 3, hu => exact hu
      | 4, hu => exact hu
      | c + 5, hu => omega
    | 1, hx =>
      simp at hx; subst hx
      match j, hu with
      | 0, hu => exact hu
      | 1, hu => exact hu
      | 2, hu => exact hu
      | 3, hu => exact hu
      | 4, hu => exact hu
      | c + 5, hu => omega
    | i + 2, hx => simp at hx
  · intro x hx
    simp at hx
    rcases hx with rfl | rfl
    · exact lf_in _ _ _ (by decide) (by decide) (by decide) (by decide) (by decide) (by decide)
    · rw [T.in_mk]
      refine ⟨fit3 1 (by decide), fun _ => ⟨g1, 0, rfl, a, b, fun i x hx j u hu => ?_⟩, ?_⟩
      · have hj := five_cells x j u hu
        rw [h1.cell]
        match i, hx with
        | 0, hx =>
          simp at hx; subst hx
          match j, hu with
          | 0, hu => exact hu
          | 1, hu => exact hu
          | 2, hu => exact hu
          | 3, hu => exact hu
          | 4, hu => exact hu
          | c + 5, hu => omega
        | i + 1, hx => simp at hx
      · intro x hx
        simp at hx
        subst hx
        exact lf_in _ _ _ (by decide) (by decide) (by decide) (by decide) (by decide) (by decide)

theorem toL0 : (⟨#[]⟩ : ByteArray).toList = [] := by rw [ByteArray.toList_eq]

theorem aw_may : awV.may = true := by simp [awV, V.may, V.fits, V.ok_mk, V.size_mk, V.dep_mk, fok, toL0, top]
theorem aw_size : awV.size = 4 := by simp [awV, V.size_mk]
theorem aw_dep : awV.dep = 2 := by simp [awV, V.dep_mk, top]
theorem aw_low : awV.low = true := by simp [awV, V.low_mk]
theorem aw_has : awV.hasBytes := (hasBytes_iff _).2 ⟨aw_may, aw_low⟩
theorem aw_encS : awV.encS = awS := by rw [encS_eq, aw_enc]; rfl
theorem aw_at : atOf awV [1, 0] = (.mk 4 0 ⟨#[]⟩ [] 7, 0) := by
  unfold atOf; rw [if_pos aw_may]; rfl

section
variable {w : World} {g1 g2 : Nat} (h1 : Blk w g1 27 awC1) (h2 : Blk w g2 27 (awC2 g1))
include h1 h2
theorem aw_in : (awT g1 g2).In w 0 w.heap.size := awT_in h1 h2 (Nat.zero_le _) h1.lt (Nat.zero_le _) h2.lt

theorem aw_bytes : Calls Try.prog 46 #[.agg #[.int .u8 3, .int .i64 0, .string ⟨#[]⟩, .slice (some ⟨g2, 0, none⟩) 2 2, .int .i64 0]] w fun e w' => e = .returned (.tuple #[.string awS, .int .i64 0]) ∧ Fr No w w' := by
  have h := Bytes_any (awT g1 g2) w 0 w.heap.size (aw_in h1 h2) (Nat.le_refl _)
  rw [awT_v, awT_val] at h
  refine h.mono fun e w' hp => ⟨?_, hp.1⟩
  rw [hp.2.1 aw_has, aw_encS]

theorem aw_atc {g : Nat} (hp : Blk w g 3 #[.int .i64 1, .int .i64 0]) : Calls Try.prog 68 #[.agg #[.int .u8 3, .int .i64 0, .string ⟨#[]⟩, .slice (some ⟨g2, 0, none⟩) 2 2, .int .i64 0], .slice (some ⟨g, 0, none⟩) 2 2] w
    fun e w' => (∃ A cap, e = .returned (.tuple #[.agg #[.int .u8 4, .int .i64 0, .string ⟨#[]⟩, .slice A 0 cap, .int .i64 7], .int .i64 0])) ∧ Fr No w w' := by
  have hI : Ints w 0 w.heap.size (some ⟨g, 0, none⟩) 2 [1, 0] := by
    refine ⟨by decide, by decide, fun _ => ⟨g, 0, rfl, Nat.zero_le _, hp.lt, fun i x hx => ?_⟩, ?_⟩
    · rw [hp.cell]
      match i, hx with
      | 0, hx => simp at hx; subst hx; rfl
      | 1, hx => simp at hx; subst hx; rfl
      | i + 2, hx => simp at hx
    · intro x hx; simp at hx; rcases hx with rfl | rfl <;> decide
  have h := At_any (awT g1 g2) w 0 w.heap.size (aw_in h1 h2) (Nat.le_refl _) (some ⟨g, 0, none⟩) 2 [1, 0] 0 w.heap.size hI (Nat.le_refl _)
  rw [awT_v, awT_val, aw_at] at h
  refine h.mono fun e w' ⟨t', he, hv, _, hf⟩ => ⟨?_, hf⟩
  obtain ⟨k, n, s, A, cap, l, r⟩ := t'
  rw [T.v_mk] at hv
  injection hv with q1 q2 q3 q4 q5
  subst q1 q2 q3 q5
  obtain rfl : l = [] := by simpa using q4
  exact ⟨A, cap, he⟩

theorem aw_same {t : T} (ht : t.v = awV) (hin : t.In w 0 w.heap.size) : Calls Try.prog 54 #[t.val, .agg #[.int .u8 3, .int .i64 0, .string ⟨#[]⟩, .slice (some ⟨g2, 0, none⟩) 2 2, .int .i64 0]] w fun e w' => e = .returned (.bool true) ∧ Fr No w w' := by
  have h := vsame_any t (awT g1 g2) w 0 w.heap.size hin (aw_in h1 h2) (Nat.le_refl _)
  rw [awT_v, ht, same2_self aw_may] at h
  exact h

theorem aw_parts : Calls Try.prog 56 #[.agg #[.int .u8 3, .int .i64 0, .string ⟨#[]⟩, .slice (some ⟨g2, 0, none⟩) 2 2, .int .i64 0]] w fun e w' => e = .returned (.int .i64 4) ∧ Fr No w w' := by
  have h := Parts_any (awT g1 g2) w 0 w.heap.size (aw_in h1 h2) (Nat.le_refl _)
  rw [awT_v] at h
  have e : awV.meas = 4 := by simp [V.meas, aw_may, aw_size]
  rw [e] at h
  exact h

theorem aw_deep : Calls Try.prog 57 #[.agg #[.int .u8 3, .int .i64 0, .string ⟨#[]⟩, .slice (some ⟨g2, 0, none⟩) 2 2, .int .i64 0]] w fun e w' => e = .returned (.int .i64 2) ∧ Fr No w w' := by
  have h := Deep_any (awT g1 g2) w 0 w.heap.size (aw_in h1 h2) (Nat.le_refl _)
  rw [awT_v, if_pos aw_may, aw_dep] at h
  exact h

theorem aw_mayc : Calls Try.prog 58 #[.agg #[.int .u8 3, .int .i64 0, .string ⟨#[]⟩, .slice (some ⟨g2, 0, none⟩) 2 2, .int .i64 0]] w fun e w' => e = .returned (.bool true) ∧ Fr No w w' := by
  have h := may_any (awT g1 g2) w 0 w.heap.size (aw_in h1 h2) (Nat.le_refl _)
  rw [awT_v, aw_may] at h
  exact h

theorem aw_each : Calls Try.prog 41 #[.agg #[.int .u8 3, .int .i64 0, .string ⟨#[]⟩, .slice (some ⟨g2, 0, none⟩) 2 2, .int .i64 0]] w fun e w' => e = .returned (.func (.func 105) #[] #[.pointer (some ⟨w.heap.size, 0, none⟩)]) ∧ Fr No w w' := by
  have h := Each_yes (awT g1 g2) w 0 w.heap.size (aw_in h1 h2) (Nat.le_refl _) (by rw [awT_v]; exact aw_may)
  rw [awT_v] at h
  refine h.mono fun e w' hp => ⟨?_, hp.fr⟩
  obtain ⟨_, _, _, _, _, _, _, he, _⟩ := hp.yes aw_may
  exact he
end

theorem aw_read (w : World) : Calls Try.prog 48 #[.string awS] w fun e w' => (∃ t : T, t.v = awV ∧ e = .returned (.tuple #[t.val, .int .i64 0]) ∧ t.In w' 0 w'.heap.size) ∧ Fr No w w' := by
  refine (Read_any awS w).mono fun e w' hp => ⟨?_, hp.fr⟩
  obtain ⟨t, h1, h2, h3⟩ := hp.yes awV 508 (by decide) aw_parse
  exact ⟨t, h1, h2, T.In.more (Nat.zero_le _) (Nat.le_refl _) _ h3⟩

theorem aw_order (w : World) : Calls Try.prog 55 #[.agg #[.int .u8 1, .int .i64 1, .string ⟨#[]⟩, .slice none 0 0, .int .i64 0], .agg #[.int .u8 1, .int .i64 2, .string ⟨#[]⟩, .slice none 0 0, .int .i64 0]] w fun e w' => e = .returned (.tuple #[.int .i64 (-1), .int .i64 0]) ∧ Fr No w w' := by
  have h := vorder_any (lf 1 1 ⟨#[]⟩ 0) (lf 1 2 ⟨#[]⟩ 0) w 0 0 (lf_in _ _ _ (by decide) (by decide) (by decide) (by decide) (by decide) (by decide)) (lf_in _ _ _ (by decide) (by decide) (by decide) (by decide) (by decide) (by decide)) (Nat.zero_le _)
  have m1 : (V.mk 1 1 ⟨#[]⟩ [] 0).may = true := by simp [V.may, V.fits, V.ok_mk, V.size_mk, V.dep_mk, fok, toL0]
  have m2 : (V.mk 1 2 ⟨#[]⟩ [] 0).may = true := by simp [V.may, V.fits, V.ok_mk, V.size_mk, V.dep_mk, fok, toL0]
  have o : (V.mk 1 1 ⟨#[]⟩ [] 0).ord (V.mk 1 2 ⟨#[]⟩ [] 0) = -1 := by rw [V.ord_mk]; rfl
  rw [lf_v, lf_v, m1, m2, o] at h
  exact h

end Go.Proofs.Ytihjmipmjogpoaa

/- Chapter 2: a value whose lists lie in rows of their own; value.own's are such. -/
namespace Go.Proofs.Ytihjmipmjogpoaa
open Go.RowKit

/-- Each list of a tree lies in a row of its own, alone; where there is none, nothing is kept. -/
def T.Sp (w : World) (lo hi : Nat) : T → Prop
  | .mk k n s A cap l r => Fit k n s l.length cap r ∧ (l = [] → A = none ∧ cap = 0) ∧ (l ≠ [] → w.ownsRow lo 27 5 (.slice A l.length cap) l.length (rowCells l) ∧ ∃ g, A = some ⟨g, 0, none⟩ ∧ g < hi) ∧ ∀ x ∈ l, T.Sp w lo hi x
termination_by t => t

theorem T.sp_mk {w : World} {lo hi : Nat} {k n : Int} {s : ByteArray} {A : Option Addr} {cap : Nat} {l : List T} {r : Int} :
    (T.mk k n s A cap l r).Sp w lo hi ↔ Fit k n s l.length cap r ∧ (l = [] → A = none ∧ cap = 0) ∧ (l ≠ [] → w.ownsRow lo 27 5 (.slice A l.length cap) l.length (rowCells l) ∧ ∃ g, A = some ⟨g, 0, none⟩ ∧ g < hi) ∧ ∀ x ∈ l, x.Sp w lo hi := by
  rw [T.Sp]

theorem owns_mono {w : World} {base base' : Nat} {e : TypeId} {size : Nat} {v : Value} {n : Nat} {xs : List Value} (h : w.ownsRow base e size v n xs) (hb : base' ≤ base) : w.ownsRow base' e size v n xs := by
  refine ⟨h.1, ?_⟩
  rcases h.2 with h | ⟨g, cap, cur, h1, h2, h3⟩
  · exact .inl h
  · exact .inr ⟨g, cap, cur, h1, by omega, h3⟩

theorem T.Sp.inn {w : World} {lo hi : Nat} (t : T) : t.Sp w lo hi → t.In w lo hi := by
  induction t using T.ind with
  | h k n s A cap l r ih =>
    rw [T.sp_mk, T.in_mk]
    rintro ⟨h1, _, h3, h4⟩
    refine ⟨h1, fun hl => ?_, fun x hx => ih x hx (h4 x hx)⟩
    obtain ⟨ho, g, rfl, hg⟩ := h3 hl
    have hb := owns_lt ho g rfl
    refine ⟨g, 0, rfl, hb.1, hg, fun i x hx j u hu => ?_⟩
    have := World.ownsRow.cells ho (g := g) rfl _ _ (rowCells_get l i j x u hx hu)
    rw [add_at, ← Nat.add_assoc] at this
    exact this

theorem T.Sp.fr {S : Nat → Prop} {w w' : World} {lo hi : Nat} (hf : Fr S w w') (t : T) : (∀ b ∈ t.blocks, ¬ S b) → t.Sp w lo hi → t.Sp w' lo hi := by
  induction t using T.ind with
  | h k n s A cap l r ih =>
    intro hs
    rw [T.blocks_mk] at hs
    rw [T.sp_mk, T.sp_mk]
    rintro ⟨h1, h2, h3, h4⟩
    refine ⟨h1, h2, fun hl => ?_, fun x hx => ih x hx (fun b hb => hs b (List.mem_append_right _ (List.mem_flatten.2 ⟨_, List.mem_map_of_mem hx, hb⟩))) (h4 x hx)⟩
    obtain ⟨ho, g, rfl, hg⟩ := h3 hl
    refine ⟨owns_fr ho hf (fun g' hg' => ?_), g, rfl, hg⟩
    simp [Value.ownBlock] at hg'
    subst hg'
    refine hs g (List.mem_append_left _ ?_)
    cases l with
    | nil => exact absurd rfl hl
    | cons x l => simp

theorem T.Sp.more {w : World} {lo hi lo' hi' : Nat} (hl : lo' ≤ lo) (hh : hi ≤ hi') (t : T) : t.Sp w lo hi → t.Sp w lo' hi' := by
  induction t using T.ind with
  | h k n s A cap l r ih =>
    rw [T.sp_mk, T.sp_mk]
    rintro ⟨h1, h2, h3, h4⟩
    refine ⟨h1, h2, fun hl' => ?_, fun x hx => ih x hx (h4 x hx)⟩
    obtain ⟨ho, g, hA, hg⟩ := h3 hl'
    exact ⟨owns_mono ho hl, g, hA, by omega⟩

/-- .. and no two of them lie in one. -/
structure T.Sh (w : World) (lo hi : Nat) (t : T) : Prop where
  sp : t.Sp w lo hi
  nodup : t.blocks.Nodup

theorem T.Sh.inn {w : World} {lo hi : Nat} {t : T} (h : t.Sh w lo hi) : t.In w lo hi := T.Sp.inn t h.sp
theorem T.Sh.fr {S : Nat → Prop} {w w' : World} {lo hi : Nat} {t : T} (h : t.Sh w lo hi) (hf : Fr S w w') (hs : ∀ b ∈ t.blocks, ¬ S b) : t.Sh w' lo hi := ⟨T.Sp.fr hf t hs h.sp, h.nodup⟩
theorem T.Sh.fr' {S : Nat → Prop} {w w' : World} {lo hi : Nat} {t : T} (h : t.Sh w lo hi) (hf : Fr S w w') (hs : ∀ i, lo ≤ i → i < hi → ¬ S i) : t.Sh w' lo hi :=
  h.fr hf fun b hb => hs b (T.In.blocks t h.inn b hb).1 (T.In.blocks t h.inn b hb).2
theorem T.Sh.no {w w' : World} {lo hi : Nat} {t : T} (h : t.Sh w lo hi) (hf : Fr No w w') : t.Sh w' lo hi := h.fr hf fun _ _ h => h
theorem T.Sh.more {w : World} {lo hi lo' hi' : Nat} {t : T} (h : t.Sh w lo hi) (hl : lo' ≤ lo) (hh : hi ≤ hi') : t.Sh w lo' hi' := ⟨T.Sp.more hl hh t h.sp, h.nodup⟩

theorem T.sh_leaf {w : World} {lo hi : Nat} {k n : Int} {s : ByteArray} {r : Int} (h : Fit k n s 0 0 r) : (T.mk k n s none 0 [] r).Sh w lo hi :=
  ⟨T.sp_mk.2 ⟨h, fun _ => ⟨rfl, rfl⟩, fun h => absurd rfl h, by simp⟩, by rw [T.blocks_mk]; simp⟩

theorem row_list {cs : Array Value} {l : List T} (hs : cs.size = l.length * 5) (hr : RowIs cs 0 l) : cs.toList = rowCells l := by
  refine List.ext_getElem (by rw [Array.length_toList, rowCells_length, hs]) fun i h1 h2 => ?_
  rw [Array.length_toList] at h1
  have hi : i / 5 < l.length := by omega
  have hx : l[i / 5]? = some l[i / 5] := List.getElem?_eq_getElem hi
  have hc : i % 5 < l[i / 5].cells.length := by rw [T.cells_length]; omega
  have hu : l[i / 5].cells[i % 5]? = some l[i / 5].cells[i % 5] := List.getElem?_eq_getElem hc
  have e1 := hr (i / 5) _ hx (i % 5) _ hu
  have e2 := rowCells_get l (i / 5) (i % 5) _ _ hx hu
  have e3 : i / 5 * 5 + i % 5 = i := by omega
  rw [Nat.zero_add, e3] at e1
  rw [e3] at e2
  rw [List.getElem?_eq_getElem h2] at e2
  rw [Array.getElem?_eq_getElem h1] at e1
  rw [Array.getElem_toList]
  exact (Option.some.inj e1).trans (Option.some.inj e2).symm

/-- A row of so many values in a block known whole is its own. -/
theorem owns_blk {w : World} {g lo : Nat} {cs : Array Value} {l : List T} (h : Blk w g 27 cs) (hs : cs.size = l.length * 5) (hr : RowIs cs 0 l) (h0 : lo ≤ g) (hm : l.length ≤ maxLen) : w.ownsRow lo 27 5 (.slice (some ⟨g, 0, none⟩) l.length l.length) l.length (rowCells l) :=
  ⟨rowCells_length l, .inr ⟨g, l.length, cs, rfl, h0, h, Nat.le_refl _, hm, hs, by rw [row_list hs hr, List.take_of_length_le (by rw [rowCells_length]; omega)]⟩⟩

/-- A value of the same data in memory of its own. -/
def OwnP2 (v : V) (w : World) (e : Ending) (w' : World) : Prop :=
  ∃ t' : T, e = .returned t'.val ∧ t'.v = v ∧ t'.Sh w' w.heap.size w'.heap.size ∧ Fr No w w'

/-- Rows of one's own are no frozen ones. -/
theorem T.Sp.free {w : World} {lo hi : Nat} (t : T) : t.Sp w lo hi → ∀ b ∈ t.blocks, ∀ o, w.frozen? ⟨b, o, none⟩ = false := by
  induction t using T.ind with
  | h k n s A cap l r ih =>
    rw [T.sp_mk, T.blocks_mk]
    rintro ⟨h1, _, h3, h4⟩ b hb o
    rcases List.mem_append.1 hb with hb | hb
    · cases l with
      | nil => simp at hb
      | cons x l =>
        obtain ⟨ho, g, rfl, hg⟩ := h3 (by simp)
        simp at hb
        subst hb
        rcases ho.2 with ⟨h, _⟩ | ⟨g, cap, cur, h, _, hh, _⟩
        · cases h
        · simp at h
          obtain ⟨rfl, -⟩ := h
          exact Blk.frozen hh o
    · obtain ⟨bs, hbs, hb⟩ := List.mem_flatten.1 hb
      obtain ⟨x, hx, rfl⟩ := List.mem_map.1 hbs
      exact ih x hx (h4 x hx) b hb o

theorem T.Sh.ow {w : World} {lo hi : Nat} {t : T} (h : t.Sh w lo hi) : t.Ow w lo hi := ⟨h.inn, h.nodup, T.Sp.free t h.sp⟩

/-- Where the loop of 'own' stands. -/
structure OwnInv2 (w : World) (X Z : Array Value) (l : List T) (j : Nat) (l' : List T) (wr : World) : Prop where
  len : l'.length = j
  vs : l'.map T.v = (l.take j).map T.v
  fr : Fr No w wr
  b0 : Blk wr w.heap.size 27 X
  b1 : Blk wr (w.heap.size + 1) 27 Z
  row : ∃ cs, Blk wr (w.heap.size + 1 + 1) 27 cs ∧ cs.size = l.length * 5 ∧ RowIs cs 0 l'
  forest : Forest wr (w.heap.size + 3) wr.heap.size l'
  big : w.heap.size + 3 ≤ wr.heap.size
  sp : ∀ x ∈ l', x.Sp wr (w.heap.size + 3) wr.heap.size

set_option maxHeartbeats 4000000 in
theorem own2_any (t : T) : ∀ (w : World) (lo hi : Nat), t.In w lo hi → hi ≤ w.heap.size → Calls Try.prog 104 #[t.val] w (OwnP2 t.v w) := by
  induction t using T.ind with
  | h k n s A cap l r ih =>
    intro w lo hi ht hh
    rw [T.val_mk]
    have fit := (T.in_mk.1 ht).1
    have hlen := fit.len1
    obtain ⟨i0, hi0, hz0, hz1, hz2⟩ := info_parts value_info
    have hmk := fun W => run_make_rowN (P := Try.prog) 24 27 i0 _ Try.underlying24 hi0 hz0 .i64 .i64 l.length l.length (Nat.le_refl _) (by rw [hz2]; omega) (by omega) W
    rw [hz1] at hmk
    clear hi0 hz0 hz1 hz2
    by_cases hl : l.length = 0
    · have hl0 : ((l.length : Int) == 0) = true := by simp [hl]
      obtain rfl : l = [] := List.eq_nil_of_length_eq_zero hl
      clear hmk
      go_enter Try.func104, Try.ntmps104
      go_wp2
      refine bodyPost_ret (v := .agg #[.int .u8 k, .int .i64 n, .string s, .slice none 0 0, .int .i64 r]) (by simp [results, Try.results104, go_sem]) rfl ?_
      refine ⟨T.mk k n s none 0 [] r, rfl, by simp [T.v_mk], T.sh_leaf ⟨fit.k0, fit.k1, fit.n0, fit.n1, fit.s1, by simp, Nat.le_refl _, fit.r0, fit.r1⟩, ?_⟩
      exact ((Fr.refl No w).alloc _).alloc _
    · have hl0 : ((l.length : Int) == 0) = false := by simp; intro h; subst h; simp at hl
      have hl1 : (0 : Int) < (l.length : Int) := by omega
      go_enter Try.func104, Try.ntmps104
      go_wp2_with fail
      go_loopw [19] (fun i wr => ∃ (j : Nat) (l' : List T), j ≤ l.length ∧ i = .int .i64 j ∧
          OwnInv2 w #[.int .u8 k, .int .i64 n, .string s, .slice A l.length cap, .int .i64 r] #[.int .u8 0, .int .i64 0, .string ⟨#[]⟩, .slice none 0 0, .int .i64 0] l j l' wr)
        (fun i _ => l.length - (intOf i).toNat)
      case atStart =>
        refine ⟨0, [], Nat.zero_le _, rfl, rfl, by simp, (((Fr.refl No w).alloc _).alloc _).alloc _, ((Blk.new' w 27 _ rfl).alloc _).alloc _, (Blk.new' (w.alloc _) 27 _ (by simp)).alloc _,
          ⟨_, Blk.new' ((w.alloc _).alloc _) 27 _ (by simp), size_madeCells _ _, RowIs.nil _ _⟩, Forest.nil _ _ _, by simp, by simp⟩
      case round =>
        obtain ⟨j, l', hj, rfl, inv⟩ := hrel
        have fr := inv.fr
        have big := inv.big
        by_cases hlt : j < l.length
        · obtain ⟨b, o, k1, n1, s1, A1, cap1, l1, r1, rfl, hb0, hb1, hx, hin, e0, e1, e2, e3, e4⟩ := T.elem (ht.no fr hh) hlt
          have IH := ih l[j] (List.getElem_mem hlt)
          rw [hx] at IH
          have HX := hide hx
          have hle := Nat.le_of_lt hlt
          have HI := hide inv
          clear hx ih inv hmk
          go_wp2_with fail
          refine (IH _ lo hi (hin.no ((Fr.refl No wr).alloc _) (by omega)) (by simp; omega)).mono ?_
          rintro e w2 ⟨t', rfl, hv, sh, fr2⟩
          have HV := hide hv
          clear hv
          simp only [World.size_alloc] at sh
          have ow := sh.ow
          cases t' with
          | mk k2 n2 s2 A2 cap2 l2 r2 =>
            rw [T.val_mk]
            obtain ⟨cs, hb, hcs, hrow⟩ := HI.out.row
            have blk2 := (hb.alloc (.cells #[.int .u8 k1, .int .i64 n1, .string s1, .slice A1 l1.length cap1, .int .i64 r1] 27)).fr fr2 (fun h => h)
            obtain ⟨y0, x0⟩ : ∃ y, w2.cell? ⟨w.heap.size + 1 + 1, j * 5, none⟩ = some y := ⟨cs[j * 5]'(by omega), by rw [blk2.cell]; exact Array.getElem?_eq_getElem _⟩
            obtain ⟨y1, x1⟩ : ∃ y, w2.cell? ⟨w.heap.size + 1 + 1, j * 5 + 1, none⟩ = some y := ⟨cs[j * 5 + 1]'(by omega), by rw [blk2.cell]; exact Array.getElem?_eq_getElem _⟩
            obtain ⟨y2, x2⟩ : ∃ y, w2.cell? ⟨w.heap.size + 1 + 1, j * 5 + 2, none⟩ = some y := ⟨cs[j * 5 + 2]'(by omega), by rw [blk2.cell]; exact Array.getElem?_eq_getElem _⟩
            obtain ⟨y3, x3⟩ : ∃ y, w2.cell? ⟨w.heap.size + 1 + 1, j * 5 + 3, none⟩ = some y := ⟨cs[j * 5 + 3]'(by omega), by rw [blk2.cell]; exact Array.getElem?_eq_getElem _⟩
            obtain ⟨y4, x4⟩ : ∃ y, w2.cell? ⟨w.heap.size + 1 + 1, j * 5 + 4, none⟩ = some y := ⟨cs[j * 5 + 4]'(by omega), by rw [blk2.cell]; exact Array.getElem?_eq_getElem _⟩
            have xf := blk2.frozen
            have HB := hide blk2
            have HR := hide hrow
            have HC := hide hcs
            have HO := hide ow
            have HSH := hide sh
            clear sh
            clear blk2 hb hrow hcs ow
            go_wp2
            go_roundw
            case rel =>
              have inv := HI.out
              have hcs := HC.out
              have hsz2 := fr2.size
              simp only [World.size_alloc] at hsz2
              have hfar : ∀ {g : Nat} {X : Array Value}, g < w.heap.size + 2 → Blk wr g 27 X → Blk (((((w2.setCell ⟨w.heap.size + 1 + 1, j * 5, none⟩ (.int .u8 k2)).setCell ⟨w.heap.size + 1 + 1, j * 5 + 1, none⟩ (.int .i64 n2)).setCell ⟨w.heap.size + 1 + 1, j * 5 + 2, none⟩ (.string s2)).setCell
                  ⟨w.heap.size + 1 + 1, j * 5 + 3, none⟩ (.slice A2 l2.length cap2)).setCell ⟨w.heap.size + 1 + 1, j * 5 + 4, none⟩ (.int .i64 r2)) g 27 X := fun {g X} hg hX =>
                (((((((hX.alloc _).fr fr2 (fun h => h)).far (by simp; omega) _).far (by simp; omega) _).far (by simp; omega) _).far (by simp; omega) _).far (by simp; omega) _)
              have hst : Fr (· = w.heap.size + 1 + 1) w2 (((((w2.setCell ⟨w.heap.size + 1 + 1, j * 5, none⟩ (.int .u8 k2)).setCell ⟨w.heap.size + 1 + 1, j * 5 + 1, none⟩ (.int .i64 n2)).setCell ⟨w.heap.size + 1 + 1, j * 5 + 2, none⟩ (.string s2)).setCell
                  ⟨w.heap.size + 1 + 1, j * 5 + 3, none⟩ (.slice A2 l2.length cap2)).setCell ⟨w.heap.size + 1 + 1, j * 5 + 4, none⟩ (.int .i64 r2)) := (Fr.refl (fun i => i = w.heap.size + 1 + 1) w2).five (fun _ => rfl) _ _ _ _ _ _
              refine ⟨j + 1, l' ++ [T.mk k2 n2 s2 A2 cap2 l2 r2], hlt, by go_num, by simp [inv.len], ?_, ?_, hfar (by omega) inv.b0, hfar (by omega) inv.b1, ⟨_, HB.out.five _ _ _ _ _ _, ?_, ?_⟩, ?_, ?_, ?_⟩
              · rw [List.map_append, inv.vs, List.take_succ_eq_append_getElem hlt, List.map_append, List.map_singleton, List.map_singleton, HV.out, HX.out]
              · exact (((fr.alloc _).thenNo fr2).five (by omega) _ _ _ _ _ _)
              · simpa using hcs
              · have := HR.out.five (k := k2) (n := n2) (s := s2) (A := A2) (cap := cap2) (l1 := l2) (r := r2) (by rw [inv.len, hcs]; omega)
                simpa [inv.len] using this
              · have h1 : Forest w2 (w.heap.size + 3) (wr.heap.size + 1) l' := ((inv.forest.no ((Fr.refl No wr).alloc _) (Nat.le_refl _)).no fr2 (by simp)).more (Nat.le_refl _) (by omega)
                have h2 := h1.snoc HO.out (by omega) hsz2
                simpa using h2.fr hst (Nat.le_refl _) (fun i hi _ e => by omega)
              · simp; omega
              · intro x hx
                have hbl : ∀ (y : T) (lo hi : Nat), y.In w2 lo hi → w.heap.size + 3 ≤ lo → ∀ b ∈ y.blocks, ¬ b = w.heap.size + 1 + 1 := fun y lo hi hy hl b hb e => by
                  have := T.In.blocks y hy b hb; omega
                rcases List.mem_append.1 hx with hx | hx
                · have h1 := inv.sp x hx
                  have h2 := T.Sp.fr fr2 x (fun _ _ h => h) (T.Sp.fr ((Fr.refl No wr).alloc (.cells #[.int .u8 k1, .int .i64 n1, .string s1, .slice A1 l1.length cap1, .int .i64 r1] 27)) x (fun _ _ h => h) h1)
                  have h3 := T.Sp.fr hst x (hbl x _ _ (T.Sp.inn x h2) (Nat.le_refl _)) h2
                  exact T.Sp.more (Nat.le_refl _) (by simp; omega) x h3
                · simp at hx; subst hx
                  have h3 := T.Sp.fr hst _ (hbl _ _ _ HSH.out.inn (by omega)) HSH.out.sp
                  exact T.Sp.more (by omega) (by simp) _ h3
            case measure => simp [intOf]; omega
        · obtain rfl : l.length = j := by omega
          have c0 : wr.cell? ⟨w.heap.size, 0, none⟩ = some (.int .u8 k) := inv.b0.cell 0
          have c1 : wr.cell? ⟨w.heap.size, 1, none⟩ = some (.int .i64 n) := inv.b0.cell 1
          have c2 : wr.cell? ⟨w.heap.size, 2, none⟩ = some (.string s) := inv.b0.cell 2
          have c3 : wr.cell? ⟨w.heap.size, 3, none⟩ = some (.slice A l.length cap) := inv.b0.cell 3
          have c4 : wr.cell? ⟨w.heap.size, 4, none⟩ = some (.int .i64 r) := inv.b0.cell 4
          have cf := inv.b0.frozen 3
          have d0 : wr.cell? ⟨w.heap.size + 1, 0, none⟩ = some (.int .u8 0) := inv.b1.cell 0
          have d1 : wr.cell? ⟨w.heap.size + 1, 1, none⟩ = some (.int .i64 0) := inv.b1.cell 1
          have d2 : wr.cell? ⟨w.heap.size + 1, 2, none⟩ = some (.string ⟨#[]⟩) := inv.b1.cell 2
          have d3 : wr.cell? ⟨w.heap.size + 1, 3, none⟩ = some (.slice none 0 0) := inv.b1.cell 3
          have d4 : wr.cell? ⟨w.heap.size + 1, 4, none⟩ = some (.int .i64 0) := inv.b1.cell 4
          have df := inv.b1.frozen
          have HI := hide inv
          clear inv hmk ih
          go_wp2
          have inv := HI.out
          refine bodyPost_ret (v := .agg #[.int .u8 k, .int .i64 n, .string s, .slice (some ⟨w.heap.size + 1 + 1, 0, none⟩) l.length l.length, .int .i64 r]) (by simp [results, Try.results104, go_sem, *]) rfl ?_
          generalize hW : World.setCell _ _ _ = W
          have hfr : Fr (fun i => i = w.heap.size ∨ i = w.heap.size + 1) wr W := by
            rw [← hW]
            repeat (first | with_reducible exact Fr.refl _ wr | with_reducible refine Fr.set ?_ (by simp) _)
          obtain ⟨cs, hb, hcs, hrow⟩ := inv.row
          have hl' := inv.len
          have hb' : Blk W (w.heap.size + 1 + 1) 27 cs := hb.fr hfr (by omega)
          have hF : Forest W (w.heap.size + 3) wr.heap.size l' := inv.forest.fr hfr (Nat.le_refl _) (fun i h0 h1 h2 => by omega)
          have hsz := hfr.size
          refine ⟨T.mk k n s (some ⟨w.heap.size + 1 + 1, 0, none⟩) l.length l' r, by rw [T.val_mk, hl'], ?_, ?_, inv.fr.trans' hfr (fun i hi h => by omega)⟩
          · rw [T.v_mk, T.v_mk, inv.vs, List.take_of_length_le (Nat.le_refl _)]
          · have how : (T.mk k n s (some ⟨w.heap.size + 1 + 1, 0, none⟩) l.length l' r).Ow W w.heap.size W.heap.size := by
             refine T.ow_mk ⟨fit.k0, fit.k1, fit.n0, fit.n1, fit.s1, by omega, by omega, fit.r0, fit.r1⟩ (hF.more (by omega) hsz) hb' hrow (by omega) (by omega) (fun hm => ?_)
             have := hF.blocks _ hm
             omega
            refine ⟨T.sp_mk.2 ⟨(T.in_mk.1 how.inn).1, fun h => by subst h; simp at hl'; omega, fun _ => ⟨?_, _, rfl, by omega⟩, fun x hx => ?_⟩, how.nodup⟩
            · have := owns_blk (lo := w.heap.size) hb' (by rw [hcs, hl']) hrow (by omega) (by rw [hl']; unfold maxLen; omega)
              rwa [hl'] at this ⊢
            · have h1 := inv.sp x hx
              have h2 := T.Sp.fr hfr x (fun b hb h => by
                have := T.In.blocks x (T.Sp.inn x h1) b hb
                have h' : b = w.heap.size ∨ b = w.heap.size + 1 := h
                omega) h1
              exact T.Sp.more (by omega) hsz x h2

end Go.Proofs.Ytihjmipmjogpoaa

/- Texts joined: Q1, W4, Z5, P4. -/
import Derived.Test.YtihjmipmjogpoaaJn7
/- Chapter 2: the bytes of a value, there and back; the order. Plain laws, no program in sight. -/
namespace Go.Proofs.Ytihjmipmjogpoaa
open Go.RowKit


/-! ### Rows of bytes -/
def ofB (l : List Nat) : ByteArray := ⟨(l.map UInt8.ofNat).toArray⟩

theorem ba_ext {a b : ByteArray} (h : a.data.toList = b.data.toList) : a = b := by
  cases a; cases b; simp at h; exact congrArg ByteArray.mk h

theorem ofB_data (l : List Nat) : (ofB l).data.toList = l.map UInt8.ofNat := rfl
theorem ofB_nil : ofB [] = ⟨#[]⟩ := rfl
theorem ofB_append (a b : List Nat) : ofB (a ++ b) = ofB a ++ ofB b := by
  apply ba_ext; simp [ofB, ByteArray.data_append]
theorem ofB_size (l : List Nat) : (ofB l).size = l.length := by simp [ofB, ByteArray.size]
theorem strB_ofB {l : List Nat} (h : ∀ x ∈ l, x < 256) : strB (ofB l) = l := by
  unfold strB ofB
  simp only [List.map_map]
  rw [List.map_congr_left (g := id) (fun x hx => by simp [Nat.mod_eq_of_lt (h x hx)])]
  simp
theorem ofB_strB (s : ByteArray) : ofB (strB s) = s := by
  apply ba_ext
  have h : (UInt8.ofNat ∘ UInt8.toNat) = id := by funext x; simp
  simp [ofB, strB, h]
theorem encS_eq (v : V) : v.encS = ofB v.enc := by
  unfold V.encS strOfNums ofB
  simp [Function.comp_def]

theorem app_assoc (a b c : ByteArray) : a ++ b ++ c = a ++ (b ++ c) := by
  apply ba_ext; simp [ByteArray.data_append]

theorem app_nil (a : ByteArray) : a ++ ⟨#[]⟩ = a := by
  apply ba_ext; simp [ByteArray.data_append]

theorem nil_app (a : ByteArray) : (⟨#[]⟩ : ByteArray) ++ a = a := by
  apply ba_ext; simp [ByteArray.data_append]

theorem ext_left (a b : ByteArray) (n : Nat) (h : a.size = n) : (a ++ b).extract 0 n = a := by
  apply ba_ext
  have h' : a.data.toList.length = n := by rw [Array.length_toList]; exact h
  simp only [ByteArray.data_extract, ByteArray.data_append, Array.toList_extract, Array.toList_append, List.extract_eq_take_drop, List.drop_zero, Nat.sub_zero]
  rw [List.take_append_of_le_length (by omega), List.take_of_length_le (by omega)]

theorem ext_right (a b : ByteArray) (n : Nat) (h : a.size = n) : (a ++ b).extract n (a ++ b).size = b := by
  apply ba_ext
  have h' : a.data.toList.length = n := by rw [Array.length_toList]; exact h
  have h2 : (a ++ b).size = a.data.toList.length + b.data.toList.length := by
    rw [show (a ++ b).size = (a ++ b).data.toList.length from by rw [Array.length_toList]; rfl, ByteArray.data_append]; simp
  rw [h2]
  simp only [ByteArray.data_extract, ByteArray.data_append, Array.toList_extract, Array.toList_append, List.extract_eq_take_drop]
  rw [List.drop_append_of_le_length (by omega), List.drop_of_length_le (by omega), List.nil_append, List.take_of_length_le (by omega)]

theorem app_size (a b : ByteArray) : (a ++ b).size = a.size + b.size := by
  rw [show (a ++ b).size = (a ++ b).data.toList.length from by rw [Array.length_toList]; rfl, ByteArray.data_append, Array.toList_append, List.length_append, Array.length_toList, Array.length_toList]
  rfl

theorem ext_all (s : ByteArray) (n : Nat) (h : n ≤ s.size) : s.extract 0 n ++ s.extract n s.size = s := by
  apply ba_ext
  have h' : s.data.toList.length = s.size := by rw [Array.length_toList]; rfl
  simp only [ByteArray.data_extract, ByteArray.data_append, Array.toList_extract, Array.toList_append, List.extract_eq_take_drop, List.drop_zero, Nat.sub_zero]
  rw [List.take_of_length_le (l := List.drop n s.data.toList) (by simp), List.take_append_drop]

/-! ### Numbers by bytes -/
theorem foldl_big (l : List Nat) : ∀ a : Nat, l.foldl (fun a x => a * 256 + x) a = a * 256 ^ l.length + bigN l := by
  induction l with
  | nil => intro a; simp [bigN]
  | cons x l ih =>
    intro a
    simp only [List.foldl_cons, List.length_cons, bigN]
    rw [ih (a * 256 + x), ih (0 * 256 + x), Nat.zero_mul, Nat.zero_add, Nat.add_mul, Nat.pow_succ, Nat.mul_assoc a 256, Nat.mul_comm 256, Nat.add_assoc]

theorem bigN_cons (x : Nat) (l : List Nat) : bigN (x :: l) = x * 256 ^ l.length + bigN l := by
  show (x :: l).foldl (fun a x => a * 256 + x) 0 = _
  rw [List.foldl_cons, foldl_big, Nat.zero_mul, Nat.zero_add]

theorem p256 (j : Nat) : 2 ^ (8 * j) = 256 ^ j := by rw [Nat.pow_mul]

theorem bigN_hiB (n j : Nat) : bigN (hiB n j) = n % 256 ^ j := by
  induction j with
  | zero => simp [hiB, bigN, Nat.mod_one]
  | succ j ih =>
    rw [hiB, bigN_cons, hiB_length, ih, p256, Nat.pow_succ, Nat.mul_comm (256 ^ j) 256, Nat.mul_comm 256, Nat.mod_mul, Nat.mul_comm, Nat.add_comm]

theorem hiB_lt (n j : Nat) : ∀ x ∈ hiB n j, x < 256 := by
  induction j with
  | zero => simp [hiB]
  | succ j ih => intro x hx; rw [hiB] at hx; rcases List.mem_cons.1 hx with rfl | hx; exact Nat.mod_lt _ (by decide); exact ih x hx

theorem hiB_mod (n m j : Nat) (h : n % 256 ^ j = m % 256 ^ j) : hiB n j = hiB m j := by
  induction j with
  | zero => rfl
  | succ j ih =>
    have h1 : n % 256 ^ j = m % 256 ^ j := by
      have := congrArg (· % 256 ^ j) h
      simpa [Nat.pow_succ, Nat.mod_mul_right_mod] using this
    rw [hiB, hiB, ih h1, p256]
    congr 1
    rw [Nat.pow_succ, Nat.mod_mul, Nat.mod_mul, h1] at h
    have h2 := Nat.add_left_cancel h
    exact Nat.eq_of_mul_eq_mul_left (Nat.pow_pos (by decide)) h2

theorem hiB_bigN : ∀ (l : List Nat), (∀ x ∈ l, x < 256) → hiB (bigN l) l.length = l := by
  intro l
  induction l with
  | nil => intro _; rfl
  | cons x l ih =>
    intro h
    have hx := h x (by simp)
    have hl := bigN_lt l fun y hy => h y (by simp [hy])
    rw [List.length_cons, hiB, p256, bigN_cons]
    congr 1
    · rw [Nat.mul_comm, Nat.mul_add_div (Nat.pow_pos (by decide)), Nat.div_eq_of_lt hl, Nat.add_zero, Nat.mod_eq_of_lt hx]
    · rw [hiB_mod _ (bigN l) _ (by rw [Nat.mul_comm, Nat.mul_add_mod]), ih fun y hy => h y (by simp [hy])]

theorem cut_app (l : List Nat) (s : ByteArray) (n : Nat) (hl : l.length = n) (h : ∀ x ∈ l, x < 256) : cutN (ofB l ++ s) n = some (bigN l, s) := by
  have hs : (ofB l).size = n := by rw [ofB_size, hl]
  rw [cutN_some (by rw [app_size]; omega), ext_left _ _ _ hs, ext_right _ _ _ hs, strB_ofB h]

theorem cut_sound {s s' : ByteArray} {n x : Nat} (h : cutN s n = some (x, s')) : s = ofB (hiB x n) ++ s' ∧ x < 256 ^ n := by
  unfold cutN at h
  split at h
  · rename_i hn
    injection h with h
    injection h with h1 h2
    have hl : (strB (s.extract 0 n)).length = n := by rw [strB_length, ByteArray.size_extract]; omega
    have h3 := hiB_bigN (strB (s.extract 0 n)) (strB_lt _)
    rw [hl, h1] at h3
    refine ⟨?_, ?_⟩
    · rw [h3, ofB_strB, ← h2, ext_all _ _ hn]
    · rw [← h1]; have := bigN_lt _ (strB_lt (s.extract 0 n)); rwa [hl] at this
  · cases h

theorem hd_app (x : Nat) (l : List Nat) (s : ByteArray) (hx : x < 256) : hdB (ofB (x :: l) ++ s) = x ∧ (ofB (x :: l) ++ s).extract 1 (ofB (x :: l) ++ s).size = ofB l ++ s ∧ ¬ (ofB (x :: l) ++ s).size < 1 := by
  refine ⟨?_, ?_, by rw [app_size, ofB_size]; simp⟩
  · unfold hdB
    rw [ByteArray.data_append, Array.toList_append]
    show (UInt8.ofNat x).toNat = x
    simp [Nat.mod_eq_of_lt hx]
  · have e : ofB (x :: l) ++ s = ofB [x] ++ (ofB l ++ s) := by rw [← app_assoc, ← ofB_append]; rfl
    rw [e]
    exact ext_right (ofB [x]) _ 1 rfl

theorem hd_sound {s : ByteArray} (h : ¬ s.size < 1) : s = ofB [hdB s] ++ s.extract 1 s.size := by
  have h1 : s.extract 0 1 = ofB [hdB s] := by
    apply ba_ext
    have h0 : 0 < s.data.toList.length := by rw [Array.length_toList]; exact (by omega : 0 < s.size)
    simp only [ByteArray.data_extract, Array.toList_extract, List.extract_eq_take_drop, List.drop_zero, Nat.sub_zero, ofB_data, hdB, List.map_cons, List.map_nil]
    cases hd : s.data.toList with
    | nil => rw [hd] at h0; simp at h0
    | cons x l => simp
  rw [← h1, ext_all _ _ (by omega)]



/-- Numbers within 64 bits. -/
def V.rng : V → Bool
  | .mk _ n _ l _ => decide (-9223372036854775808 ≤ n) && decide (n ≤ 9223372036854775807) && (l.map V.rng).all id
termination_by v => v
theorem V.rng_mk (k n : Int) (s : ByteArray) (l : List V) (r : Int) : (V.mk k n s l r).rng = (decide (-9223372036854775808 ≤ n) && decide (n ≤ 9223372036854775807) && l.all V.rng) := by
  rw [V.rng, List.all_map]; rfl

/-- References that bytes can hold. -/
def V.low : V → Bool
  | .mk k _ _ l r => (decide (k ≠ 4) || decide (r ≤ 4294967295)) && (l.map V.low).all id
termination_by v => v
theorem V.low_mk (k n : Int) (s : ByteArray) (l : List V) (r : Int) : (V.mk k n s l r).low = ((decide (k ≠ 4) || decide (r ≤ 4294967295)) && l.all V.low) := by
  rw [V.low, List.all_map]; rfl

theorem toList_nil {s : ByteArray} (h : s.toList = []) : s = ⟨#[]⟩ := bytes_ext (by rw [h, ByteArray.toList_eq])

theorem size_sum (l : List V) : l.length ≤ (l.map V.size).sum := by
  induction l with
  | nil => simp
  | cons x l ih => have := x.size_pos; simp; omega

theorem parseL_enc (g : ByteArray → Nat → Got) (rest : ByteArray) : ∀ (l : List V) (n : Nat), (∀ v ∈ l, ∀ (n : Nat) (rest : ByteArray), v.size ≤ n → n ≤ 512 → g (ofB v.enc ++ rest) n = some (v, rest, n - v.size)) → (l.map V.size).sum ≤ n → n ≤ 512 →
    parseL g l.length (ofB (l.map V.enc).flatten ++ rest) n = some (l, rest, n - (l.map V.size).sum)
  | [], n, _, _, _ => by simp [parseL, ofB_nil, nil_app]
  | v :: l, n, h, hn, h5 => by
    simp only [List.map_cons, List.sum_cons] at hn
    have h1 := h v (by simp) n (ofB (l.map V.enc).flatten ++ rest) (by omega) h5
    rw [List.map_cons, List.flatten_cons, ofB_append, app_assoc, List.length_cons, parseL_step g _ _ _ _ h1]
    have h2 := parseL_enc g rest l (n - v.size) (fun u hu => h u (by simp [hu])) (by omega) (by omega)
    simp only
    rw [h2]
    simp only [Option.map_some, List.map_cons, List.sum_cons]
    rw [Nat.sub_sub]

theorem parse_enc (v : V) : ∀ (d n : Nat) (rest : ByteArray), v.ok = true → v.rng = true → v.low = true → v.dep ≤ d → v.size ≤ n → n ≤ 512 → parse d (ofB v.enc ++ rest) n = some (v, rest, n - v.size) := by
  induction v using V.ind with
  | h k n0 s l r ih =>
    intro d n rest hok hrng hlow hdep hsz h5
    have hp := (V.mk k n0 s l r).size_pos
    rw [V.ok_mk, Bool.and_eq_true] at hok
    obtain ⟨hf, hall⟩ := hok
    rw [V.rng_mk] at hrng
    rw [V.low_mk] at hlow
    simp only [Bool.and_eq_true, decide_eq_true_eq, List.all_eq_true, Bool.or_eq_true] at hrng hlow hall
    have hk := fok_kind hf
    have e0 : parse d (ofB (V.mk k n0 s l r).enc ++ rest) n = parseK (match d with | 0 => none | d + 1 => some (parse d)) k.toNat (ofB ((V.mk k n0 s l r).enc.tail) ++ rest) (n - 1) := by
      rw [V.enc_mk]
      obtain ⟨h1, h2, h3⟩ := hd_app k.toNat (if k = 1 then hiB ((n0 + 9223372036854775808).toNat) 8 else if k = 2 then hiB s.size 2 ++ strB s else if k = 3 then hiB l.length 2 ++ (l.map V.enc).flatten else if k = 4 then hiB r.toNat 4 else []) rest (by omega)
      have h4 : ∀ g, parseG g (ofB (k.toNat :: (if k = 1 then hiB ((n0 + 9223372036854775808).toNat) 8 else if k = 2 then hiB s.size 2 ++ strB s else if k = 3 then hiB l.length 2 ++ (l.map V.enc).flatten else if k = 4 then hiB r.toNat 4 else [])) ++ rest) n = parseK g k.toNat (ofB (if k = 1 then hiB ((n0 + 9223372036854775808).toNat) 8 else if k = 2 then hiB s.size 2 ++ strB s else if k = 3 then hiB l.length 2 ++ (l.map V.enc).flatten else if k = 4 then hiB r.toNat 4 else []) ++ rest) (n - 1) := fun g => by
        rw [parseG_eq g _ _ (by omega), h1, h2]
      cases d with
      | zero => exact h4 none
      | succ d => exact h4 (some (parse d))
    rw [e0]
    clear e0
    rw [V.enc_mk, List.tail_cons]
    rw [V.size_mk] at hsz ⊢
    have hleaf : k ≠ 3 → l = [] := fun h => List.eq_nil_of_length_eq_zero (fok_len h hf)
    rcases hk with rfl | rfl | rfl | rfl | rfl
    · have := hleaf (by decide); subst this
      simp [fok] at hf
      simp [parseK, ofB_nil, nil_app, hf, toList_nil hf.1.2]
    · have := hleaf (by decide); subst this
      simp [fok] at hf
      have hm : (n0 + 9223372036854775808).toNat % 256 ^ 8 = (n0 + 9223372036854775808).toNat := Nat.mod_eq_of_lt (by omega)
      have hc := cut_app (hiB ((n0 + 9223372036854775808).toNat) 8) rest 8 (hiB_length _ _) (hiB_lt _ _)
      rw [bigN_hiB, hm] at hc
      simp only [if_pos]
      show parseK _ 1 _ _ = _
      unfold parseK
      rw [if_neg (by decide), if_pos rfl, hc]
      simp only [Option.map_some, List.map_nil, List.sum_nil, Nat.add_zero]
      rw [show (((n0 + 9223372036854775808).toNat : Int) - 9223372036854775808) = n0 by omega, toList_nil hf.1, hf.2]
    · have := hleaf (by decide); subst this
      simp [fok] at hf
      have hc := cut_app (hiB s.size 2) (ofB (strB s) ++ rest) 2 (hiB_length _ _) (hiB_lt _ _)
      rw [bigN_hiB, Nat.mod_eq_of_lt (by omega), ofB_strB] at hc
      simp only [if_pos, if_neg (show ¬ (2 : Int) = 1 by decide)]
      show parseK _ 2 _ _ = _
      unfold parseK
      rw [if_neg (by decide), if_neg (by decide), if_neg (by decide), if_pos rfl, ofB_append, ofB_strB, app_assoc, hc]
      simp only [Option.bind_some, List.map_nil, List.sum_nil, Nat.add_zero]
      rw [if_neg (by rw [app_size]; omega), ext_left _ _ _ rfl, ext_right _ _ _ rfl, hf.1.2, hf.2]
    · simp [fok] at hf
      rw [V.dep_mk, if_pos rfl] at hdep
      have hls := size_sum l
      have hc := cut_app (hiB l.length 2) (ofB (l.map V.enc).flatten ++ rest) 2 (hiB_length _ _) (hiB_lt _ _)
      rw [bigN_hiB, Nat.mod_eq_of_lt (by omega)] at hc
      simp only [if_pos, if_neg (show ¬ (3 : Int) = 1 by decide), if_neg (show ¬ (3 : Int) = 2 by decide)]
      show parseK _ 3 _ _ = _
      unfold parseK
      rw [if_neg (by decide), if_neg (by decide), if_neg (by decide), if_neg (by decide), if_pos rfl, ofB_append, app_assoc, hc]
      cases d with
      | zero => omega
      | succ d =>
        have hL := parseL_enc (parse d) rest l (n - 1) (fun v hv n rest h1 h2 => ih v hv d n rest (hall v hv) (hrng.2 v hv) (hlow.2 v hv) (by
          have := le_top (List.mem_map_of_mem (f := V.dep) hv); omega) h1 h2) (by omega) (by omega)
        simp only [Option.bind_some]
        rw [if_neg (by omega), hL]
        simp only [Option.map_some]
        rw [Nat.sub_sub, hf.1.1, toList_nil hf.1.2, hf.2]
    · have := hleaf (by decide); subst this
      simp [fok] at hf
      have hr : r ≤ 4294967295 := by rcases hlow.1 with h | h; exact absurd rfl h; exact h
      have hm : r.toNat % 256 ^ 4 = r.toNat := Nat.mod_eq_of_lt (by omega)
      have hc := cut_app (hiB r.toNat 4) rest 4 (hiB_length _ _) (hiB_lt _ _)
      rw [bigN_hiB, hm] at hc
      simp only [if_pos, if_neg (show ¬ (4 : Int) = 1 by decide), if_neg (show ¬ (4 : Int) = 2 by decide), if_neg (show ¬ (4 : Int) = 3 by decide)]
      show parseK _ 4 _ _ = _
      unfold parseK
      rw [if_neg (by decide), if_neg (by decide), if_pos rfl, hc]
      simp only [Option.bind_some, List.map_nil, List.sum_nil, Nat.add_zero]
      rw [if_pos (by omega), show ((r.toNat : Nat) : Int) = r by omega, hf.1.2, toList_nil hf.2]

/-- What a reader's answer says of the bytes. -/
def Sound (d : Nat) (s : ByteArray) (n : Nat) (u : V) (s' : ByteArray) (n' : Nat) : Prop :=
  u.ok = true ∧ u.rng = true ∧ u.low = true ∧ u.dep ≤ d ∧ n = n' + u.size ∧ s = ofB u.enc ++ s'

theorem parseL_sound {d : Nat} {g : ByteArray → Nat → Got} (hg : ∀ s n u s' n', g s n = some (u, s', n') → Sound d s n u s' n') : ∀ (c : Nat) (s : ByteArray) (n : Nat) (l : List V) (s' : ByteArray) (n' : Nat), parseL g c s n = some (l, s', n') →
    l.length = c ∧ l.all V.ok = true ∧ l.all V.rng = true ∧ l.all V.low = true ∧ (∀ v ∈ l, v.dep ≤ d) ∧ n = n' + (l.map V.size).sum ∧ s = ofB (l.map V.enc).flatten ++ s' := by
  intro c
  induction c with
  | zero =>
    intro s n l s' n' h
    simp only [parseL, Option.some.injEq, Prod.mk.injEq] at h
    obtain ⟨rfl, rfl, rfl⟩ := h
    simp [ofB_nil, nil_app]
  | succ c ih =>
    intro s n l s' n' h
    cases hp : g s n with
    | none => rw [parseL_none _ _ _ _ hp] at h; cases h
    | some x =>
      obtain ⟨u, s1, n1⟩ := x
      rw [parseL_step _ _ _ _ _ hp] at h
      simp only at h
      cases hq : parseL g c s1 n1 with
      | none => rw [hq] at h; cases h
      | some y =>
        obtain ⟨l1, s2, n2⟩ := y
        rw [hq] at h
        simp only [Option.map_some, Option.some.injEq, Prod.mk.injEq] at h
        obtain ⟨rfl, rfl, rfl⟩ := h
        obtain ⟨a1, a2, a3, a4, a5, a6⟩ := hg _ _ _ _ _ hp
        obtain ⟨b0, b1, b2, b3, b4, b5, b6⟩ := ih _ _ _ _ _ hq
        refine ⟨by simp [b0], by simp [a1, b1], by simp [a2, b2], by simp [a3, b3], ?_, by simp; omega, ?_⟩
        · intro v hv
          rcases List.mem_cons.1 hv with rfl | hv
          · exact a4
          · exact b4 v hv
        · rw [a6, b6, List.map_cons, List.flatten_cons, ofB_append, app_assoc]

theorem parseG_sound {d : Nat} {g : Option (ByteArray → Nat → Got)} (hg : ∀ g', g = some g' → 1 ≤ d ∧ ∀ s n u s' n', g' s n = some (u, s', n') → Sound (d - 1) s n u s' n') (s : ByteArray) (n : Nat) (u : V) (s' : ByteArray) (n' : Nat) (h : parseG g s n = some (u, s', n')) : Sound d s n u s' n' := by
  by_cases h0 : s.size < 1 ∨ n = 0
  · unfold parseG at h; rw [if_pos h0] at h; cases h
  rw [parseG_eq _ _ _ h0] at h
  have hs := hd_sound (fun h => h0 (.inl h))
  have hkl := hdB_lt s
  generalize hdB s = k at *
  generalize s.extract 1 s.size = s1 at *
  subst hs
  have hn : 1 ≤ n := by omega
  clear h0
  unfold parseK at h
  by_cases k0 : k = 0
  · rw [if_pos k0] at h
    subst k0
    simp only [Option.some.injEq, Prod.mk.injEq] at h
    obtain ⟨rfl, rfl, rfl⟩ := h
    exact ⟨by simp [V.ok_mk, fok], by simp [V.rng_mk], by simp [V.low_mk], by simp [V.dep_mk], by simp [V.size_mk]; omega, by simp [V.enc_mk]⟩
  rw [if_neg k0] at h
  by_cases k1 : k = 1
  · rw [if_pos k1] at h
    subst k1
    cases hc : cutN s1 8 with
    | none => rw [hc] at h; cases h
    | some q =>
      obtain ⟨x, s2⟩ := q
      rw [hc] at h
      simp only [Option.map_some, Option.some.injEq, Prod.mk.injEq] at h
      obtain ⟨rfl, rfl, rfl⟩ := h
      obtain ⟨e1, e2⟩ := cut_sound hc
      have e3 : x < 18446744073709551616 := e2
      refine ⟨by simp [V.ok_mk, fok], by simp [V.rng_mk]; omega, by simp [V.low_mk], by simp [V.dep_mk], by simp [V.size_mk]; omega, ?_⟩
      rw [e1, V.enc_mk, if_pos rfl, ← app_assoc, ← ofB_append]
      congr 3
      rw [show ((x : Int) - 9223372036854775808 + 9223372036854775808).toNat = x by omega]
      rfl
  rw [if_neg k1] at h
  by_cases k4 : k = 4
  · rw [if_pos k4] at h
    subst k4
    cases hc : cutN s1 4 with
    | none => rw [hc] at h; cases h
    | some q =>
      obtain ⟨x, s2⟩ := q
      rw [hc] at h
      simp only [Option.bind_some] at h
      by_cases hx : 0 < x
      · rw [if_pos hx] at h
        simp only [Option.some.injEq, Prod.mk.injEq] at h
        obtain ⟨rfl, rfl, rfl⟩ := h
        obtain ⟨e1, e2⟩ := cut_sound hc
        have e3 : x < 4294967296 := e2
        refine ⟨by simp [V.ok_mk, fok]; omega, by simp [V.rng_mk], by simp [V.low_mk]; omega, by simp [V.dep_mk], by simp [V.size_mk]; omega, ?_⟩
        rw [e1, V.enc_mk, if_neg (by decide), if_neg (by decide), if_neg (by decide), if_pos rfl, ← app_assoc, ← ofB_append]
        rfl
      · rw [if_neg hx] at h; cases h
  rw [if_neg k4] at h
  by_cases k2 : k = 2
  · rw [if_pos k2] at h
    subst k2
    cases hc : cutN s1 2 with
    | none => rw [hc] at h; cases h
    | some q =>
      obtain ⟨x, s2⟩ := q
      rw [hc] at h
      simp only [Option.bind_some] at h
      by_cases hx : 256 < x ∨ s2.size < x
      · rw [if_pos hx] at h; cases h
      · rw [if_neg hx] at h
        simp only [Option.some.injEq, Prod.mk.injEq] at h
        obtain ⟨rfl, rfl, rfl⟩ := h
        obtain ⟨e1, e2⟩ := cut_sound hc
        have hsz : (s2.extract 0 x).size = x := by rw [ByteArray.size_extract]; omega
        refine ⟨by simp [V.ok_mk, fok]; omega, by simp [V.rng_mk], by simp [V.low_mk], by simp [V.dep_mk], by simp [V.size_mk]; omega, ?_⟩
        rw [e1, V.enc_mk, if_neg (by decide), if_pos rfl, hsz]
        rw [show ofB ((2 : Int).toNat :: (hiB x 2 ++ strB (s2.extract 0 x))) = ofB [2] ++ (ofB (hiB x 2) ++ s2.extract 0 x) from by
          rw [show ((2 : Int).toNat :: (hiB x 2 ++ strB (s2.extract 0 x))) = [2] ++ (hiB x 2 ++ strB (s2.extract 0 x)) from rfl, ofB_append, ofB_append, ofB_strB]]
        simp only [app_assoc]
        rw [ext_all s2 x (by omega)]
  rw [if_neg k2] at h
  by_cases k3 : k = 3
  · rw [if_pos k3] at h
    subst k3
    cases hc : cutN s1 2 with
    | none => rw [hc] at h; cases h
    | some q =>
      obtain ⟨x, s2⟩ := q
      rw [hc] at h
      simp only [Option.bind_some] at h
      cases hgg : g with
      | none => rw [hgg] at h; cases h
      | some g' =>
        rw [hgg] at h
        simp only at h
        by_cases hx : n - 1 < x
        · rw [if_pos hx] at h; cases h
        · rw [if_neg hx] at h
          cases hL : parseL g' x s2 (n - 1) with
          | none => rw [hL] at h; cases h
          | some y =>
            obtain ⟨l, s3, n3⟩ := y
            rw [hL] at h
            simp only [Option.map_some, Option.some.injEq, Prod.mk.injEq] at h
            obtain ⟨rfl, rfl, rfl⟩ := h
            obtain ⟨e1, e2⟩ := cut_sound hc
            obtain ⟨hd, hg'⟩ := hg g' hgg
            obtain ⟨b0, b1, b2, b3, b4, b5, b6⟩ := parseL_sound hg' _ _ _ _ _ _ hL
            have ht : top (l.map V.dep) ≤ d - 1 := top_le fun y hy => by
              obtain ⟨v, hv, rfl⟩ := List.mem_map.1 hy
              exact b4 v hv
            refine ⟨by simp [V.ok_mk, fok, b1], by simp [V.rng_mk, b2], by simp [V.low_mk, b3], by rw [V.dep_mk, if_pos rfl]; omega, by rw [V.size_mk]; omega, ?_⟩
            rw [e1, b6, V.enc_mk, if_neg (by decide), if_neg (by decide), if_pos rfl, b0]
            rw [show ofB ((3 : Int).toNat :: (hiB x 2 ++ (l.map V.enc).flatten)) = ofB [3] ++ (ofB (hiB x 2) ++ ofB (l.map V.enc).flatten) from by
              rw [← ofB_append, ← ofB_append]; rfl]
            simp only [app_assoc]
  · rw [if_neg k3] at h; cases h

theorem parse_sound (d : Nat) : ∀ (s : ByteArray) (n : Nat) (u : V) (s' : ByteArray) (n' : Nat), parse d s n = some (u, s', n') → Sound d s n u s' n' := by
  induction d with
  | zero => exact fun s n u s' n' h => parseG_sound (fun g' h => by cases h) s n u s' n' h
  | succ d ih => exact fun s n u s' n' h => parseG_sound (fun g' h => by cases h; exact ⟨by omega, ih⟩) s n u s' n' h



theorem refs_low (v : V) : ∀ p, (∀ r ∈ refsOf (v.walk p), r ≤ 4294967295) ↔ v.low = true := by
  induction v using V.ind with
  | h k n s l r ih =>
    intro p
    have hl : ∀ (l : List V) (i : Nat), (∀ x ∈ l, ∀ p, (∀ r ∈ refsOf (x.walk p), r ≤ 4294967295) ↔ x.low = true) → ((∀ r ∈ refsOf (walkL (l.map V.walk) i p), r ≤ 4294967295) ↔ ∀ x ∈ l, x.low = true) := by
      intro l
      induction l with
      | nil => intro i _; simp [walkL, refsOf]
      | cons x l ih2 =>
        intro i h
        have h1 := h x (by simp) (p ++ [(i : Int)])
        have h2 := ih2 (i + 1) fun y hy => h y (by simp [hy])
        simp only [List.map_cons, walkL, refsOf_append, List.mem_append, List.mem_cons, forall_eq_or_imp]
        rw [← h1, ← h2]
        exact ⟨fun h => ⟨fun r hr => h r (.inl hr), fun r hr => h r (.inr hr)⟩, fun ⟨a, b⟩ r hr => hr.elim (a r) (b r)⟩
    have h0 := hl l 0 ih
    rw [V.walk_mk, V.low_mk]
    simp only [refsOf, Bool.and_eq_true, Bool.or_eq_true, decide_eq_true_eq, List.all_eq_true]
    rw [← h0]
    by_cases hk : k = 4
    · simp [hk]
    · simp [hk]

theorem hasBytes_iff (v : V) : v.hasBytes ↔ v.may = true ∧ v.low = true := by
  unfold V.hasBytes V.refs
  constructor
  · rintro ⟨h1, h2⟩
    rw [if_pos h1] at h2
    exact ⟨h1, (refs_low v []).1 h2⟩
  · rintro ⟨h1, h2⟩
    rw [if_pos h1]
    exact ⟨h1, (refs_low v []).2 h2⟩

/-! ### The order -/
theorem less_self (l : List UInt8) : Op.bytesLess l l = false := by
  induction l with
  | nil => rfl
  | cons x l ih => simp [Op.bytesLess, ih]

theorem ordL_self (l : List V) : (∀ x ∈ l, x.ord x = 0) → ordL (l.map V.ord) l = 0 := by
  induction l with
  | nil => intro _; rfl
  | cons x l ih => intro h; simp only [List.map_cons, ordL]; rw [if_pos (h x (by simp)), ih fun y hy => h y (by simp [hy])]

theorem ord_self (u : V) : u.ord u = 0 := by
  induction u using V.ind with
  | h k n s l r ih =>
    rw [V.ord_mk, ordOf, if_pos rfl]
    split
    · simp [cmpI]
    split
    · simp [cmpS, less_self]
    split
    · simp [cmpI]
    exact ordL_self l ih

theorem ordL_eq (l : List V) : ∀ l' : List V, (∀ x ∈ l, ∀ y : V, y ∈ l' → x.ord y = 0 → x = y) → ordL (l.map V.ord) l' = 0 → l = l' := by
  induction l with
  | nil =>
    intro l' _ h
    cases l' with
    | nil => rfl
    | cons y l' => simp [ordL] at h
  | cons x l ih =>
    intro l' hx h
    cases l' with
    | nil => simp [ordL] at h
    | cons y l' =>
      simp only [List.map_cons, ordL] at h
      by_cases h0 : x.ord y = 0
      · rw [if_pos h0] at h
        rw [hx x (by simp) y (by simp) h0, ih l' (fun a ha b hb => hx a (by simp [ha]) b (by simp [hb])) h]
      · rw [if_neg h0] at h; exact absurd h h0

theorem cmpI_zero {a b : Int} (h : cmpI a b = 0) : a = b := by
  unfold cmpI at h
  split at h
  · cases h
  · split at h
    · cases h
    · omega

theorem cmpS_zero {a b : ByteArray} (h : cmpS a b = 0) : a = b := by
  unfold cmpS at h
  split at h
  · cases h
  · split at h
    · rename_i h2; exact bytes_ext (by simpa using h2)
    · cases h

theorem ord_eq (u : V) : ∀ v : V, u.ok = true → v.ok = true → u.ord v = 0 → u = v := by
  induction u using V.ind with
  | h k n s l r ih =>
    intro v hu hv hc
    cases v with
    | mk k' n' s' l' r' =>
      rw [V.ok_mk] at hu hv
      simp only [Bool.and_eq_true, List.all_eq_true] at hu hv
      obtain ⟨fu, au⟩ := hu
      obtain ⟨fv, av⟩ := hv
      rw [V.ord_mk, ordOf] at hc
      by_cases hk : k = k'
      · subst hk
        rw [if_pos rfl] at hc
        have hl0 : k ≠ 3 → l = [] ∧ l' = [] := fun h => ⟨List.eq_nil_of_length_eq_zero (fok_len h fu), List.eq_nil_of_length_eq_zero (fok_len h fv)⟩
        rcases fok_kind fu with rfl | rfl | rfl | rfl | rfl
        · obtain ⟨rfl, rfl⟩ := hl0 (by decide)
          simp [fok] at fu fv
          rw [fu.1.1, fv.1.1, fu.2, fv.2, toList_nil fu.1.2, toList_nil fv.1.2]
        · obtain ⟨rfl, rfl⟩ := hl0 (by decide)
          simp [fok] at fu fv
          rw [if_pos rfl] at hc
          rw [cmpI_zero hc, fu.2, fv.2, toList_nil fu.1, toList_nil fv.1]
        · obtain ⟨rfl, rfl⟩ := hl0 (by decide)
          simp [fok] at fu fv
          rw [if_neg (by decide), if_pos rfl] at hc
          rw [cmpS_zero hc, fu.2, fv.2, fu.1.2, fv.1.2]
        · simp [fok] at fu fv
          rw [if_neg (by decide), if_neg (by decide), if_neg (by decide)] at hc
          rw [ordL_eq l l' (fun x hx y hy h => ih x hx y (au x hx) (av y hy) h) hc, fu.1.1, fv.1.1, fu.2, fv.2, toList_nil fu.1.2, toList_nil fv.1.2]
        · obtain ⟨rfl, rfl⟩ := hl0 (by decide)
          simp [fok] at fu fv
          rw [if_neg (by decide), if_neg (by decide), if_pos rfl] at hc
          rw [cmpI_zero hc, fu.1.2, fv.1.2, toList_nil fu.2, toList_nil fv.2]
      · rw [if_neg hk] at hc
        exact absurd (cmpI_zero hc) hk

theorem same2_iff {u v : V} (hu : u.may = true) (hv : v.may = true) : u.same2 v = true ↔ u = v := by
  unfold V.same2
  rw [hu, hv]
  simp only [Bool.true_and, decide_eq_true_eq]
  exact ⟨ord_eq u v (may_ok hu) (may_ok hv), fun h => by subst h; exact ord_self u⟩

theorem same2_self {u : V} (hu : u.may = true) : u.same2 u = true := (same2_iff hu hu).2 rfl

/-! ### Bytes of numbers, in order -/
theorem less_cons (a b : Nat) (x y : List Nat) (ha : a < 256) (hb : b < 256) : Op.bytesLess ((a :: x).map UInt8.ofNat) ((b :: y).map UInt8.ofNat) = (decide (a < b) || (decide (a = b) && Op.bytesLess (x.map UInt8.ofNat) (y.map UInt8.ofNat))) := by
  simp only [List.map_cons, Op.bytesLess]
  have e1 : (decide (UInt8.ofNat a < UInt8.ofNat b)) = decide (a < b) := by
    rw [decide_eq_decide, UInt8.lt_iff_toNat_lt]; simp [Nat.mod_eq_of_lt ha, Nat.mod_eq_of_lt hb]
  have e2 : (UInt8.ofNat a == UInt8.ofNat b) = decide (a = b) := by
    rw [Bool.eq_iff_iff]
    simp only [beq_iff_eq, decide_eq_true_eq]
    constructor
    · intro h
      have := congrArg UInt8.toNat h
      simpa [Nat.mod_eq_of_lt ha, Nat.mod_eq_of_lt hb] using this
    · rintro rfl; rfl
  rw [e1, e2]

theorem less_hiB (j : Nat) : ∀ m n : Nat, Op.bytesLess ((hiB m j).map UInt8.ofNat) ((hiB n j).map UInt8.ofNat) = decide (m % 256 ^ j < n % 256 ^ j) := by
  induction j with
  | zero => intro m n; simp [hiB, Op.bytesLess, Nat.mod_one]
  | succ j ih =>
    intro m n
    rw [hiB, hiB, less_cons _ _ _ _ (Nat.mod_lt _ (by decide)) (Nat.mod_lt _ (by decide)), ih, p256, Nat.pow_succ, Nat.mod_mul, Nat.mod_mul]
    have h1 : m % 256 ^ j < 256 ^ j := Nat.mod_lt _ (Nat.pow_pos (by decide))
    have h2 : n % 256 ^ j < 256 ^ j := Nat.mod_lt _ (Nat.pow_pos (by decide))
    generalize m % 256 ^ j = a at *
    generalize n % 256 ^ j = b at *
    generalize m / 256 ^ j % 256 = x at *
    generalize n / 256 ^ j % 256 = y at *
    generalize 256 ^ j = P at *
    rw [Bool.eq_iff_iff]
    simp only [Bool.or_eq_true, Bool.and_eq_true, decide_eq_true_eq]
    rcases Nat.lt_trichotomy x y with h | h | h
    · have : P * (x + 1) ≤ P * y := Nat.mul_le_mul_left _ h
      rw [Nat.mul_add] at this
      exact ⟨fun _ => by omega, fun _ => .inl h⟩
    · subst h
      exact ⟨fun h => by rcases h with h | h <;> omega, fun h => .inr ⟨rfl, by omega⟩⟩
    · have : P * (y + 1) ≤ P * x := Nat.mul_le_mul_left _ h
      rw [Nat.mul_add] at this
      exact ⟨fun h => by omega, fun h => by omega⟩

theorem encS_list (v : V) : v.encS.toList = v.enc.map UInt8.ofNat := by
  rw [encS_eq, ByteArray.toList_eq, ofB_data]

theorem less_num {n n' : Int} {s s' : ByteArray} {l l' : List V} {r r' : Int} (h1 : -9223372036854775808 ≤ n) (h2 : n ≤ 9223372036854775807) (h3 : -9223372036854775808 ≤ n') (h4 : n' ≤ 9223372036854775807) :
    Op.bytesLess (V.mk 1 n s l r).encS.toList (V.mk 1 n' s' l' r').encS.toList = decide (n < n') := by
  rw [encS_list, encS_list, V.enc_mk, V.enc_mk, if_pos rfl, if_pos rfl, less_cons _ _ _ _ (by decide) (by decide), less_hiB]
  rw [Nat.mod_eq_of_lt (show (n + 9223372036854775808).toNat < 256 ^ 8 by omega), Nat.mod_eq_of_lt (show (n' + 9223372036854775808).toNat < 256 ^ 8 by omega)]
  rw [Bool.eq_iff_iff]; simp; omega

theorem less_ref {n n' : Int} {s s' : ByteArray} {l l' : List V} {r r' : Int} (h1 : 0 ≤ r) (h2 : r ≤ 4294967295) (h3 : 0 ≤ r') (h4 : r' ≤ 4294967295) :
    Op.bytesLess (V.mk 4 n s l r).encS.toList (V.mk 4 n' s' l' r').encS.toList = decide (r < r') := by
  rw [encS_list, encS_list, V.enc_mk, V.enc_mk]
  simp only [if_neg (show ¬ (4 : Int) = 1 by decide), if_neg (show ¬ (4 : Int) = 2 by decide), if_neg (show ¬ (4 : Int) = 3 by decide), if_pos]
  rw [less_cons _ _ _ _ (by decide) (by decide), less_hiB]
  rw [Nat.mod_eq_of_lt (show r.toNat < 256 ^ 4 by omega), Nat.mod_eq_of_lt (show r'.toNat < 256 ^ 4 by omega)]
  rw [Bool.eq_iff_iff]; simp; omega

/-! ### There and back -/
theorem front_back {v : V} (hb : v.hasBytes) (hr : v.rng = true) (s : ByteArray) : parse 16 (v.encS ++ s) 512 = some (v, s, 512 - v.size) := by
  obtain ⟨hm, hl⟩ := (hasBytes_iff v).1 hb
  have h := hm
  simp only [V.may, V.fits, Bool.and_eq_true, decide_eq_true_eq] at h
  rw [encS_eq]
  exact parse_enc v 16 512 s h.1.1 hr hl h.2 h.1.2 (Nat.le_refl _)

theorem read_back {v : V} (hb : v.hasBytes) (hr : v.rng = true) : parse 16 v.encS 512 = some (v, ⟨#[]⟩, 512 - v.size) := by
  have := front_back hb hr ⟨#[]⟩
  rwa [app_nil] at this

theorem encS_inj {u v : V} (hu : u.hasBytes) (hv : v.hasBytes) (ru : u.rng = true) (rv : v.rng = true) : u.encS = v.encS ↔ u = v := by
  constructor
  · intro h
    have h1 := read_back hu ru
    rw [h, read_back hv rv] at h1
    simp only [Option.some.injEq, Prod.mk.injEq] at h1
    exact h1.1.symm
  · rintro rfl; rfl

theorem parse_has {s s' : ByteArray} {u : V} {n' : Nat} (h : parse 16 s 512 = some (u, s', n')) : u.hasBytes ∧ u.rng = true ∧ s = u.encS ++ s' := by
  obtain ⟨h1, h2, h3, h4, h5, h6⟩ := parse_sound 16 _ _ _ _ _ h
  exact ⟨(hasBytes_iff u).2 ⟨by simp [V.may, V.fits, h1, h4]; omega, h3⟩, h2, by rw [encS_eq]; exact h6⟩

end Go.Proofs.Ytihjmipmjogpoaa

/- Chapter 2: value.Bytes. -/
namespace Go.Proofs.Ytihjmipmjogpoaa
open Go.RowKit

theorem enc_length (v : V) : v.ok = true → v.enc.length ≤ 259 * v.size := by
  induction v using V.ind with
  | h k n s l r ih =>
    intro hok
    rw [V.ok_mk, Bool.and_eq_true] at hok
    obtain ⟨hf, hall⟩ := hok
    rw [V.enc_mk, V.size_mk, List.length_cons]
    have hsum : ((l.map V.enc).flatten).length ≤ 259 * (l.map V.size).sum := by
      clear hf
      induction l with
      | nil => simp
      | cons x l ih2 =>
        simp only [List.all_cons, Bool.and_eq_true] at hall
        have h1 := ih x (by simp) hall.1
        have h2 := ih2 (fun y hy => ih y (by simp [hy])) hall.2
        simp only [List.map_cons, List.flatten_cons, List.length_append, List.sum_cons]
        omega
    by_cases h1 : k = 1
    · rw [if_pos h1, hiB_length]; omega
    rw [if_neg h1]
    by_cases h2 : k = 2
    · rw [if_pos h2, List.length_append, hiB_length, strB_length]
      subst h2
      simp [fok] at hf
      omega
    rw [if_neg h2]
    by_cases h3 : k = 3
    · rw [if_pos h3, List.length_append, hiB_length]; omega
    rw [if_neg h3]
    by_cases h4 : k = 4
    · rw [if_pos h4, hiB_length]; omega
    · rw [if_neg h4]; simp; omega

theorem enc_pos (v : V) : 0 < v.enc.length := by
  cases v; rw [V.enc_mk]; simp

theorem conv_owned {w : World} {base : Nat} {A : Option Addr} {cap : Nat} {L : List Nat} (h : w.ownsRow base 5 1 (.slice A L.length cap) L.length (byteCells L)) (hne : 0 < L.length) :
    (convert 151 9 (.slice A L.length cap)).run Try.prog w = .ok (.string (strOfNums (L.map fun (x : Nat) => (x : Int)))) w := by
  obtain ⟨g, rfl, hg, hc⟩ := owns_cells (f := fun (x : Nat) => Value.int .u8 (x : Int)) h hne
  refine run_convert_bytes_arg w 151 5 Try.underlying151 Try.underlying5 g 0 L.length cap (L.map fun (x : Nat) => (x : Int)) (by simp) (fun i hi => ?_) 9 Try.underlying9
  rw [Nat.zero_add, hc i L[i] (List.getElem?_eq_getElem hi)]
  simp [List.getD, List.getElem?_eq_getElem hi]

set_option maxRecDepth 100000 in
set_option maxHeartbeats 4000000 in
theorem Bytes_any (t : T) (w : World) (lo hi : Nat) (ht : t.In w lo hi) (hh : hi ≤ w.heap.size) : Calls Try.prog 46 #[t.val] w (BytesP t.v w) := by
  have hM := fun w' h h' => may_any t w' lo hi h h'
  have hR := fun w' h h' => Refs_any t w' lo hi h h'
  have hWr := write_any t
  cases t with
  | mk k n s A cap l r =>
    rw [T.val_mk] at *
    generalize hu : (T.mk k n s A cap l r).v = u at *
    have fr1 := (Fr.refl No w).alloc (.cells #[.int .u8 k, .int .i64 n, .string s, .slice A l.length cap, .int .i64 r] 27)
    have hK := Blk.new' w 27 #[.int .u8 k, .int .i64 n, .string s, .slice A l.length cap, .int .i64 r] rfl
    have ht1 := ht.no fr1 hh
    have hs1 := Nat.le_trans hh fr1.size
    have HU := hide hu
    clear hu ht
    cases hm : u.may with
    | false =>
      have hP : ∀ w', Fr No w w' → BytesP u w (.returned (.tuple #[.string ⟨#[]⟩, .int .i64 2])) w' := fun w' f => ⟨f, (fun h => absurd h.1 (by rw [hm]; simp)), fun _ => rfl⟩
      have HP := hide hP
      rw [hm] at hM
      clear hm hP hWr hR
      go_enter Try.func46, Try.ntmps46
      go_wp2_with fail
      refine (hM _ ht1 hs1).mono ?_
      rintro e w2 ⟨rfl, fr2⟩
      go_wp2
      go_ret2
      exact HP.out _ (fr1.trans fr2)
    | true =>
      have hok := may_ok hm
      have hsz : u.size ≤ 512 := by simp [V.may, V.fits] at hm; omega
      have hrl : u.refs.length ≤ 1000000 := by
        have h1 := refsOf_length (u.walk [])
        rw [walk_length] at h1
        have : u.refs = refsOf (u.walk []) := by simp [V.refs, hm]
        rw [this]; omega
      have hel := enc_length u hok
      have HMM := hide hm
      rw [hm] at hM
      clear hm
      go_enter Try.func46, Try.ntmps46
      go_wp2_with fail
      generalize World.alloc w _ = W0 at *
      refine (hM _ ht1 hs1).mono ?_
      rintro e w2 ⟨rfl, fr2⟩
      have hK2 := hK.fr fr2 fun h => h
      obtain ⟨c0, c1, c2, c3, c4, cf⟩ := hK2.cells5
      have ht2 := ht1.no fr2 hs1
      have hs2 := Nat.le_trans hs1 fr2.size
      have HF2 := hide (fr1.trans fr2)
      clear fr1 fr2 hK hM
      go_wp2_with fail
      refine (hR _ ht2 hs2).mono ?_
      rintro e w3 ⟨vr, rfl, hor, fr3⟩
      obtain ⟨Ar, cr, rfl⟩ := owns_form hor
      have hC := contains_any Ar cr u.refs w2.heap.size w3 hrl hor
      have hK3 := hK2.fr fr3 fun h => h
      have ht3 := ht2.no fr3 hs2
      have hs3 := Nat.le_trans hs2 fr3.size
      have HF3 := hide (HF2.out.trans fr3)
      clear c0 c1 c2 c3 c4 cf hor fr3 hK2 hR
      go_wp2_with fail
      refine hC.mono ?_
      rintro e w4 ⟨⟨q, rfl, hq⟩, fr4⟩
      have hK4 := hK3.fr fr4 fun h => h
      obtain ⟨c0, c1, c2, c3, c4, cf⟩ := hK4.cells5
      have ht4 := ht3.no fr4 hs3
      have hs4 := Nat.le_trans hs3 fr4.size
      have HF4 := hide (HF3.out.trans fr4)
      have HQ := hide hq
      clear fr4 hq hK3 hC
      cases q with
      | true =>
        have hP : ∀ w', Fr No w w' → BytesP u w (.returned (.tuple #[.string ⟨#[]⟩, .int .i64 2])) w' := fun w' f => ⟨f, (fun h => by
          obtain ⟨r, hr, hb⟩ := HQ.out.1 rfl
          have := h.2 r hr
          omega), fun _ => rfl⟩
        have HP := hide hP
        clear hP
        go_wp2
        go_ret2
        exact HP.out _ HF4.out
      | false =>
        have hhas : u.hasBytes := ⟨HMM.out, fun r hr => by
          rcases Int.lt_or_le 4294967295 r with h | h
          · exact absurd (HQ.out.2 ⟨r, hr, h⟩) (by simp)
          · exact h⟩
        have hw := hWr (.slice none 0 0) [] w4.heap.size w4 lo hi ht4 hs4 (Nat.le_refl _) hok (World.ownsRow_nil _ _ _ _) (by simp; omega)
        have HW := hide hw
        have HH := hide hhas
        clear hw hhas hWr
        go_wp2_with fail
        refine HW.out.mono ?_
        rintro e w5 ⟨v5, rfl, ho5, f5⟩
        rw [List.nil_append] at ho5
        obtain ⟨A5, c5, rfl⟩ := owns_form ho5
        have hcv := conv_owned ho5 (enc_pos u)
        have f6 : Fr No w w5 := HF4.out.trans' f5 fun i hi h => by have := HF4.out.size; have := h.1; omega
        have HF6 := hide f6
        clear ho5 f5 f6 c0 c1 c2 c3 c4 cf hK4
        go_wp2
        go_ret2
        exact ⟨HF6.out, fun _ => rfl, fun h => absurd HH.out h⟩

end Go.Proofs.Ytihjmipmjogpoaa

/- Chapter 2: awake: its calls, each at its closed data. -/
namespace Go.Proofs.Ytihjmipmjogpoaa
open Go.RowKit

/-- A value without a list, in memory. -/
def lf (k n : Int) (s : ByteArray) (r : Int) : T := .mk k n s none 0 [] r

theorem lf_v (k n : Int) (s : ByteArray) (r : Int) : (lf k n s r).v = .mk k n s [] r := by rw [lf, T.v_mk]; rfl
theorem lf_val (k n : Int) (s : ByteArray) (r : Int) : (lf k n s r).val = .agg #[.int .u8 k, .int .i64 n, .string s, .slice none 0 0, .int .i64 r] := rfl
theorem lf_in {k n r : Int} (w : World) (lo hi : Nat) (h0 : 0 ≤ k) (h1 : k < 256) (h2 : -100 ≤ n) (h3 : n ≤ 100) (h4 : -100 ≤ r) (h5 : r ≤ 100) : (lf k n ⟨#[]⟩ r).In w lo hi := by
  rw [lf, T.in_mk]; exact ⟨⟨h0, h1, by omega, by omega, by decide, by decide, Nat.le_refl _, by omega, by omega⟩, fun h => absurd rfl h, by simp⟩

def awC1 : Array Value := #[.int .u8 4, .int .i64 0, .string ⟨#[]⟩, .slice none 0 0, .int .i64 7]
def awC2 (g : Nat) : Array Value := #[.int .u8 1, .int .i64 1, .string ⟨#[]⟩, .slice none 0 0, .int .i64 0, .int .u8 3, .int .i64 0, .string ⟨#[]⟩, .slice (some ⟨g, 0, none⟩) 1 1, .int .i64 0]

/-- The value that awake builds, as it lies in memory. -/
def awT (g1 g2 : Nat) : T := .mk 3 0 ⟨#[]⟩ (some ⟨g2, 0, none⟩) 2 [lf 1 1 ⟨#[]⟩ 0, .mk 3 0 ⟨#[]⟩ (some ⟨g1, 0, none⟩) 1 [lf 4 0 ⟨#[]⟩ 7] 0] 0

theorem awT_v (g1 g2 : Nat) : (awT g1 g2).v = awV := by
  rw [awT, T.v_mk]; simp [lf_v, T.v_mk, awV]
theorem awT_val (g1 g2 : Nat) : (awT g1 g2).val = .agg #[.int .u8 3, .int .i64 0, .string ⟨#[]⟩, .slice (some ⟨g2, 0, none⟩) 2 2, .int .i64 0] := rfl

theorem fit3 (n : Nat) (h : n ≤ 100) : Fit 3 0 ⟨#[]⟩ n n 0 := ⟨by decide, by decide, by decide, by decide, by decide, by omega, Nat.le_refl _, by decide, by decide⟩

theorem five_cells (x : T) (c : Nat) (u : Value) (h : x.cells[c]? = some u) : c < 5 := by
  rcases Nat.lt_or_ge c 5 with hlt | hge
  · exact hlt
  · rw [List.getElem?_eq_none (by rw [T.cells_length]; exact hge)] at h; cases h

theorem awT_in {w : World} {g1 g2 lo hi : Nat} (h1 : Blk w g1 27 awC1) (h2 : Blk w g2 27 (awC2 g1)) (a : lo ≤ g1) (b : g1 < hi) (c : lo ≤ g2) (d : g2 < hi) : (awT g1 g2).In w lo hi := by
  rw [awT, T.in_mk]
  refine ⟨fit3 2 (by decide), fun _ => ⟨g2, 0, rfl, c, d, fun i x hx j u hu => ?_⟩, ?_⟩
  · have hj := five_cells x j u hu
    rw [h2.cell]
    match i, hx with
    | 0, hx =>
      simp at hx; subst hx
      match j, hu with
      | 0, hu => exact hu
      | 1, hu => exact hu
      | 2, hu => exact hu
      | 3, hu => exact hu
      | 4, hu => exact hu
      | c + 5, hu => omega
    | 1, hx =>
      simp at hx; subst hx
      match j, hu with
      | 0, hu => exact hu
      | 1, hu => exact hu
      | 2, hu => exact hu
      | 3, hu => exact hu
      | 4, hu => exact hu
      | c + 5, hu => omega
    | i + 2, hx => simp at hx
  · intro x hx
    simp at hx
    rcases hx with rfl | rfl
    · exact lf_in _ _ _ (by decide) (by decide) (by decide) (by decide) (by decide) (by decide)
    · rw [T.in_mk]
      refine ⟨fit3 1 (by decide), fun _ => ⟨g1, 0, rfl, a, b, fun i x hx j u hu => ?_⟩, ?_⟩
      · have hj := five_cells x j u hu
        rw [h1.cell]
        match i, hx with
        | 0, hx =>
          simp at hx; subst hx
          match j, hu with
          | 0, hu => exact hu
          | 1, hu => exact hu
          | 2, hu => exact hu
          | 3, hu => exact hu
          | 4, hu => exact hu
          | c + 5, hu => omega
        | i + 1, hx => simp at hx
      · intro x hx
        simp at hx
        subst hx
        exact lf_in _ _ _ (by decide) (by decide) (by decide) (by decide) (by decide) (by decide)

theorem toL0 : (⟨#[]⟩ : ByteArray).toList = [] := by rw [ByteArray.toList_eq]

theorem aw_may : awV.may = true := by simp [awV, V.may, V.fits, V.ok_mk, V.size_mk, V.dep_mk, fok, toL0, top]
theorem aw_size : awV.size = 4 := by simp [awV, V.size_mk]
theorem aw_dep : awV.dep = 2 := by simp [awV, V.dep_mk, top]
theorem aw_low : awV.low = true := by simp [awV, V.low_mk]
theorem aw_has : awV.hasBytes := (hasBytes_iff _).2 ⟨aw_may, aw_low⟩
theorem aw_encS : awV.encS = awS := by rw [encS_eq, aw_enc]; rfl
theorem aw_at : atOf awV [1, 0] = (.mk 4 0 ⟨#[]⟩ [] 7, 0) := by
  unfold atOf; rw [if_pos aw_may]; rfl

section
variable {w : World} {g1 g2 : Nat} (h1 : Blk w g1 27 awC1) (h2 : Blk w g2 27 (awC2 g1))
include h1 h2
theorem aw_in : (awT g1 g2).In w 0 w.heap.size := awT_in h1 h2 (Nat.zero_le _) h1.lt (Nat.zero_le _) h2.lt

theorem aw_bytes : Calls Try.prog 46 #[.agg #[.int .u8 3, .int .i64 0, .string ⟨#[]⟩, .slice (some ⟨g2, 0, none⟩) 2 2, .int .i64 0]] w fun e w' => e = .returned (.tuple #[.string awS, .int .i64 0]) ∧ Fr No w w' := by
  have h := Bytes_any (awT g1 g2) w 0 w.heap.size (aw_in h1 h2) (Nat.le_refl _)
  rw [awT_v, awT_val] at h
  refine h.mono fun e w' hp => ⟨?_, hp.1⟩
  rw [hp.2.1 aw_has, aw_encS]

theorem aw_atc {g : Nat} (hp : Blk w g 3 #[.int .i64 1, .int .i64 0]) : Calls Try.prog 68 #[.agg #[.int .u8 3, .int .i64 0, .string ⟨#[]⟩, .slice (some ⟨g2, 0, none⟩) 2 2, .int .i64 0], .slice (some ⟨g, 0, none⟩) 2 2] w
    fun e w' => (∃ A cap, e = .returned (.tuple #[.agg #[.int .u8 4, .int .i64 0, .string ⟨#[]⟩, .slice A 0 cap, .int .i64 7], .int .i64 0])) ∧ Fr No w w' := by
  have hI : Ints w 0 w.heap.size (some ⟨g, 0, none⟩) 2 [1, 0] := by
    refine ⟨by decide, by decide, fun _ => ⟨g, 0, rfl, Nat.zero_le _, hp.lt, fun i x hx => ?_⟩, ?_⟩
    · rw [hp.cell]
      match i, hx with
      | 0, hx => simp at hx; subst hx; rfl
      | 1, hx => simp at hx; subst hx; rfl
      | i + 2, hx => simp at hx
    · intro x hx; simp at hx; rcases hx with rfl | rfl <;> decide
  have h := At_any (awT g1 g2) w 0 w.heap.size (aw_in h1 h2) (Nat.le_refl _) (some ⟨g, 0, none⟩) 2 [1, 0] 0 w.heap.size hI (Nat.le_refl _)
  rw [awT_v, awT_val, aw_at] at h
  refine h.mono fun e w' ⟨t', he, hv, _, hf⟩ => ⟨?_, hf⟩
  obtain ⟨k, n, s, A, cap, l, r⟩ := t'
  rw [T.v_mk] at hv
  injection hv with q1 q2 q3 q4 q5
  subst q1 q2 q3 q5
  obtain rfl : l = [] := by simpa using q4
  exact ⟨A, cap, he⟩

theorem aw_same {t : T} (ht : t.v = awV) (hin : t.In w 0 w.heap.size) : Calls Try.prog 54 #[t.val, .agg #[.int .u8 3, .int .i64 0, .string ⟨#[]⟩, .slice (some ⟨g2, 0, none⟩) 2 2, .int .i64 0]] w fun e w' => e = .returned (.bool true) ∧ Fr No w w' := by
  have h := vsame_any t (awT g1 g2) w 0 w.heap.size hin (aw_in h1 h2) (Nat.le_refl _)
  rw [awT_v, ht, same2_self aw_may] at h
  exact h

theorem aw_parts : Calls Try.prog 56 #[.agg #[.int .u8 3, .int .i64 0, .string ⟨#[]⟩, .slice (some ⟨g2, 0, none⟩) 2 2, .int .i64 0]] w fun e w' => e = .returned (.int .i64 4) ∧ Fr No w w' := by
  have h := Parts_any (awT g1 g2) w 0 w.heap.size (aw_in h1 h2) (Nat.le_refl _)
  rw [awT_v] at h
  have e : awV.meas = 4 := by simp [V.meas, aw_may, aw_size]
  rw [e] at h
  exact h

theorem aw_deep : Calls Try.prog 57 #[.agg #[.int .u8 3, .int .i64 0, .string ⟨#[]⟩, .slice (some ⟨g2, 0, none⟩) 2 2, .int .i64 0]] w fun e w' => e = .returned (.int .i64 2) ∧ Fr No w w' := by
  have h := Deep_any (awT g1 g2) w 0 w.heap.size (aw_in h1 h2) (Nat.le_refl _)
  rw [awT_v, if_pos aw_may, aw_dep] at h
  exact h

theorem aw_mayc : Calls Try.prog 58 #[.agg #[.int .u8 3, .int .i64 0, .string ⟨#[]⟩, .slice (some ⟨g2, 0, none⟩) 2 2, .int .i64 0]] w fun e w' => e = .returned (.bool true) ∧ Fr No w w' := by
  have h := may_any (awT g1 g2) w 0 w.heap.size (aw_in h1 h2) (Nat.le_refl _)
  rw [awT_v, aw_may] at h
  exact h

theorem aw_each : Calls Try.prog 41 #[.agg #[.int .u8 3, .int .i64 0, .string ⟨#[]⟩, .slice (some ⟨g2, 0, none⟩) 2 2, .int .i64 0]] w fun e w' => e = .returned (.func (.func 105) #[] #[.pointer (some ⟨w.heap.size, 0, none⟩)]) ∧ Fr No w w' := by
  have h := Each_yes (awT g1 g2) w 0 w.heap.size (aw_in h1 h2) (Nat.le_refl _) (by rw [awT_v]; exact aw_may)
  rw [awT_v] at h
  refine h.mono fun e w' hp => ⟨?_, hp.fr⟩
  obtain ⟨_, _, _, _, _, _, _, he, _⟩ := hp.yes aw_may
  exact he
end

theorem aw_read (w : World) : Calls Try.prog 48 #[.string awS] w fun e w' => (∃ t : T, t.v = awV ∧ e = .returned (.tuple #[t.val, .int .i64 0]) ∧ t.In w' 0 w'.heap.size) ∧ Fr No w w' := by
  refine (Read_any awS w).mono fun e w' hp => ⟨?_, hp.fr⟩
  obtain ⟨t, h1, h2, h3⟩ := hp.yes awV 508 (by decide) aw_parse
  exact ⟨t, h1, h2, T.In.more (Nat.zero_le _) (Nat.le_refl _) _ h3⟩

theorem aw_order (w : World) : Calls Try.prog 55 #[.agg #[.int .u8 1, .int .i64 1, .string ⟨#[]⟩, .slice none 0 0, .int .i64 0], .agg #[.int .u8 1, .int .i64 2, .string ⟨#[]⟩, .slice none 0 0, .int .i64 0]] w fun e w' => e = .returned (.tuple #[.int .i64 (-1), .int .i64 0]) ∧ Fr No w w' := by
  have h := vorder_any (lf 1 1 ⟨#[]⟩ 0) (lf 1 2 ⟨#[]⟩ 0) w 0 0 (lf_in _ _ _ (by decide) (by decide) (by decide) (by decide) (by decide) (by decide)) (lf_in _ _ _ (by decide) (by decide) (by decide) (by decide) (by decide) (by decide)) (Nat.zero_le _)
  have m1 : (V.mk 1 1 ⟨#[]⟩ [] 0).may = true := by simp [V.may, V.fits, V.ok_mk, V.size_mk, V.dep_mk, fok, toL0]
  have m2 : (V.mk 1 2 ⟨#[]⟩ [] 0).may = true := by simp [V.may, V.fits, V.ok_mk, V.size_mk, V.dep_mk, fok, toL0]
  have o : (V.mk 1 1 ⟨#[]⟩ [] 0).ord (V.mk 1 2 ⟨#[]⟩ [] 0) = -1 := by rw [V.ord_mk]; rfl
  rw [lf_v, lf_v, m1, m2, o] at h
  exact h

end Go.Proofs.Ytihjmipmjogpoaa

/- Chapter 2: the law's own spoil: it writes over a value's lists, and grows them. -/
namespace Go.Proofs.Ytihjmipmjogpoaa
open Go.RowKit

def m5 : T := lf 1 (-5) ⟨#[]⟩ 0
def m6 : T := lf 1 (-6) ⟨#[]⟩ 0

/-- A row whose first parts are written over. -/
def spRow (l : List T) (j : Nat) : List T := List.replicate j m5 ++ l.drop j

theorem spRow_zero (l : List T) : spRow l 0 = l := by simp [spRow]
theorem spRow_length {l : List T} {j : Nat} (h : j ≤ l.length) : (spRow l j).length = l.length := by simp [spRow]; omega
theorem spRow_at {l : List T} {j : Nat} (h : j < l.length) : (spRow l j)[j]? = some l[j] := by
  rw [spRow, List.getElem?_append_right (by simp)]
  simp [h]
theorem spRow_set {l : List T} {j : Nat} (h : j < l.length) : (spRow l j).set j m5 = spRow l (j + 1) := by
  rw [spRow, spRow, List.set_append_right _ _ (by simp), List.length_replicate, Nat.sub_self, List.drop_eq_getElem_cons h, List.set_cons_zero, List.replicate_succ', List.append_assoc]
  rfl
theorem spRow_all (l : List T) : spRow l l.length = List.replicate l.length m5 := by simp [spRow]

/-- Five cells of a row of one's own written over. -/
theorem owns_set5 {w : World} {lo g n cap j : Nat} {L : List T} (h : w.ownsRow lo 27 5 (.slice (some ⟨g, 0, none⟩) n cap) n (rowCells L)) (hL : L.length = n) (hj : j < n) (k1 n1 : Int) (s1 : ByteArray) (A1 : Option Addr) (c1 : Nat) (l1 : List T) (r1 : Int) :
    (((((w.setCell ⟨g, j * 5, none⟩ (.int .u8 k1)).setCell ⟨g, j * 5 + 1, none⟩ (.int .i64 n1)).setCell ⟨g, j * 5 + 2, none⟩ (.string s1)).setCell ⟨g, j * 5 + 3, none⟩ (.slice A1 l1.length c1)).setCell ⟨g, j * 5 + 4, none⟩ (.int .i64 r1)).ownsRow lo 27 5 (.slice (some ⟨g, 0, none⟩) n cap) n (rowCells (L.set j (T.mk k1 n1 s1 A1 c1 l1 r1))) := by
  refine ⟨by rw [rowCells_length, List.length_set, hL], ?_⟩
  rcases h.2 with ⟨h', _⟩ | ⟨g', cap', cur, hv, hb, hg, hc, hm, hs, hx⟩
  · cases h'
  · simp at hv
    obtain ⟨rfl, rfl⟩ := hv
    have hB := (show Blk w g 27 cur from hg).five (j * 5) (.int .u8 k1) (.int .i64 n1) (.string s1) (.slice A1 l1.length c1) (.int .i64 r1)
    refine .inr ⟨g, cap, _, rfl, hb, hB, hc, hm, by simp [hs], ?_⟩
    refine List.ext_getElem? fun q => ?_
    have hsz : n * 5 ≤ cur.size := by rw [hs]; exact Nat.mul_le_mul_right _ hc
    by_cases hq : q < n * 5
    · have hi : q / 5 < n := by omega
      have hL2 : q / 5 < (L.set j (T.mk k1 n1 s1 A1 c1 l1 r1)).length := by rw [List.length_set, hL]; exact hi
      have hcl : q % 5 < ((L.set j (T.mk k1 n1 s1 A1 c1 l1 r1))[q / 5]).cells.length := by rw [T.cells_length]; omega
      have e1 := rowCells_get _ (q / 5) (q % 5) _ _ (List.getElem?_eq_getElem hL2) (List.getElem?_eq_getElem hcl)
      rw [show q / 5 * 5 + q % 5 = q by omega] at e1
      rw [e1, List.getElem?_take, if_pos hq, Array.getElem?_toList]
      simp only [Array.getElem?_setIfInBounds, Array.size_setIfInBounds]
      by_cases hqj : q / 5 = j
      · have hget : (L.set j (T.mk k1 n1 s1 A1 c1 l1 r1))[q / 5] = T.mk k1 n1 s1 A1 c1 l1 r1 := by
          rw [List.getElem_set, if_pos hqj.symm]
        have h5 : q % 5 = 0 ∨ q % 5 = 1 ∨ q % 5 = 2 ∨ q % 5 = 3 ∨ q % 5 = 4 := by omega
        have hqq : q = j * 5 + q % 5 := by omega
        have hlt : q < cur.size := by omega
        rcases h5 with h5 | h5 | h5 | h5 | h5
        all_goals
          rw [h5] at hqq
          simp only [hget, h5, T.cells_mk]
          subst hqq
          simp
          try omega
      · have hget : (L.set j (T.mk k1 n1 s1 A1 c1 l1 r1))[q / 5] = L[q / 5]'(by omega) := by
          rw [List.getElem_set, if_neg (fun h => hqj h.symm)]
        rw [if_neg (by omega), if_neg (by omega), if_neg (by omega), if_neg (by omega), if_neg (by omega)]
        have hcl' : q % 5 < (L[q / 5]'(by omega)).cells.length := by rw [T.cells_length]; omega
        have e2 := rowCells_get L (q / 5) (q % 5) _ _ (List.getElem?_eq_getElem (by omega)) (List.getElem?_eq_getElem hcl')
        rw [show q / 5 * 5 + q % 5 = q by omega, ← hx, List.getElem?_take, if_pos hq, Array.getElem?_toList] at e2
        rw [e2]
        simp only [hget]
    · rw [List.getElem?_eq_none (by simp; omega), List.getElem?_eq_none (by rw [rowCells_length, List.length_set, hL]; omega)]

theorem owns_five {w : World} {lo g n cap j : Nat} {L : List T} (h : w.ownsRow lo 27 5 (.slice (some ⟨g, 0, none⟩) n cap) n (rowCells L)) {k1 n1 : Int} {s1 : ByteArray} {A1 : Option Addr} {c1 : Nat} {l1 : List T} {r1 : Int} (hx : L[j]? = some (T.mk k1 n1 s1 A1 c1 l1 r1)) :
    w.cell? ⟨g, j * 5, none⟩ = some (.int .u8 k1) ∧ w.cell? ⟨g, j * 5 + 1, none⟩ = some (.int .i64 n1) ∧ w.cell? ⟨g, j * 5 + 2, none⟩ = some (.string s1) ∧ w.cell? ⟨g, j * 5 + 3, none⟩ = some (.slice A1 l1.length c1) ∧ w.cell? ⟨g, j * 5 + 4, none⟩ = some (.int .i64 r1) ∧ (∀ o, w.frozen? ⟨g, o, none⟩ = false) ∧ g < w.heap.size := by
  have hc : ∀ c u, (T.mk k1 n1 s1 A1 c1 l1 r1).cells[c]? = some u → w.cell? ⟨g, j * 5 + c, none⟩ = some u := fun c u hu => by
    have := World.ownsRow.cells h (g := g) rfl _ _ (rowCells_get L j c _ u hx hu)
    rwa [add_at, Nat.zero_add] at this
  refine ⟨hc 0 _ rfl, hc 1 _ rfl, hc 2 _ rfl, hc 3 _ rfl, hc 4 _ rfl, fun o => ?_, (owns_lt h g rfl).2⟩
  rcases h.2 with ⟨h', _⟩ | ⟨g', cap', cur, hv, hb, hg, _⟩
  · cases h'
  · simp at hv
    obtain ⟨rfl, rfl⟩ := hv
    exact Blk.frozen hg o

/-- Where spoil's first loop stands. -/
structure SpInv (w : World) (lo hi : Nat) (k n : Int) (s : ByteArray) (A : Option Addr) (cap : Nat) (l : List T) (r : Int) (j : Nat) (wr : World) : Prop where
  fr : Fr (fun i => i ∈ (T.mk k n s A cap l r).blocks) w wr
  box : Blk wr w.heap.size 27 #[.int .u8 k, .int .i64 n, .string s, .slice A l.length cap, .int .i64 r]
  own : wr.ownsRow lo 27 5 (.slice A l.length cap) l.length (rowCells (spRow l j))
  sp : ∀ i (h : i < l.length), j ≤ i → l[i].Sp wr lo hi

theorem sp_child_ne {k n : Int} {s : ByteArray} {g o cap : Nat} {l : List T} {r : Int} (h : (T.mk k n s (some ⟨g, o, none⟩) cap l r).blocks.Nodup) {x : T} (hx : x ∈ l) : g ∉ x.blocks := by
  intro hg
  rw [T.blocks_mk] at h
  have hne : l.isEmpty = false := by cases l with
    | nil => cases hx
    | cons => rfl
  rw [hne] at h
  simp only [Bool.false_eq_true, if_false, Option.map_some, Option.toList_some, List.singleton_append, List.nodup_cons] at h
  exact h.1 (List.mem_flatten.2 ⟨_, List.mem_map_of_mem hx, hg⟩)

theorem nodup_at {L : List (List Nat)} (h : L.flatten.Nodup) {i j : Nat} (hi : i < L.length) (hj : j < L.length) (hij : i < j) {b : Nat} (hb : b ∈ L[i]) : b ∉ L[j] := by
  induction L generalizing i j with
  | nil => simp at hi
  | cons a L ih =>
    rw [List.flatten_cons, List.nodup_append] at h
    cases i with
    | zero =>
      cases j with
      | zero => omega
      | succ j =>
        intro h2
        exact h.2.2 b hb b (List.mem_flatten.2 ⟨_, List.getElem_mem (by simpa using hj), h2⟩) rfl
    | succ i =>
      cases j with
      | zero => omega
      | succ j => exact ih h.2.1 (by simpa using hi) (by simpa using hj) (by omega) hb

theorem sp_child_far {k n : Int} {s : ByteArray} {A : Option Addr} {cap : Nat} {l : List T} {r : Int} (h : (T.mk k n s A cap l r).blocks.Nodup) {i j : Nat} (hi : i < l.length) (hj : j < l.length) (hij : i < j) {b : Nat} (hb : b ∈ l[j].blocks) : b ∉ l[i].blocks := by
  rw [T.blocks_mk, List.nodup_append] at h
  intro hb2
  have := nodup_at (L := l.map T.blocks) h.2.1 (i := i) (j := j) (by simpa using hi) (by simpa using hj) hij (b := b) (by simpa using hb2)
  exact this (by simpa using hb)

theorem sp_child_nodup {k n : Int} {s : ByteArray} {A : Option Addr} {cap : Nat} {l : List T} {r : Int} (h : (T.mk k n s A cap l r).blocks.Nodup) {x : T} (hx : x ∈ l) : x.blocks.Nodup := by
  rw [T.blocks_mk, List.nodup_append] at h
  have h2 := h.2.1
  clear h
  induction l with
  | nil => cases hx
  | cons a l ih =>
    rw [List.map_cons, List.flatten_cons, List.nodup_append] at h2
    rcases List.mem_cons.1 hx with rfl | hx
    · exact h2.1
    · exact ih hx h2.2.1

/-- One part is spoiled, then written over. -/
theorem sp_push {w wr w2 w3 : World} {lo hi : Nat} {k n : Int} {s : ByteArray} {g cap : Nat} {l : List T} {r : Int} {j : Nat} (inv : SpInv w lo hi k n s (some ⟨g, 0, none⟩) cap l r j wr) (hnd : (T.mk k n s (some ⟨g, 0, none⟩) cap l r).blocks.Nodup) (hj : j < l.length) (hh : hi ≤ w.heap.size) (hlo : ∀ x ∈ l, x.In w lo hi)
    (f2 : Fr (fun i => i ∈ l[j].blocks) wr w2) (f3 : Fr No w2 w3) :
    Blk w3 w.heap.size 27 #[.int .u8 k, .int .i64 n, .string s, .slice (some ⟨g, 0, none⟩) l.length cap, .int .i64 r] ∧ w3.ownsRow lo 27 5 (.slice (some ⟨g, 0, none⟩) l.length cap) l.length (rowCells (spRow l j)) ∧
    (g < w.heap.size → SpInv w lo hi k n s (some ⟨g, 0, none⟩) cap l r (j + 1) (((((w3.setCell ⟨g, j * 5, none⟩ (.int .u8 1)).setCell ⟨g, j * 5 + 1, none⟩ (.int .i64 (-5))).setCell ⟨g, j * 5 + 2, none⟩ (.string ⟨#[]⟩)).setCell ⟨g, j * 5 + 3, none⟩ (.slice none 0 0)).setCell ⟨g, j * 5 + 4, none⟩ (.int .i64 0))) := by
  have F : Fr (fun i => i ∈ l[j].blocks) wr w3 := f2.thenNo f3
  have hmem := List.getElem_mem hj
  have hbl : ∀ b ∈ l[j].blocks, lo ≤ b ∧ b < hi := T.In.blocks _ (hlo _ hmem)
  have hg := sp_child_ne hnd hmem
  have b3 := inv.box.fr F (fun h => by have := hbl _ h; omega)
  have o3 := owns_fr inv.own F (fun g' h => by simp [Value.ownBlock] at h; subst h; exact hg)
  refine ⟨b3, o3, fun hgs => ?_⟩
  have F5 := (Fr.refl (fun i => i = g) w3).five (g := g) (fun _ => rfl) (j * 5) (.int .u8 1) (.int .i64 (-5)) (.string ⟨#[]⟩) (.slice none 0 0) (.int .i64 0)
  have hgm : g ∈ (T.mk k n s (some ⟨g, 0, none⟩) cap l r).blocks := T.mem_blocks (by rintro rfl; simp at hj)
  refine ⟨?_, ?_, ?_, fun i hi' hij => ?_⟩
  · refine (inv.fr.trans' F fun i _ h => T.sub_blocks hmem h).trans' F5 fun i _ h => ?_
    have h' : i = g := h
    rw [h']; exact hgm
  · exact b3.fr F5 (fun h => by have h' : w.heap.size = g := h; omega)
  · have := owns_set5 o3 (spRow_length (Nat.le_of_lt hj)) hj 1 (-5) ⟨#[]⟩ none 0 [] 0
    rw [show T.mk 1 (-5) ⟨#[]⟩ none 0 [] 0 = m5 from rfl, spRow_set hj] at this
    exact this
  · have h1 := inv.sp i hi' (by omega)
    have h2 := T.Sp.fr F _ (fun b hb => sp_child_far hnd hj hi' (by omega) hb) h1
    exact T.Sp.fr F5 _ (fun b hb h => by have h' : b = g := h; subst h'; exact sp_child_ne hnd (List.getElem_mem hi') hb) h2

set_option maxRecDepth 100000 in
set_option maxHeartbeats 8000000 in
theorem spoil_any (t : T) : ∀ (w : World) (lo hi : Nat), t.Sh w lo hi → hi ≤ w.heap.size → lo ≤ w.heap.size → t.v.size ≤ 1000000 →
    Calls Try.prog 44 #[t.val] w fun e w' => (∃ z : Nat, e = .returned (.int .i64 (z : Int)) ∧ 0 < z ∧ z + 1 ≤ 6 * t.v.size) ∧ Fr (fun i => i ∈ t.blocks) w w' := by
  induction t using T.ind with
  | h k n s A cap l r ih =>
    intro w lo hi hsh hh hlow hsz
    have hin := hsh.inn
    have fit := (T.in_mk.1 hin).1
    have hlen := fit.len1
    have hsp := T.sp_mk.1 hsh.sp
    have hnd := hsh.nodup
    rw [T.val_mk]
    have hsize : (T.mk k n s A cap l r).v.size = 1 + ((l.map T.v).map V.size).sum := by rw [T.v_mk, V.size_mk]
    rw [hsize] at hsz ⊢
    have hls := size_sum (l.map T.v)
    rw [List.length_map] at hls
    have hfr0 : Fr (fun i => i ∈ (T.mk k n s A cap l r).blocks) w (w.alloc (.cells #[.int .u8 k, .int .i64 n, .string s, .slice A l.length cap, .int .i64 r] 27)) := (Fr.refl _ w).alloc _
    have hinv0 : SpInv w lo hi k n s A cap l r 0 (w.alloc (.cells #[.int .u8 k, .int .i64 n, .string s, .slice A l.length cap, .int .i64 r] 27)) := by
      refine ⟨hfr0, Blk.new w 27 _, ?_, fun i h _ => T.Sp.fr ((Fr.refl No w).alloc _) _ (fun _ _ h => h) (hsp.2.2.2 _ (List.getElem_mem h))⟩
      rw [spRow_zero]
      by_cases hl : l = []
      · obtain ⟨h1, h2⟩ := hsp.2.1 hl
        subst hl h1 h2
        exact World.ownsRow_nil _ _ _ _
      · exact (hsp.2.2.1 hl).1.alloc _
    have hAg : l ≠ [] → ∃ g, A = some ⟨g, 0, none⟩ ∧ g < hi := fun hl => (hsp.2.2.1 hl).2
    have hlo : ∀ x ∈ l, x.In w lo hi := (T.in_mk.1 hin).2.2
    obtain ⟨i0, hi0, hz0, hz1, hz2⟩ := info_parts value_info
    have HS := hide hsize
    clear hsize hfr0
    go_enter Try.func44, Try.ntmps44
    go_wp2_with fail
    go_loopw [3, 4] (fun v i wr => ∃ j m : Nat, j ≤ l.length ∧ i = .int .i64 (j : Int) ∧ v = .int .i64 (m : Int) ∧ m + j ≤ 6 * (((l.map T.v).map V.size).take j).sum ∧ SpInv w lo hi k n s A cap l r j wr) (fun _ i _ => l.length - (intOf i).toNat)
    case atStart => exact ⟨0, 0, Nat.zero_le _, rfl, rfl, by simp, hinv0⟩
    case round =>
      obtain ⟨j, m, hj, rfl, rfl, hm, inv⟩ := hrel
      obtain ⟨c0, c1, c2, c3, c4, cf⟩ := inv.box.cells5
      have q0 := inv.box.lt
      have hts := sum_take_le ((l.map T.v).map V.size) j
      by_cases hlt : j < l.length
      · obtain ⟨g, rfl, hg⟩ := hAg (by rintro rfl; simp at hlt)
        have hcase := ih l[j] (List.getElem_mem hlt) wr lo hi ⟨inv.sp j hlt (Nat.le_refl _), sp_child_nodup hnd (List.getElem_mem hlt)⟩ (by have := inv.fr.size; omega) (by have := inv.fr.size; omega)
        have hto := sum_take_succ ((l.map T.v).map V.size) j (by simpa using hlt)
        have hts2 := sum_take_le ((l.map T.v).map V.size) (j + 1)
        rw [List.getElem_map, List.getElem_map] at hto
        have hpush := fun w2 w3 (f2 : Fr (fun i => i ∈ l[j].blocks) wr w2) (f3 : Fr No w2 w3) => sp_push inv hnd hlt hh hlo f2 f3
        have hat := spRow_at hlt
        cases hx : l[j] with
        | mk k1 n1 s1 A1 cap1 l1 r1 =>
          rw [hx] at hcase hto hpush hat
          rw [T.val_mk] at hcase
          obtain ⟨e0, e1, e2, e3, e4, ef, eg⟩ := owns_five inv.own hat
          generalize (T.mk k1 n1 s1 A1 cap1 l1 r1).v.size = z at *
          generalize (T.mk k1 n1 s1 A1 cap1 l1 r1).blocks = bl at *
          have hcase2 := hcase (by omega)
          have HC := hide hcase2
          have HTO := hide hto
          have HP := hide hpush
          have HAT := hide hat
          have hmz : m ≤ 6000000 := by omega
          have hm2 : m + j ≤ 6 * (((l.map T.v).map V.size).take j).sum := hm
          have HM := hide hm2
          have hzz : z ≤ 1000000 := by omega
          have hgs : g < w.heap.size := by omega
          clear hcase hcase2 hto hpush hat hx ih inv hinv0 hin hsh hnd hsp hAg hts hts2 hm hm2 hlo
          go_wp2_with fail
          refine HC.out.mono ?_
          rintro e w2 ⟨⟨y, rfl, hy0, hy1⟩, f2⟩
          obtain ⟨b2, o2, -⟩ := HP.out w2 w2 f2 (Fr.refl No w2)
          clear c0 c1 c2 c3 c4 cf q0 e0 e1 e2 e3 e4 ef eg
          obtain ⟨c0, c1, c2, c3, c4, cf⟩ := b2.cells5
          have q0 := b2.lt
          have HB2 := hide b2
          have HO2 := hide o2
          have HF2 := hide f2
          clear b2 o2 f2
          have hyb : y ≤ 6000000 := by omega
          have hnum := fun w3 => num2_any (-5) w3
          have hadd : m + y + (j + 1) ≤ 6 * (((l.map T.v).map V.size).take (j + 1)).sum := by
            rw [HTO.out]; have := HM.out; omega
          have HADD := hide hadd
          clear hadd
          go_wp2_with fail
          go_region_law (go_simp; go_at_call 79; (with_reducible refine (hnum _).mono ?_); rintro e w3 ⟨rfl, f3⟩; obtain ⟨b3, o3, hi3⟩ := HP.out w2 w3 HF2.out ⟨f3.os, f3.tape, f3.output, f3.size, f3.block⟩; obtain ⟨x0, x1, x2, x3, x4, xf, xg⟩ := owns_five o3 HAT.out; obtain ⟨d0, d1, d2, d3, d4, df⟩ := b3.cells5; have HI3 := hide (hi3 hgs); clear b3 o3 hi3)
          all_goals
            go_wp2
            go_roundw
            case rel => exact ⟨j + 1, m + y, hlt, by go_num, by go_num, HADD.out, HI3.out⟩
            case measure => simp [intOf]; omega
      · obtain rfl : l.length = j := by omega
        have hown := inv.own
        rw [spRow_all] at hown
        have hAb : ∀ g, (Value.slice A l.length cap).ownBlock = some g → g ∈ (T.mk k n s A cap l r).blocks ∨ w.heap.size ≤ g := fun g hg => by
          by_cases hl : l = []
          · obtain ⟨h1, _⟩ := hsp.2.1 hl
            subst h1; cases hg
          · obtain ⟨g', rfl, _⟩ := hAg hl
            simp [Value.ownBlock] at hg
            subst hg
            exact .inl (T.mem_blocks hl)
        have hst : Fr (fun i => i ∈ (T.mk k n s A cap l r).blocks) w wr := inv.fr
        have hm0 : m + l.length ≤ 6 * ((l.map T.v).map V.size).sum := by
          rw [List.take_of_length_le (by simp)] at hm; exact hm
        have HM := hide hm0
        have HOWN := hide hown
        have HAB := hide hAb
        have HST := hide hst
        have hmm : m ≤ 6000000 := by omega
        clear hown hAb hst hm hm0 inv ih hinv0 hsp hnd hsh hin hlo hAg hts
        go_wp2_with fail
        clear c0 c1 c2 c3 c4 cf q0
        go_loopw [5, 6] (fun v i wk => ∃ (c : Nat) (A3 : Option Addr) (cap3 : Nat), c ≤ 5 ∧ i = .int .i64 (c : Int) ∧ v = .slice A3 (l.length + c) cap3 ∧ wk.ownsRow lo 27 5 (.slice A3 (l.length + c) cap3) (l.length + c) (rowCells (List.replicate l.length m5 ++ List.replicate c m6)) ∧
          Fr (fun i => i ∈ (T.mk k n s A cap l r).blocks) w wk ∧ (∀ g, (Value.slice A3 (l.length + c) cap3).ownBlock = some g → g ∈ (T.mk k n s A cap l r).blocks ∨ w.heap.size ≤ g)) (fun _ i _ => 5 - (intOf i).toNat)
        case atStart => exact ⟨0, A, cap, by omega, rfl, rfl, by simpa using HOWN.out, HST.out, HAB.out⟩
        case round =>
          obtain ⟨c, A3, cap3, hc, rfl, rfl, own3, fr3, hb3⟩ := hrel
          by_cases hc5 : c < 5
          · have HO3 := hide own3
            have HF3 := hide fr3
            have HB3 := hide hb3
            have hsz3 := fr3.size
            have hnum := fun w3 => num2_any (-6) w3
            clear own3 fr3 hb3
            go_wp2_with fail
            refine (hnum wr).mono ?_
            rintro e w4 ⟨rfl, f4⟩
            have hs4 := f4.size
            have hownA := (owns_fr HO3.out f4 fun _ _ h => h).alloc (.cells #[.int .u8 1, .int .i64 (-6), .string ⟨#[]⟩, .slice none 0 0, .int .i64 0] 27)
            have HF4 := hide f4
            clear f4
            go_wp2_with (at_builtin; refine wpList_append_lies _ (by rfl) _ _ _ (by rfl) lo 27 i0 _ 5 64 Try.underlying24 hi0 hz0 hz1 hz2 (by rfl) (by omega) (.slice A3 (l.length + c) cap3) (l.length + c) (rowCells (List.replicate l.length m5 ++ List.replicate c m6)) (by rfl) hownA ⟨w4.heap.size, 0, none⟩ 1 1 [.int .u8 1, .int .i64 (-6), .string ⟨#[]⟩, .slice none 0 0, .int .i64 0] (by rfl) (by rfl) (World.news_of_block (Blk.new w4 27 _)) (by simp [Value.oneCell']) (by omega) (by unfold maxLen; omega) (by omega) (by simp; omega) (w4.heap.size + 1) (by simp) ?_; intro g cp w5 hown5 hgrow hat hlt5; have HO5 := hide hown5; have HG := hide hgrow; have HA := hide hat; clear hown5 hgrow hat)
            go_roundw
            case rel =>
              refine ⟨c + 1, some ⟨g, 0, none⟩, cp, by omega, by go_num, rfl, ?_, ?_, ?_⟩
              · have h := HO5.out
                rw [List.replicate_succ', ← List.append_assoc, rowCells_snoc]
                exact h
              · refine (((HF3.out.thenNo HF4.out).alloc _).trans' (fr_grown HG.out) fun i hi h => ?_)
                have h' : some i = (Value.slice A3 (l.length + c) cap3).ownBlock := h
                rcases HB3.out i h'.symm with h | h
                · exact h
                · omega
              · intro g' hg'
                simp [Value.ownBlock] at hg'
                subst hg'
                rcases HA.out with h | h
                · exact HB3.out _ h
                · right; omega
            case measure => simp [intOf]; omega
          · obtain rfl : c = 5 := by omega
            have HF3 := hide fr3
            clear fr3 own3 hb3
            go_wp2
            go_ret
            refine ⟨⟨m + (l.length + 5), by go_num, by omega, ?_⟩, HF3.out⟩
            have := HM.out
            omega

end Go.Proofs.Ytihjmipmjogpoaa

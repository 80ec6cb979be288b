/- Texts joined: W4, Z5, P4, Bt2, S1, Bt3. -/
import Derived.Test.YtihjmipmjogpoaaJn11
/- Chapter 2: value.Bytes. -/
namespace Go.Proofs.Ytihjmipmjogpoaa
open Go.RowKit

theorem enc_length (v : V) : v.ok = true → v.enc.length ≤ 259 * v.size := by
  induction v using V.ind with
  | h k n s l r ih =>
    intro hok
    rw [V.ok_mk, Bool.and_eq_true] at hok
    obtain ⟨hf, hall⟩ := hok
    rw [V.enc_mk, V.size_mk, List.length_cons]
    have hsum : ((l.map V.enc).flatten).length ≤ 259 * (l.map V.size).sum := by
      clear hf
      induction l with
      | nil => simp
      | cons x l ih2 =>
        simp only [List.all_cons, Bool.and_eq_true] at hall
        have h1 := ih x (by simp) hall.1
        have h2 := ih2 (fun y hy => ih y (by simp [hy])) hall.2
        simp only [List.map_cons, List.flatten_cons, List.length_append, List.sum_cons]
        omega
    by_cases h1 : k = 1
    · rw [if_pos h1, hiB_length]; omega
    rw [if_neg h1]
    by_cases h2 : k = 2
    · rw [if_pos h2, List.length_append, hiB_length, strB_length]
      subst h2
      simp [fok] at hf
      omega
    rw [if_neg h2]
    by_cases h3 : k = 3
    · rw [if_pos h3, List.length_append, hiB_length]; omega
    rw [if_neg h3]
    by_cases h4 : k = 4
    · rw [if_pos h4, hiB_length]; omega
    · rw [if_neg h4]; simp; omega

theorem enc_pos (v : V) : 0 < v.enc.length := by
  cases v; rw [V.enc_mk]; simp

theorem conv_owned {w : World} {base : Nat} {A : Option Addr} {cap : Nat} {L : List Nat} (h : w.ownsRow base 5 1 (.slice A L.length cap) L.length (byteCells L)) (hne : 0 < L.length) :
    (convert 151 9 (.slice A L.length cap)).run Try.prog w = .ok (.string (strOfNums (L.map fun (x : Nat) => (x : Int)))) w := by
  obtain ⟨g, rfl, hg, hc⟩ := owns_cells (f := fun (x : Nat) => Value.int .u8 (x : Int)) h hne
  refine run_convert_bytes_arg w 151 5 Try.underlying151 Try.underlying5 g 0 L.length cap (L.map fun (x : Nat) => (x : Int)) (by simp) (fun i hi => ?_) 9 Try.underlying9
  rw [Nat.zero_add, hc i L[i] (List.getElem?_eq_getElem hi)]
  simp [List.getD, List.getElem?_eq_getElem hi]

set_option maxRecDepth 100000 in
set_option maxHeartbeats 4000000 in
theorem Bytes_any (t : T) (w : World) (lo hi : Nat) (ht : t.In w lo hi) (hh : hi ≤ w.heap.size) : Calls Try.prog 46 #[t.val] w (BytesP t.v w) := by
  have hM := fun w' h h' => may_any t w' lo hi h h'
  have hR := fun w' h h' => Refs_any t w' lo hi h h'
  have hWr := write_any t
  cases t with
  | mk k n s A cap l r =>
    rw [T.val_mk] at *
    generalize hu : (T.mk k n s A cap l r).v = u at *
    have fr1 := (Fr.refl No w).alloc (.cells #[.int .u8 k, .int .i64 n, .string s, .slice A l.length cap, .int .i64 r] 27)
    have hK := Blk.new' w 27 #[.int .u8 k, .int .i64 n, .string s, .slice A l.length cap, .int .i64 r] rfl
    have ht1 := ht.no fr1 hh
    have hs1 := Nat.le_trans hh fr1.size
    have HU := hide hu
    clear hu ht
    cases hm : u.may with
    | false =>
      have hP : ∀ w', Fr No w w' → BytesP u w (.returned (.tuple #[.string ⟨#[]⟩, .int .i64 2])) w' := fun w' f => ⟨f, (fun h => absurd h.1 (by rw [hm]; simp)), fun _ => rfl⟩
      have HP := hide hP
      rw [hm] at hM
      clear hm hP hWr hR
      go_enter Try.func46, Try.ntmps46
      go_wp2_with fail
      refine (hM _ ht1 hs1).mono ?_
      rintro e w2 ⟨rfl, fr2⟩
      go_wp2
      go_ret2
      exact HP.out _ (fr1.trans fr2)
    | true =>
      have hok := may_ok hm
      have hsz : u.size ≤ 512 := by simp [V.may, V.fits] at hm; omega
      have hrl : u.refs.length ≤ 1000000 := by
        have h1 := refsOf_length (u.walk [])
        rw [walk_length] at h1
        have : u.refs = refsOf (u.walk []) := by simp [V.refs, hm]
        rw [this]; omega
      have hel := enc_length u hok
      have HMM := hide hm
      rw [hm] at hM
      clear hm
      go_enter Try.func46, Try.ntmps46
      go_wp2_with fail
      generalize World.alloc w _ = W0 at *
      refine (hM _ ht1 hs1).mono ?_
      rintro e w2 ⟨rfl, fr2⟩
      have hK2 := hK.fr fr2 fun h => h
      obtain ⟨c0, c1, c2, c3, c4, cf⟩ := hK2.cells5
      have ht2 := ht1.no fr2 hs1
      have hs2 := Nat.le_trans hs1 fr2.size
      have HF2 := hide (fr1.trans fr2)
      clear fr1 fr2 hK hM
      go_wp2_with fail
      refine (hR _ ht2 hs2).mono ?_
      rintro e w3 ⟨vr, rfl, hor, fr3⟩
      obtain ⟨Ar, cr, rfl⟩ := owns_form hor
      have hC := contains_any Ar cr u.refs w2.heap.size w3 hrl hor
      have hK3 := hK2.fr fr3 fun h => h
      have ht3 := ht2.no fr3 hs2
      have hs3 := Nat.le_trans hs2 fr3.size
      have HF3 := hide (HF2.out.trans fr3)
      clear c0 c1 c2 c3 c4 cf hor fr3 hK2 hR
      go_wp2_with fail
      refine hC.mono ?_
      rintro e w4 ⟨⟨q, rfl, hq⟩, fr4⟩
      have hK4 := hK3.fr fr4 fun h => h
      obtain ⟨c0, c1, c2, c3, c4, cf⟩ := hK4.cells5
      have ht4 := ht3.no fr4 hs3
      have hs4 := Nat.le_trans hs3 fr4.size
      have HF4 := hide (HF3.out.trans fr4)
      have HQ := hide hq
      clear fr4 hq hK3 hC
      cases q with
      | true =>
        have hP : ∀ w', Fr No w w' → BytesP u w (.returned (.tuple #[.string ⟨#[]⟩, .int .i64 2])) w' := fun w' f => ⟨f, (fun h => by
          obtain ⟨r, hr, hb⟩ := HQ.out.1 rfl
          have := h.2 r hr
          omega), fun _ => rfl⟩
        have HP := hide hP
        clear hP
        go_wp2
        go_ret2
        exact HP.out _ HF4.out
      | false =>
        have hhas : u.hasBytes := ⟨HMM.out, fun r hr => by
          rcases Int.lt_or_le 4294967295 r with h | h
          · exact absurd (HQ.out.2 ⟨r, hr, h⟩) (by simp)
          · exact h⟩
        have hw := hWr (.slice none 0 0) [] w4.heap.size w4 lo hi ht4 hs4 (Nat.le_refl _) hok (World.ownsRow_nil _ _ _ _) (by simp; omega)
        have HW := hide hw
        have HH := hide hhas
        clear hw hhas hWr
        go_wp2_with fail
        refine HW.out.mono ?_
        rintro e w5 ⟨v5, rfl, ho5, f5⟩
        rw [List.nil_append] at ho5
        obtain ⟨A5, c5, rfl⟩ := owns_form ho5
        have hcv := conv_owned ho5 (enc_pos u)
        have f6 : Fr No w w5 := HF4.out.trans' f5 fun i hi h => by have := HF4.out.size; have := h.1; omega
        have HF6 := hide f6
        clear ho5 f5 f6 c0 c1 c2 c3 c4 cf hK4
        go_wp2
        go_ret2
        exact ⟨HF6.out, fun _ => rfl, fun h => absurd HH.out h⟩

end Go.Proofs.Ytihjmipmjogpoaa

/- Chapter 2: awake: its calls, each at its closed data. -/
namespace Go.Proofs.Ytihjmipmjogpoaa
open Go.RowKit

/-- A value without a list, in memory. -/
def lf (k n : Int) (s : ByteArray) (r : Int) : T := .mk k n s none 0 [] r

theorem lf_v (k n : Int) (s : ByteArray) (r : Int) : (lf k n s r).v = .mk k n s [] r := by rw [lf, T.v_mk]; rfl
theorem lf_val (k n : Int) (s : ByteArray) (r : Int) : (lf k n s r).val = .agg #[.int .u8 k, .int .i64 n, .string s, .slice none 0 0, .int .i64 r] := rfl
theorem lf_in {k n r : Int} (w : World) (lo hi : Nat) (h0 : 0 ≤ k) (h1 : k < 256) (h2 : -100 ≤ n) (h3 : n ≤ 100) (h4 : -100 ≤ r) (h5 : r ≤ 100) : (lf k n ⟨#[]⟩ r).In w lo hi := by
  rw [lf, T.in_mk]; exact ⟨⟨h0, h1, by omega, by omega, by decide, by decide, Nat.le_refl _, by omega, by omega⟩, fun h => absurd rfl h, by simp⟩

def awC1 : Array Value := #[.int .u8 4, .int .i64 0, .string ⟨#[]⟩, .slice none 0 0, .int .i64 7]
def awC2 (g : Nat) : Array Value := #[.int .u8 1, .int .i64 1, .string ⟨#[]⟩, .slice none 0 0, .int .i64 0, .int .u8 3, .int .i64 0, .string ⟨#[]⟩, .slice (some ⟨g, 0, none⟩) 1 1, .int .i64 0]

/-- The value that awake builds, as it lies in memory. -/
def awT (g1 g2 : Nat) : T := .mk 3 0 ⟨#[]⟩ (some ⟨g2, 0, none⟩) 2 [lf 1 1 ⟨#[]⟩ 0, .mk 3 0 ⟨#[]⟩ (some ⟨g1, 0, none⟩) 1 [lf 4 0 ⟨#[]⟩ 7] 0] 0

theorem awT_v (g1 g2 : Nat) : (awT g1 g2).v = awV := by
  rw [awT, T.v_mk]; simp [lf_v, T.v_mk, awV]
theorem awT_val (g1 g2 : Nat) : (awT g1 g2).val = .agg #[.int .u8 3, .int .i64 0, .string ⟨#[]⟩, .slice (some ⟨g2, 0, none⟩) 2 2, .int .i64 0] := rfl

theorem fit3 (n : Nat) (h : n ≤ 100) : Fit 3 0 ⟨#[]⟩ n n 0 := ⟨by decide, by decide, by decide, by decide, by decide, by omega, Nat.le_refl _, by decide, by decide⟩

theorem five_cells (x : T) (c : Nat) (u : Value) (h : x.cells[c]? = some u) : c < 5 := by
  rcases Nat.lt_or_ge c 5 with hlt | hge
  · exact hlt
  · rw [List.getElem?_eq_none (by rw [T.cells_length]; exact hge)] at h; cases h

theorem awT_in {w : World} {g1 g2 lo hi : Nat} (h1 : Blk w g1 27 awC1) (h2 : Blk w g2 27 (awC2 g1)) (a : lo ≤ g1) (b : g1 < hi) (c : lo ≤ g2) (d : g2 < hi) : (awT g1 g2).In w lo hi := by
  rw [awT, T.in_mk]
  refine ⟨fit3 2 (by decide), fun _ => ⟨g2, 0, rfl, c, d, fun i x hx j u hu => ?_⟩, ?_⟩
  · have hj := five_cells x j u hu
    rw [h2.cell]
    match i, hx with
    | 0, hx =>
      simp at hx; subst hx
      match j, hu with
      | 0, hu => exact hu
      | 1, hu => exact hu
      | 2, hu => exact hu
      | 3, hu => exact hu
      | 4, hu => exact hu
      | c + 5, hu => omega
    | 1, hx =>
      simp at hx; subst hx
      match j, hu with
      | 0, hu => exact hu
      | 1, hu => exact hu
      | 2, hu => exact hu
      | 3, hu => exact hu
      | 4, hu => exact hu
      | c + 5, hu => omega
    | i + 2, hx => simp at hx
  · intro x hx
    simp at hx
    rcases hx with rfl | rfl
    · exact lf_in _ _ _ (by decide) (by decide) (by decide) (by decide) (by decide) (by decide)
    · rw [T.in_mk]
      refine ⟨fit3 1 (by decide), fun _ => ⟨g1, 0, rfl, a, b, fun i x hx j u hu => ?_⟩, ?_⟩
      · have hj := five_cells x j u hu
        rw [h1.cell]
        match i, hx with
        | 0, hx =>
          simp at hx; subst hx
          match j, hu with
          | 0, hu => exact hu
          | 1, hu => exact hu
          | 2, hu => exact hu
          | 3, hu => exact hu
          | 4, hu => exact hu
          | c + 5, hu => omega
        | i + 1, hx => simp at hx
      · intro x hx
        simp at hx
        subst hx
        exact lf_in _ _ _ (by decide) (by decide) (by decide) (by decide) (by decide) (by decide)

theorem toL0 : (⟨#[]⟩ : ByteArray).toList = [] := by rw [ByteArray.toList_eq]

theorem aw_may : awV.may = true := by simp [awV, V.may, V.fits, V.ok_mk, V.size_mk, V.dep_mk, fok, toL0, top]
theorem aw_size : awV.size = 4 := by simp [awV, V.size_mk]
theorem aw_dep : awV.dep = 2 := by simp [awV, V.dep_mk, top]
theorem aw_low : awV.low = true := by simp [awV, V.low_mk]
theorem aw_has : awV.hasBytes := (hasBytes_iff _).2 ⟨aw_may, aw_low⟩
theorem aw_encS : awV.encS = awS := by rw [encS_eq, aw_enc]; rfl
theorem aw_at : atOf awV [1, 0] = (.mk 4 0 ⟨#[]⟩ [] 7, 0) := by
  unfold atOf; rw [if_pos aw_may]; rfl

section
variable {w : World} {g1 g2 : Nat} (h1 : Blk w g1 27 awC1) (h2 : Blk w g2 27 (awC2 g1))
include h1 h2
theorem aw_in : (awT g1 g2).In w 0 w.heap.size := awT_in h1 h2 (Nat.zero_le _) h1.lt (Nat.zero_le _) h2.lt

theorem aw_bytes : Calls Try.prog 46 #[.agg #[.int .u8 3, .int .i64 0, .string ⟨#[]⟩, .slice (some ⟨g2, 0, none⟩) 2 2, .int .i64 0]] w fun e w' => e = .returned (.tuple #[.string awS, .int .i64 0]) ∧ Fr No w w' := by
  have h := Bytes_any (awT g1 g2) w 0 w.heap.size (aw_in h1 h2) (Nat.le_refl _)
  rw [awT_v, awT_val] at h
  refine h.mono fun e w' hp => ⟨?_, hp.1⟩
  rw [hp.2.1 aw_has, aw_encS]

theorem aw_atc {g : Nat} (hp : Blk w g 3 #[.int .i64 1, .int .i64 0]) : Calls Try.prog 68 #[.agg #[.int .u8 3, .int .i64 0, .string ⟨#[]⟩, .slice (some ⟨g2, 0, none⟩) 2 2, .int .i64 0], .slice (some ⟨g, 0, none⟩) 2 2] w
    fun e w' => (∃ A cap, e = .returned (.tuple #[.agg #[.int .u8 4, .int .i64 0, .string ⟨#[]⟩, .slice A 0 cap, .int .i64 7], .int .i64 0])) ∧ Fr No w w' := by
  have hI : Ints w 0 w.heap.size (some ⟨g, 0, none⟩) 2 [1, 0] := by
    refine ⟨by decide, by decide, fun _ => ⟨g, 0, rfl, Nat.zero_le _, hp.lt, fun i x hx => ?_⟩, ?_⟩
    · rw [hp.cell]
      match i, hx with
      | 0, hx => simp at hx; subst hx; rfl
      | 1, hx => simp at hx; subst hx; rfl
      | i + 2, hx => simp at hx
    · intro x hx; simp at hx; rcases hx with rfl | rfl <;> decide
  have h := At_any (awT g1 g2) w 0 w.heap.size (aw_in h1 h2) (Nat.le_refl _) (some ⟨g, 0, none⟩) 2 [1, 0] 0 w.heap.size hI (Nat.le_refl _)
  rw [awT_v, awT_val, aw_at] at h
  refine h.mono fun e w' ⟨t', he, hv, _, hf⟩ => ⟨?_, hf⟩
  obtain ⟨k, n, s, A, cap, l, r⟩ := t'
  rw [T.v_mk] at hv
  injection hv with q1 q2 q3 q4 q5
  subst q1 q2 q3 q5
  obtain rfl : l = [] := by simpa using q4
  exact ⟨A, cap, he⟩

theorem aw_same {t : T} (ht : t.v = awV) (hin : t.In w 0 w.heap.size) : Calls Try.prog 54 #[t.val, .agg #[.int .u8 3, .int .i64 0, .string ⟨#[]⟩, .slice (some ⟨g2, 0, none⟩) 2 2, .int .i64 0]] w fun e w' => e = .returned (.bool true) ∧ Fr No w w' := by
  have h := vsame_any t (awT g1 g2) w 0 w.heap.size hin (aw_in h1 h2) (Nat.le_refl _)
  rw [awT_v, ht, same2_self aw_may] at h
  exact h

theorem aw_parts : Calls Try.prog 56 #[.agg #[.int .u8 3, .int .i64 0, .string ⟨#[]⟩, .slice (some ⟨g2, 0, none⟩) 2 2, .int .i64 0]] w fun e w' => e = .returned (.int .i64 4) ∧ Fr No w w' := by
  have h := Parts_any (awT g1 g2) w 0 w.heap.size (aw_in h1 h2) (Nat.le_refl _)
  rw [awT_v] at h
  have e : awV.meas = 4 := by simp [V.meas, aw_may, aw_size]
  rw [e] at h
  exact h

theorem aw_deep : Calls Try.prog 57 #[.agg #[.int .u8 3, .int .i64 0, .string ⟨#[]⟩, .slice (some ⟨g2, 0, none⟩) 2 2, .int .i64 0]] w fun e w' => e = .returned (.int .i64 2) ∧ Fr No w w' := by
  have h := Deep_any (awT g1 g2) w 0 w.heap.size (aw_in h1 h2) (Nat.le_refl _)
  rw [awT_v, if_pos aw_may, aw_dep] at h
  exact h

theorem aw_mayc : Calls Try.prog 58 #[.agg #[.int .u8 3, .int .i64 0, .string ⟨#[]⟩, .slice (some ⟨g2, 0, none⟩) 2 2, .int .i64 0]] w fun e w' => e = .returned (.bool true) ∧ Fr No w w' := by
  have h := may_any (awT g1 g2) w 0 w.heap.size (aw_in h1 h2) (Nat.le_refl _)
  rw [awT_v, aw_may] at h
  exact h

theorem aw_each : Calls Try.prog 41 #[.agg #[.int .u8 3, .int .i64 0, .string ⟨#[]⟩, .slice (some ⟨g2, 0, none⟩) 2 2, .int .i64 0]] w fun e w' => e = .returned (.func (.func 105) #[] #[.pointer (some ⟨w.heap.size, 0, none⟩)]) ∧ Fr No w w' := by
  have h := Each_yes (awT g1 g2) w 0 w.heap.size (aw_in h1 h2) (Nat.le_refl _) (by rw [awT_v]; exact aw_may)
  rw [awT_v] at h
  refine h.mono fun e w' hp => ⟨?_, hp.fr⟩
  obtain ⟨_, _, _, _, _, _, _, he, _⟩ := hp.yes aw_may
  exact he
end

theorem aw_read (w : World) : Calls Try.prog 48 #[.string awS] w fun e w' => (∃ t : T, t.v = awV ∧ e = .returned (.tuple #[t.val, .int .i64 0]) ∧ t.In w' 0 w'.heap.size) ∧ Fr No w w' := by
  refine (Read_any awS w).mono fun e w' hp => ⟨?_, hp.fr⟩
  obtain ⟨t, h1, h2, h3⟩ := hp.yes awV 508 (by decide) aw_parse
  exact ⟨t, h1, h2, T.In.more (Nat.zero_le _) (Nat.le_refl _) _ h3⟩

theorem aw_order (w : World) : Calls Try.prog 55 #[.agg #[.int .u8 1, .int .i64 1, .string ⟨#[]⟩, .slice none 0 0, .int .i64 0], .agg #[.int .u8 1, .int .i64 2, .string ⟨#[]⟩, .slice none 0 0, .int .i64 0]] w fun e w' => e = .returned (.tuple #[.int .i64 (-1), .int .i64 0]) ∧ Fr No w w' := by
  have h := vorder_any (lf 1 1 ⟨#[]⟩ 0) (lf 1 2 ⟨#[]⟩ 0) w 0 0 (lf_in _ _ _ (by decide) (by decide) (by decide) (by decide) (by decide) (by decide)) (lf_in _ _ _ (by decide) (by decide) (by decide) (by decide) (by decide) (by decide)) (Nat.zero_le _)
  have m1 : (V.mk 1 1 ⟨#[]⟩ [] 0).may = true := by simp [V.may, V.fits, V.ok_mk, V.size_mk, V.dep_mk, fok, toL0]
  have m2 : (V.mk 1 2 ⟨#[]⟩ [] 0).may = true := by simp [V.may, V.fits, V.ok_mk, V.size_mk, V.dep_mk, fok, toL0]
  have o : (V.mk 1 1 ⟨#[]⟩ [] 0).ord (V.mk 1 2 ⟨#[]⟩ [] 0) = -1 := by rw [V.ord_mk]; rfl
  rw [lf_v, lf_v, m1, m2, o] at h
  exact h

end Go.Proofs.Ytihjmipmjogpoaa

/- Chapter 2: the law's own spoil: it writes over a value's lists, and grows them. -/
namespace Go.Proofs.Ytihjmipmjogpoaa
open Go.RowKit

def m5 : T := lf 1 (-5) ⟨#[]⟩ 0
def m6 : T := lf 1 (-6) ⟨#[]⟩ 0

/-- A row whose first parts are written over. -/
def spRow (l : List T) (j : Nat) : List T := List.replicate j m5 ++ l.drop j

theorem spRow_zero (l : List T) : spRow l 0 = l := by simp [spRow]
theorem spRow_length {l : List T} {j : Nat} (h : j ≤ l.length) : (spRow l j).length = l.length := by simp [spRow]; omega
theorem spRow_at {l : List T} {j : Nat} (h : j < l.length) : (spRow l j)[j]? = some l[j] := by
  rw [spRow, List.getElem?_append_right (by simp)]
  simp [h]
theorem spRow_set {l : List T} {j : Nat} (h : j < l.length) : (spRow l j).set j m5 = spRow l (j + 1) := by
  rw [spRow, spRow, List.set_append_right _ _ (by simp), List.length_replicate, Nat.sub_self, List.drop_eq_getElem_cons h, List.set_cons_zero, List.replicate_succ', List.append_assoc]
  rfl
theorem spRow_all (l : List T) : spRow l l.length = List.replicate l.length m5 := by simp [spRow]

/-- Five cells of a row of one's own written over. -/
theorem owns_set5 {w : World} {lo g n cap j : Nat} {L : List T} (h : w.ownsRow lo 27 5 (.slice (some ⟨g, 0, none⟩) n cap) n (rowCells L)) (hL : L.length = n) (hj : j < n) (k1 n1 : Int) (s1 : ByteArray) (A1 : Option Addr) (c1 : Nat) (l1 : List T) (r1 : Int) :
    (((((w.setCell ⟨g, j * 5, none⟩ (.int .u8 k1)).setCell ⟨g, j * 5 + 1, none⟩ (.int .i64 n1)).setCell ⟨g, j * 5 + 2, none⟩ (.string s1)).setCell ⟨g, j * 5 + 3, none⟩ (.slice A1 l1.length c1)).setCell ⟨g, j * 5 + 4, none⟩ (.int .i64 r1)).ownsRow lo 27 5 (.slice (some ⟨g, 0, none⟩) n cap) n (rowCells (L.set j (T.mk k1 n1 s1 A1 c1 l1 r1))) := by
  refine ⟨by rw [rowCells_length, List.length_set, hL], ?_⟩
  rcases h.2 with ⟨h', _⟩ | ⟨g', cap', cur, hv, hb, hg, hc, hm, hs, hx⟩
  · cases h'
  · simp at hv
    obtain ⟨rfl, rfl⟩ := hv
    have hB := (show Blk w g 27 cur from hg).five (j * 5) (.int .u8 k1) (.int .i64 n1) (.string s1) (.slice A1 l1.length c1) (.int .i64 r1)
    refine .inr ⟨g, cap, _, rfl, hb, hB, hc, hm, by simp [hs], ?_⟩
    refine List.ext_getElem? fun q => ?_
    have hsz : n * 5 ≤ cur.size := by rw [hs]; exact Nat.mul_le_mul_right _ hc
    by_cases hq : q < n * 5
    · have hi : q / 5 < n := by omega
      have hL2 : q / 5 < (L.set j (T.mk k1 n1 s1 A1 c1 l1 r1)).length := by rw [List.length_set, hL]; exact hi
      have hcl : q % 5 < ((L.set j (T.mk k1 n1 s1 A1 c1 l1 r1))[q / 5]).cells.length := by rw [T.cells_length]; omega
      have e1 := rowCells_get _ (q / 5) (q % 5) _ _ (List.getElem?_eq_getElem hL2) (List.getElem?_eq_getElem hcl)
      rw [show q / 5 * 5 + q % 5 = q by omega] at e1
      rw [e1, List.getElem?_take, if_pos hq, Array.getElem?_toList]
      simp only [Array.getElem?_setIfInBounds, Array.size_setIfInBounds]
      by_cases hqj : q / 5 = j
      · have hget : (L.set j (T.mk k1 n1 s1 A1 c1 l1 r1))[q / 5] = T.mk k1 n1 s1 A1 c1 l1 r1 := by
          rw [List.getElem_set, if_pos hqj.symm]
        have h5 : q % 5 = 0 ∨ q % 5 = 1 ∨ q % 5 = 2 ∨ q % 5 = 3 ∨ q % 5 = 4 := by omega
        have hqq : q = j * 5 + q % 5 := by omega
        have hlt : q < cur.size := by omega
        rcases h5 with h5 | h5 | h5 | h5 | h5
        all_goals
          rw [h5] at hqq
          simp only [hget, h5, T.cells_mk]
          subst hqq
          simp
          try omega
      · have hget : (L.set j (T.mk k1 n1 s1 A1 c1 l1 r1))[q / 5] = L[q / 5]'(by omega) := by
          rw [List.getElem_set, if_neg (fun h => hqj h.symm)]
        rw [if_neg (by omega), if_neg (by omega), if_neg (by omega), if_neg (by omega), if_neg (by omega)]
        have hcl' : q % 5 < (L[q / 5]'(by omega)).cells.length := by rw [T.cells_length]; omega
        have e2 := rowCells_get L (q / 5) (q % 5) _ _ (List.getElem?_eq_getElem (by omega)) (List.getElem?_eq_getElem hcl')
        rw [show q / 5 * 5 + q % 5 = q by omega, ← hx, List.getElem?_take, if_pos hq, Array.getElem?_toList] at e2
        rw [e2]
        simp only [hget]
    · rw [List.getElem?_eq_none (by simp; omega), List.getElem?_eq_none (by rw [rowCells_length, List.length_set, hL]; omega)]

theorem owns_five {w : World} {lo g n cap j : Nat} {L : List T} (h : w.ownsRow lo 27 5 (.slice (some ⟨g, 0, none⟩) n cap) n (rowCells L)) {k1 n1 : Int} {s1 : ByteArray} {A1 : Option Addr} {c1 : Nat} {l1 : List T} {r1 : Int} (hx : L[j]? = some (T.mk k1 n1 s1 A1 c1 l1 r1)) :
    w.cell? ⟨g, j * 5, none⟩ = some (.int .u8 k1) ∧ w.cell? ⟨g, j * 5 + 1, none⟩ = some (.int .i64 n1) ∧ w.cell? ⟨g, j * 5 + 2, none⟩ = some (.string s1) ∧ w.cell? ⟨g, j * 5 + 3, none⟩ = some (.slice A1 l1.length c1) ∧ w.cell? ⟨g, j * 5 + 4, none⟩ = some (.int .i64 r1) ∧ (∀ o, w.frozen? ⟨g, o, none⟩ = false) ∧ g < w.heap.size := by
  have hc : ∀ c u, (T.mk k1 n1 s1 A1 c1 l1 r1).cells[c]? = some u → w.cell? ⟨g, j * 5 + c, none⟩ = some u := fun c u hu => by
    have := World.ownsRow.cells h (g := g) rfl _ _ (rowCells_get L j c _ u hx hu)
    rwa [add_at, Nat.zero_add] at this
  refine ⟨hc 0 _ rfl, hc 1 _ rfl, hc 2 _ rfl, hc 3 _ rfl, hc 4 _ rfl, fun o => ?_, (owns_lt h g rfl).2⟩
  rcases h.2 with ⟨h', _⟩ | ⟨g', cap', cur, hv, hb, hg, _⟩
  · cases h'
  · simp at hv
    obtain ⟨rfl, rfl⟩ := hv
    exact Blk.frozen hg o

/-- Where spoil's first loop stands. -/
structure SpInv (w : World) (lo hi : Nat) (k n : Int) (s : ByteArray) (A : Option Addr) (cap : Nat) (l : List T) (r : Int) (j : Nat) (wr : World) : Prop where
  fr : Fr (fun i => i ∈ (T.mk k n s A cap l r).blocks) w wr
  box : Blk wr w.heap.size 27 #[.int .u8 k, .int .i64 n, .string s, .slice A l.length cap, .int .i64 r]
  own : wr.ownsRow lo 27 5 (.slice A l.length cap) l.length (rowCells (spRow l j))
  sp : ∀ i (h : i < l.length), j ≤ i → l[i].Sp wr lo hi

theorem sp_child_ne {k n : Int} {s : ByteArray} {g o cap : Nat} {l : List T} {r : Int} (h : (T.mk k n s (some ⟨g, o, none⟩) cap l r).blocks.Nodup) {x : T} (hx : x ∈ l) : g ∉ x.blocks := by
  intro hg
  rw [T.blocks_mk] at h
  have hne : l.isEmpty = false := by cases l with
    | nil => cases hx
    | cons => rfl
  rw [hne] at h
  simp only [Bool.false_eq_true, if_false, Option.map_some, Option.toList_some, List.singleton_append, List.nodup_cons] at h
  exact h.1 (List.mem_flatten.2 ⟨_, List.mem_map_of_mem hx, hg⟩)

theorem nodup_at {L : List (List Nat)} (h : L.flatten.Nodup) {i j : Nat} (hi : i < L.length) (hj : j < L.length) (hij : i < j) {b : Nat} (hb : b ∈ L[i]) : b ∉ L[j] := by
  induction L generalizing i j with
  | nil => simp at hi
  | cons a L ih =>
    rw [List.flatten_cons, List.nodup_append] at h
    cases i with
    | zero =>
      cases j with
      | zero => omega
      | succ j =>
        intro h2
        exact h.2.2 b hb b (List.mem_flatten.2 ⟨_, List.getElem_mem (by simpa using hj), h2⟩) rfl
    | succ i =>
      cases j with
      | zero => omega
      | succ j => exact ih h.2.1 (by simpa using hi) (by simpa using hj) (by omega) hb

theorem sp_child_far {k n : Int} {s : ByteArray} {A : Option Addr} {cap : Nat} {l : List T} {r : Int} (h : (T.mk k n s A cap l r).blocks.Nodup) {i j : Nat} (hi : i < l.length) (hj : j < l.length) (hij : i < j) {b : Nat} (hb : b ∈ l[j].blocks) : b ∉ l[i].blocks := by
  rw [T.blocks_mk, List.nodup_append] at h
  intro hb2
  have := nodup_at (L := l.map T.blocks) h.2.1 (i := i) (j := j) (by simpa using hi) (by simpa using hj) hij (b := b) (by simpa using hb2)
  exact this (by simpa using hb)

theorem sp_child_nodup {k n : Int} {s : ByteArray} {A : Option Addr} {cap : Nat} {l : List T} {r : Int} (h : (T.mk k n s A cap l r).blocks.Nodup) {x : T} (hx : x ∈ l) : x.blocks.Nodup := by
  rw [T.blocks_mk, List.nodup_append] at h
  have h2 := h.2.1
  clear h
  induction l with
  | nil => cases hx
  | cons a l ih =>
    rw [List.map_cons, List.flatten_cons, List.nodup_append] at h2
    rcases List.mem_cons.1 hx with rfl | hx
    · exact h2.1
    · exact ih hx h2.2.1

/-- One part is spoiled, then written over. -/
theorem sp_push {w wr w2 w3 : World} {lo hi : Nat} {k n : Int} {s : ByteArray} {g cap : Nat} {l : List T} {r : Int} {j : Nat} (inv : SpInv w lo hi k n s (some ⟨g, 0, none⟩) cap l r j wr) (hnd : (T.mk k n s (some ⟨g, 0, none⟩) cap l r).blocks.Nodup) (hj : j < l.length) (hh : hi ≤ w.heap.size) (hlo : ∀ x ∈ l, x.In w lo hi)
    (f2 : Fr (fun i => i ∈ l[j].blocks) wr w2) (f3 : Fr No w2 w3) :
    Blk w3 w.heap.size 27 #[.int .u8 k, .int .i64 n, .string s, .slice (some ⟨g, 0, none⟩) l.length cap, .int .i64 r] ∧ w3.ownsRow lo 27 5 (.slice (some ⟨g, 0, none⟩) l.length cap) l.length (rowCells (spRow l j)) ∧
    (g < w.heap.size → SpInv w lo hi k n s (some ⟨g, 0, none⟩) cap l r (j + 1) (((((w3.setCell ⟨g, j * 5, none⟩ (.int .u8 1)).setCell ⟨g, j * 5 + 1, none⟩ (.int .i64 (-5))).setCell ⟨g, j * 5 + 2, none⟩ (.string ⟨#[]⟩)).setCell ⟨g, j * 5 + 3, none⟩ (.slice none 0 0)).setCell ⟨g, j * 5 + 4, none⟩ (.int .i64 0))) := by
  have F : Fr (fun i => i ∈ l[j].blocks) wr w3 := f2.thenNo f3
  have hmem := List.getElem_mem hj
  have hbl : ∀ b ∈ l[j].blocks, lo ≤ b ∧ b < hi := T.In.blocks _ (hlo _ hmem)
  have hg := sp_child_ne hnd hmem
  have b3 := inv.box.fr F (fun h => by have := hbl _ h; omega)
  have o3 := owns_fr inv.own F (fun g' h => by simp [Value.ownBlock] at h; subst h; exact hg)
  refine ⟨b3, o3, fun hgs => ?_⟩
  have F5 := (Fr.refl (fun i => i = g) w3).five (g := g) (fun _ => rfl) (j * 5) (.int .u8 1) (.int .i64 (-5)) (.string ⟨#[]⟩) (.slice none 0 0) (.int .i64 0)
  have hgm : g ∈ (T.mk k n s (some ⟨g, 0, none⟩) cap l r).blocks := T.mem_blocks (by rintro rfl; simp at hj)
  refine ⟨?_, ?_, ?_, fun i hi' hij => ?_⟩
  · refine (inv.fr.trans' F fun i _ h => T.sub_blocks hmem h).trans' F5 fun i _ h => ?_
    have h' : i = g := h
    rw [h']; exact hgm
  · exact b3.fr F5 (fun h => by have h' : w.heap.size = g := h; omega)
  · have := owns_set5 o3 (spRow_length (Nat.le_of_lt hj)) hj 1 (-5) ⟨#[]⟩ none 0 [] 0
    rw [show T.mk 1 (-5) ⟨#[]⟩ none 0 [] 0 = m5 from rfl, spRow_set hj] at this
    exact this
  · have h1 := inv.sp i hi' (by omega)
    have h2 := T.Sp.fr F _ (fun b hb => sp_child_far hnd hj hi' (by omega) hb) h1
    exact T.Sp.fr F5 _ (fun b hb h => by have h' : b = g := h; subst h'; exact sp_child_ne hnd (List.getElem_mem hi') hb) h2

set_option maxRecDepth 100000 in
set_option maxHeartbeats 8000000 in
theorem spoil_any (t : T) : ∀ (w : World) (lo hi : Nat), t.Sh w lo hi → hi ≤ w.heap.size → lo ≤ w.heap.size → t.v.size ≤ 1000000 →
    Calls Try.prog 44 #[t.val] w fun e w' => (∃ z : Nat, e = .returned (.int .i64 (z : Int)) ∧ 0 < z ∧ z + 1 ≤ 6 * t.v.size) ∧ Fr (fun i => i ∈ t.blocks) w w' := by
  induction t using T.ind with
  | h k n s A cap l r ih =>
    intro w lo hi hsh hh hlow hsz
    have hin := hsh.inn
    have fit := (T.in_mk.1 hin).1
    have hlen := fit.len1
    have hsp := T.sp_mk.1 hsh.sp
    have hnd := hsh.nodup
    rw [T.val_mk]
    have hsize : (T.mk k n s A cap l r).v.size = 1 + ((l.map T.v).map V.size).sum := by rw [T.v_mk, V.size_mk]
    rw [hsize] at hsz ⊢
    have hls := size_sum (l.map T.v)
    rw [List.length_map] at hls
    have hfr0 : Fr (fun i => i ∈ (T.mk k n s A cap l r).blocks) w (w.alloc (.cells #[.int .u8 k, .int .i64 n, .string s, .slice A l.length cap, .int .i64 r] 27)) := (Fr.refl _ w).alloc _
    have hinv0 : SpInv w lo hi k n s A cap l r 0 (w.alloc (.cells #[.int .u8 k, .int .i64 n, .string s, .slice A l.length cap, .int .i64 r] 27)) := by
      refine ⟨hfr0, Blk.new w 27 _, ?_, fun i h _ => T.Sp.fr ((Fr.refl No w).alloc _) _ (fun _ _ h => h) (hsp.2.2.2 _ (List.getElem_mem h))⟩
      rw [spRow_zero]
      by_cases hl : l = []
      · obtain ⟨h1, h2⟩ := hsp.2.1 hl
        subst hl h1 h2
        exact World.ownsRow_nil _ _ _ _
      · exact (hsp.2.2.1 hl).1.alloc _
    have hAg : l ≠ [] → ∃ g, A = some ⟨g, 0, none⟩ ∧ g < hi := fun hl => (hsp.2.2.1 hl).2
    have hlo : ∀ x ∈ l, x.In w lo hi := (T.in_mk.1 hin).2.2
    obtain ⟨i0, hi0, hz0, hz1, hz2⟩ := info_parts value_info
    have HS := hide hsize
    clear hsize hfr0
    go_enter Try.func44, Try.ntmps44
    go_wp2_with fail
    go_loopw [3, 4] (fun v i wr => ∃ j m : Nat, j ≤ l.length ∧ i = .int .i64 (j : Int) ∧ v = .int .i64 (m : Int) ∧ m + j ≤ 6 * (((l.map T.v).map V.size).take j).sum ∧ SpInv w lo hi k n s A cap l r j wr) (fun _ i _ => l.length - (intOf i).toNat)
    case atStart => exact ⟨0, 0, Nat.zero_le _, rfl, rfl, by simp, hinv0⟩
    case round =>
      obtain ⟨j, m, hj, rfl, rfl, hm, inv⟩ := hrel
      obtain ⟨c0, c1, c2, c3, c4, cf⟩ := inv.box.cells5
      have q0 := inv.box.lt
      have hts := sum_take_le ((l.map T.v).map V.size) j
      by_cases hlt : j < l.length
      · obtain ⟨g, rfl, hg⟩ := hAg (by rintro rfl; simp at hlt)
        have hcase := ih l[j] (List.getElem_mem hlt) wr lo hi ⟨inv.sp j hlt (Nat.le_refl _), sp_child_nodup hnd (List.getElem_mem hlt)⟩ (by have := inv.fr.size; omega) (by have := inv.fr.size; omega)
        have hto := sum_take_succ ((l.map T.v).map V.size) j (by simpa using hlt)
        have hts2 := sum_take_le ((l.map T.v).map V.size) (j + 1)
        rw [List.getElem_map, List.getElem_map] at hto
        have hpush := fun w2 w3 (f2 : Fr (fun i => i ∈ l[j].blocks) wr w2) (f3 : Fr No w2 w3) => sp_push inv hnd hlt hh hlo f2 f3
        have hat := spRow_at hlt
        cases hx : l[j] with
        | mk k1 n1 s1 A1 cap1 l1 r1 =>
          rw [hx] at hcase hto hpush hat
          rw [T.val_mk] at hcase
          obtain ⟨e0, e1, e2, e3, e4, ef, eg⟩ := owns_five inv.own hat
          generalize (T.mk k1 n1 s1 A1 cap1 l1 r1).v.size = z at *
          generalize (T.mk k1 n1 s1 A1 cap1 l1 r1).blocks = bl at *
          have hcase2 := hcase (by omega)
          have HC := hide hcase2
          have HTO := hide hto
          have HP := hide hpush
          have HAT := hide hat
          have hmz : m ≤ 6000000 := by omega
          have hm2 : m + j ≤ 6 * (((l.map T.v).map V.size).take j).sum := hm
          have HM := hide hm2
          have hzz : z ≤ 1000000 := by omega
          have hgs : g < w.heap.size := by omega
          clear hcase hcase2 hto hpush hat hx ih inv hinv0 hin hsh hnd hsp hAg hts hts2 hm hm2 hlo
          go_wp2_with fail
          refine HC.out.mono ?_
          rintro e w2 ⟨⟨y, rfl, hy0, hy1⟩, f2⟩
          obtain ⟨b2, o2, -⟩ := HP.out w2 w2 f2 (Fr.refl No w2)
          clear c0 c1 c2 c3 c4 cf q0 e0 e1 e2 e3 e4 ef eg
          obtain ⟨c0, c1, c2, c3, c4, cf⟩ := b2.cells5
          have q0 := b2.lt
          have HB2 := hide b2
          have HO2 := hide o2
          have HF2 := hide f2
          clear b2 o2 f2
          have hyb : y ≤ 6000000 := by omega
          have hnum := fun w3 => num2_any (-5) w3
          have hadd : m + y + (j + 1) ≤ 6 * (((l.map T.v).map V.size).take (j + 1)).sum := by
            rw [HTO.out]; have := HM.out; omega
          have HADD := hide hadd
          clear hadd
          go_wp2_with fail
          go_region_law (go_simp; go_at_call 79; (with_reducible refine (hnum _).mono ?_); rintro e w3 ⟨rfl, f3⟩; obtain ⟨b3, o3, hi3⟩ := HP.out w2 w3 HF2.out ⟨f3.os, f3.tape, f3.output, f3.size, f3.block⟩; obtain ⟨x0, x1, x2, x3, x4, xf, xg⟩ := owns_five o3 HAT.out; obtain ⟨d0, d1, d2, d3, d4, df⟩ := b3.cells5; have HI3 := hide (hi3 hgs); clear b3 o3 hi3)
          all_goals
            go_wp2
            go_roundw
            case rel => exact ⟨j + 1, m + y, hlt, by go_num, by go_num, HADD.out, HI3.out⟩
            case measure => simp [intOf]; omega
      · obtain rfl : l.length = j := by omega
        have hown := inv.own
        rw [spRow_all] at hown
        have hAb : ∀ g, (Value.slice A l.length cap).ownBlock = some g → g ∈ (T.mk k n s A cap l r).blocks ∨ w.heap.size ≤ g := fun g hg => by
          by_cases hl : l = []
          · obtain ⟨h1, _⟩ := hsp.2.1 hl
            subst h1; cases hg
          · obtain ⟨g', rfl, _⟩ := hAg hl
            simp [Value.ownBlock] at hg
            subst hg
            exact .inl (T.mem_blocks hl)
        have hst : Fr (fun i => i ∈ (T.mk k n s A cap l r).blocks) w wr := inv.fr
        have hm0 : m + l.length ≤ 6 * ((l.map T.v).map V.size).sum := by
          rw [List.take_of_length_le (by simp)] at hm; exact hm
        have HM := hide hm0
        have HOWN := hide hown
        have HAB := hide hAb
        have HST := hide hst
        have hmm : m ≤ 6000000 := by omega
        clear hown hAb hst hm hm0 inv ih hinv0 hsp hnd hsh hin hlo hAg hts
        go_wp2_with fail
        clear c0 c1 c2 c3 c4 cf q0
        go_loopw [5, 6] (fun v i wk => ∃ (c : Nat) (A3 : Option Addr) (cap3 : Nat), c ≤ 5 ∧ i = .int .i64 (c : Int) ∧ v = .slice A3 (l.length + c) cap3 ∧ wk.ownsRow lo 27 5 (.slice A3 (l.length + c) cap3) (l.length + c) (rowCells (List.replicate l.length m5 ++ List.replicate c m6)) ∧
          Fr (fun i => i ∈ (T.mk k n s A cap l r).blocks) w wk ∧ (∀ g, (Value.slice A3 (l.length + c) cap3).ownBlock = some g → g ∈ (T.mk k n s A cap l r).blocks ∨ w.heap.size ≤ g)) (fun _ i _ => 5 - (intOf i).toNat)
        case atStart => exact ⟨0, A, cap, by omega, rfl, rfl, by simpa using HOWN.out, HST.out, HAB.out⟩
        case round =>
          obtain ⟨c, A3, cap3, hc, rfl, rfl, own3, fr3, hb3⟩ := hrel
          by_cases hc5 : c < 5
          · have HO3 := hide own3
            have HF3 := hide fr3
            have HB3 := hide hb3
            have hsz3 := fr3.size
            have hnum := fun w3 => num2_any (-6) w3
            clear own3 fr3 hb3
            go_wp2_with fail
            refine (hnum wr).mono ?_
            rintro e w4 ⟨rfl, f4⟩
            have hs4 := f4.size
            have hownA := (owns_fr HO3.out f4 fun _ _ h => h).alloc (.cells #[.int .u8 1, .int .i64 (-6), .string ⟨#[]⟩, .slice none 0 0, .int .i64 0] 27)
            have HF4 := hide f4
            clear f4
            go_wp2_with (at_builtin; refine wpList_append_lies _ (by rfl) _ _ _ (by rfl) lo 27 i0 _ 5 64 Try.underlying24 hi0 hz0 hz1 hz2 (by rfl) (by omega) (.slice A3 (l.length + c) cap3) (l.length + c) (rowCells (List.replicate l.length m5 ++ List.replicate c m6)) (by rfl) hownA ⟨w4.heap.size, 0, none⟩ 1 1 [.int .u8 1, .int .i64 (-6), .string ⟨#[]⟩, .slice none 0 0, .int .i64 0] (by rfl) (by rfl) (World.news_of_block (Blk.new w4 27 _)) (by simp [Value.oneCell']) (by omega) (by unfold maxLen; omega) (by omega) (by simp; omega) (w4.heap.size + 1) (by simp) ?_; intro g cp w5 hown5 hgrow hat hlt5; have HO5 := hide hown5; have HG := hide hgrow; have HA := hide hat; clear hown5 hgrow hat)
            go_roundw
            case rel =>
              refine ⟨c + 1, some ⟨g, 0, none⟩, cp, by omega, by go_num, rfl, ?_, ?_, ?_⟩
              · have h := HO5.out
                rw [List.replicate_succ', ← List.append_assoc, rowCells_snoc]
                exact h
              · refine (((HF3.out.thenNo HF4.out).alloc _).trans' (fr_grown HG.out) fun i hi h => ?_)
                have h' : some i = (Value.slice A3 (l.length + c) cap3).ownBlock := h
                rcases HB3.out i h'.symm with h | h
                · exact h
                · omega
              · intro g' hg'
                simp [Value.ownBlock] at hg'
                subst hg'
                rcases HA.out with h | h
                · exact HB3.out _ h
                · right; omega
            case measure => simp [intOf]; omega
          · obtain rfl : c = 5 := by omega
            have HF3 := hide fr3
            clear fr3 own3 hb3
            go_wp2
            go_ret
            refine ⟨⟨m + (l.length + 5), by go_num, by omega, ?_⟩, HF3.out⟩
            have := HM.out
            omega

end Go.Proofs.Ytihjmipmjogpoaa

/- BrandTables: the law's spoil: what was told is written over. -/
namespace Go.Proofs.Ytihjmipmjogpoaa
open Go.RowKit

/-- Five cells written over: the others of the block. -/
theorem five_far (w : World) (g p q : Nat) (x0 x1 x2 x3 x4 : Value) (h : q < p ∨ p + 5 ≤ q) :
    (((((w.setCell ⟨g, p, none⟩ x0).setCell ⟨g, p + 1, none⟩ x1).setCell ⟨g, p + 2, none⟩ x2).setCell ⟨g, p + 3, none⟩ x3).setCell ⟨g, p + 4, none⟩ x4).cell? ⟨g, q, none⟩ = w.cell? ⟨g, q, none⟩ := by
  have e : ∀ c, c < 5 → (⟨g, p + c, none⟩ : Addr) ≠ ⟨g, q, none⟩ := fun c hc h' => by simp only [Addr.mk.injEq, true_and, and_true] at h'; omega
  rw [World.cell?_setCell_other _ _ _ _ (e 4 (by omega)), World.cell?_setCell_other _ _ _ _ (e 3 (by omega)), World.cell?_setCell_other _ _ _ _ (e 2 (by omega)), World.cell?_setCell_other _ _ _ _ (e 1 (by omega)), World.cell?_setCell_other _ _ _ _ (by have := e 0 (by omega); simp only [Nat.add_zero] at this; exact this)]

/-- Where spoil's loop stands. -/
structure S4Inv (w : World) (lo hi : Nat) (k n : Int) (s : ByteArray) (A : Option Addr) (cap : Nat) (l : List T) (r : Int) (b o : Nat) (j : Nat) (wr : World) : Prop where
  fr : Fr (fun i => i ∈ (T.mk k n s A cap l r).blocks) w wr
  box : Blk wr w.heap.size 27 #[.int .u8 k, .int .i64 n, .string s, .slice A l.length cap, .int .i64 r]
  rest : ∀ i x, l[i]? = some x → j ≤ i → x.Ow wr lo hi ∧ Five wr b (o + i * 5) x
  free : l ≠ [] → ∀ q, wr.frozen? ⟨b, q, none⟩ = false

/-- One part is spoiled, then written over. -/
theorem s4_push {w wr w2 : World} {lo hi : Nat} {k n : Int} {s : ByteArray} {b o cap : Nat} {l : List T} {r : Int} {j : Nat} (inv : S4Inv w lo hi k n s (some ⟨b, o, none⟩) cap l r b o j wr) (hnd : (T.mk k n s (some ⟨b, o, none⟩) cap l r).blocks.Nodup) (hj : j < l.length) (hh : hi ≤ w.heap.size) (hb : b < w.heap.size)
    (f2 : Fr (fun i => i ∈ l[j].blocks) wr w2) :
    Blk w2 w.heap.size 27 #[.int .u8 k, .int .i64 n, .string s, .slice (some ⟨b, o, none⟩) l.length cap, .int .i64 r] ∧ Five w2 b (o + j * 5) l[j] ∧ (∀ q, w2.frozen? ⟨b, q, none⟩ = false) ∧
    S4Inv w lo hi k n s (some ⟨b, o, none⟩) cap l r b o (j + 1) (((((w2.setCell ⟨b, o + j * 5, none⟩ (.int .u8 1)).setCell ⟨b, o + j * 5 + 1, none⟩ (.int .i64 (-77))).setCell ⟨b, o + j * 5 + 2, none⟩ (.string ⟨#[]⟩)).setCell ⟨b, o + j * 5 + 3, none⟩ (.slice none 0 0)).setCell ⟨b, o + j * 5 + 4, none⟩ (.int .i64 0)) := by
  have hne : l ≠ [] := by rintro rfl; simp at hj
  have hmem := List.getElem_mem hj
  have hbn := sp_child_ne hnd hmem
  have hsz := inv.fr.size
  have h5 := inv.rest j _ (List.getElem?_eq_getElem hj) (Nat.le_refl _)
  have hbl := T.In.blocks _ h5.1.inn
  have b2 := inv.box.fr f2 (fun h => by have := hbl _ h; omega)
  have fz : ∀ q, w2.frozen? ⟨b, q, none⟩ = false := fun q => (f2.frozen (by omega) hbn).trans (inv.free hne q)
  have F5 := (Fr.refl (fun i => i = b) w2).five (g := b) (fun _ => rfl) (o + j * 5) (.int .u8 1) (.int .i64 (-77)) (.string ⟨#[]⟩) (.slice none 0 0) (.int .i64 0)
  have hbm : b ∈ (T.mk k n s (some ⟨b, o, none⟩) cap l r).blocks := T.mem_blocks hne
  refine ⟨b2, fun c u hu => (f2.cell (by omega) hbn).trans (h5.2 c u hu), fz, ⟨?_, ?_, fun i x hx hij => ?_, fun _ q => by simp [fz]⟩⟩
  · exact (inv.fr.trans' f2 fun i _ h => T.sub_blocks hmem h).trans' F5 fun i _ h => by have h' : i = b := h; rw [h']; exact hbm
  · exact b2.fr F5 (fun h => by have h' : w.heap.size = b := h; omega)
  · obtain ⟨h1, h2⟩ := inv.rest i x hx (by omega)
    obtain ⟨hi', rfl⟩ := List.getElem?_eq_some_iff.1 hx
    have hs2 := f2.size
    refine ⟨(h1.frB f2 (by omega) (fun c hc hc2 => sp_child_far hnd hj hi' (by omega) hc hc2)).frB F5 (by omega) (fun c hc h => by have h' : c = b := h; subst h'; exact sp_child_ne hnd (List.getElem_mem hi') hc), fun c u hu => ?_⟩
    have hc : c < 5 := by
      have := (List.getElem?_eq_some_iff.1 hu).1
      rw [T.cells_length] at this
      exact this
    rw [five_far _ _ _ _ _ _ _ _ _ (by omega)]
    exact (f2.cell (by omega) hbn).trans (h2 c u hu)

set_option maxRecDepth 100000 in
set_option maxHeartbeats 8000000 in
theorem spoil4_any (t : T) : ∀ (w : World) (lo hi : Nat), t.Ow w lo hi → hi ≤ w.heap.size →
    Calls Try.prog 96 #[t.val] w fun e w' => (∃ v, e = .returned v) ∧ Fr (fun i => i ∈ t.blocks) w w' := by
  induction t using T.ind with
  | h k n s A cap l r ih =>
    intro w lo hi how hh
    have hin := how.inn
    have fit := (T.in_mk.1 hin).1
    have hlen := fit.len1
    have hnd := how.nodup
    obtain ⟨b, o, hA⟩ : ∃ b o, l ≠ [] → A = some ⟨b, o, none⟩ ∧ b < hi ∧ ∀ i x, l[i]? = some x → Five w b (o + i * 5) x := by
      by_cases hl : l = []
      · exact ⟨0, 0, fun h => absurd hl h⟩
      · obtain ⟨b, o, h1, h2, h3, h4⟩ := (T.in_mk.1 hin).2.1 hl
        exact ⟨b, o, fun _ => ⟨h1, h3, h4⟩⟩
    rw [T.val_mk]
    have hinv0 : S4Inv w lo hi k n s A cap l r b o 0 (w.alloc (.cells #[.int .u8 k, .int .i64 n, .string s, .slice A l.length cap, .int .i64 r] 27)) := by
      have fa := (Fr.refl No w).alloc (.cells #[.int .u8 k, .int .i64 n, .string s, .slice A l.length cap, .int .i64 r] 27)
      refine ⟨fa.no, Blk.new w 27 _, fun i x hx _ => ?_, fun hl q => ?_⟩
      · have hm := List.mem_of_getElem? hx
        have hl : l ≠ [] := by rintro rfl; cases hm
        obtain ⟨h1, h2, h3⟩ := hA hl
        refine ⟨T.Ow.no (⟨(T.in_mk.1 hin).2.2 x hm, sp_child_nodup hnd hm, fun c hc => how.free c (T.sub_blocks hm hc)⟩ : x.Ow w lo hi) fa hh, fun c u hu => (fa.cell (by omega) (fun h => h)).trans (h3 i x hx c u hu)⟩
      · obtain ⟨rfl, h2, h3⟩ := hA hl
        exact (fa.frozen (by omega) (fun h => h)).trans (how.free b (T.mem_blocks hl) q)
    clear how hin
    go_enter Try.func96, Try.ntmps96
    go_wp2_with fail
    go_loopw [2] (fun i wr => ∃ j : Nat, j ≤ l.length ∧ i = .int .i64 (j : Int) ∧ S4Inv w lo hi k n s A cap l r b o j wr) (fun i _ => l.length - (intOf i).toNat)
    case atStart => exact ⟨0, Nat.zero_le _, rfl, hinv0⟩
    case round =>
      obtain ⟨j, hj, rfl, inv⟩ := hrel
      obtain ⟨c0, c1, c2, c3, c4, cf⟩ := inv.box.cells5
      have q0 := inv.box.lt
      by_cases hlt : j < l.length
      · have hne : l ≠ [] := by rintro rfl; simp at hlt
        obtain ⟨rfl, hbh, -⟩ := hA hne
        have hsz := inv.fr.size
        obtain ⟨hjo, hj5⟩ := inv.rest j _ (List.getElem?_eq_getElem hlt) (Nat.le_refl _)
        have hcase := ih l[j] (List.getElem_mem hlt) wr lo hi hjo (by omega)
        have hpush := fun w2 (f2 : Fr (fun i => i ∈ l[j].blocks) wr w2) => s4_push inv hnd hlt hh (by omega) f2
        cases hx : l[j] with
        | mk k1 n1 s1 A1 cap1 l1 r1 =>
          rw [hx] at hcase hpush hj5
          rw [T.val_mk] at hcase
          have e0 := hj5 0 _ rfl
          have e1 := hj5 1 _ rfl
          have e2 := hj5 2 _ rfl
          have e3 := hj5 3 _ rfl
          have e4 := hj5 4 _ rfl
          simp only [Nat.add_zero] at e0
          generalize (T.mk k1 n1 s1 A1 cap1 l1 r1).blocks = bl at *
          have HC := hide hcase
          have HP := hide hpush
          have qb : b < wr.heap.size := by omega
          have HH := hide hh
          clear hcase hpush hx ih inv hinv0 hnd hA hjo hj5 hh
          go_wp2_with fail
          refine HC.out.mono ?_
          rintro e w2 ⟨⟨v, rfl⟩, f2⟩
          obtain ⟨b2, o2, fz, inv2⟩ := HP.out w2 f2
          clear c0 c1 c2 c3 c4 cf q0 e0 e1 e2 e3 e4
          obtain ⟨c0, c1, c2, c3, c4, cf⟩ := b2.cells5
          have q0 := b2.lt
          have e0 := o2 0 _ rfl
          have e1 := o2 1 _ rfl
          have e2 := o2 2 _ rfl
          have e3 := o2 3 _ rfl
          have e4 := o2 4 _ rfl
          have qb2 : b < w2.heap.size := by have := f2.size; omega
          have HI := hide inv2
          clear b2 o2 f2 inv2 HP HC
          simp only [Nat.add_zero] at e0
          go_wp2_with fail
          go_roundw
          case rel => exact ⟨j + 1, hlt, by go_num, HI.out⟩
          case measure => simp [intOf]; omega
      · obtain rfl : l.length = j := by omega
        have HI := hide inv.fr
        clear inv ih hinv0 hnd hA
        go_wp2
        go_end0
        exact ⟨⟨_, rfl⟩, HI.out⟩

end Go.Proofs.Ytihjmipmjogpoaa

/- posternref04.Same: whether two values are one; number, word, list. -/
namespace Go.Proofs.Ytihjmipmjogpoaa
open Go.RowKit

/-- Whether two values are one, and no block below turns. -/
def SameP (u v : V) (w : World) (e : Ending) (w' : World) : Prop := ∃ q : Bool, e = .returned (.bool q) ∧ (q = true ↔ u = v) ∧ Fr No w w'

theorem bnumber_any (n : Int) (w : World) : Calls Try.prog 80 #[.int .i64 n] w fun e w' => e = .returned (.agg #[.int .u8 1, .int .i64 n, .string ⟨#[]⟩, .slice none 0 0, .int .i64 0]) ∧ Fr No w w' ∧ w'.heap.size = w.heap.size + 1 := by
  go_enter Try.func80, Try.ntmps80
  go_wp2
  refine bodyPost_ret (v := .agg #[.int .u8 1, .int .i64 n, .string ⟨#[]⟩, .slice none 0 0, .int .i64 0]) (by simp [results, Try.results80, go_sem, *]) rfl ?_
  exact ⟨rfl, (Fr.refl No w).alloc _, by simp⟩

theorem word_any (s : ByteArray) (w : World) : Calls Try.prog 81 #[.string s] w fun e w' => e = .returned (.agg #[.int .u8 2, .int .i64 0, .string s, .slice none 0 0, .int .i64 0]) ∧ Fr No w w' ∧ w'.heap.size = w.heap.size + 1 := by
  go_enter Try.func81, Try.ntmps81
  go_wp2
  refine bodyPost_ret (v := .agg #[.int .u8 2, .int .i64 0, .string s, .slice none 0 0, .int .i64 0]) (by simp [results, Try.results81, go_sem, *]) rfl ?_
  exact ⟨rfl, (Fr.refl No w).alloc _, by simp⟩

theorem list_any (A : Option Addr) (n c : Nat) (w : World) : Calls Try.prog 82 #[.slice A n c] w fun e w' => e = .returned (.agg #[.int .u8 3, .int .i64 0, .string ⟨#[]⟩, .slice A n c, .int .i64 0]) ∧ Fr No w w' ∧ w'.heap.size = w.heap.size + 1 := by
  go_enter Try.func82, Try.ntmps82
  go_wp2
  refine bodyPost_ret (v := .agg #[.int .u8 3, .int .i64 0, .string ⟨#[]⟩, .slice A n c, .int .i64 0]) (by simp [results, Try.results82, go_sem, *]) rfl ?_
  exact ⟨rfl, (Fr.refl No w).alloc _, by simp⟩

set_option maxRecDepth 100000 in
set_option maxHeartbeats 2000000 in
theorem same_any (t : T) : ∀ (t' : T) (w : World) (lo hi lo' hi' : Nat), t.In w lo hi → hi ≤ w.heap.size → t'.In w lo' hi' → hi' ≤ w.heap.size → Calls Try.prog 37 #[t.val, t'.val] w (SameP t.v t'.v w) := by
  induction t using T.ind with
  | h k n s A cap l r ih =>
    intro t' w lo hi lo' hi' ht hh ht' hh'
    cases t' with
    | mk k' n' s' A' cap' l' r' =>
      rw [T.val_mk, T.val_mk]
      have fr2 := ((Fr.refl No w).alloc (.cells #[.int .u8 k, .int .i64 n, .string s, .slice A l.length cap, .int .i64 r] 27)).alloc (.cells #[.int .u8 k', .int .i64 n', .string s', .slice A' l'.length cap', .int .i64 r'] 27)
      by_cases hk : k = k'
      case neg =>
        have hk' : (k != k') = true := by simpa using hk
        go_enter Try.func37, Try.ntmps37
        go_wp2
        go_ret
        exact ⟨false, rfl, by rw [T.v_mk, T.v_mk]; simp [hk], fr2⟩
      by_cases hn : n = n'
      case neg =>
        have hn' : (n != n') = true := by simpa using hn
        subst hk
        go_enter Try.func37, Try.ntmps37
        go_wp2
        go_ret
        exact ⟨false, rfl, by rw [T.v_mk, T.v_mk]; simp [hn], fr2⟩
      by_cases hs : s = s'
      case neg =>
        have hs' : (s.toList == s'.toList) = false := by simpa using fun h => hs (bytes_ext h)
        have hs2 : ¬ s.toList = s'.toList := fun h => hs (bytes_ext h)
        subst hk
        subst hn
        go_enter Try.func37, Try.ntmps37
        go_wp2
        go_ret
        exact ⟨false, rfl, by rw [T.v_mk, T.v_mk]; simp [hs], fr2⟩
      by_cases hr : r = r'
      case neg =>
        have hr' : (r != r') = true := by simpa using hr
        have HF2 := hide fr2
        subst hk
        subst hn
        subst hs
        go_enter Try.func37, Try.ntmps37
        go_wp2
        go_ret
        exact ⟨false, rfl, by rw [T.v_mk, T.v_mk]; simp [hr], HF2.out⟩
      by_cases hl : l.length = l'.length
      case neg =>
        have hl' : ((l.length : Int) != (l'.length : Int)) = true := by simp; omega
        subst hk
        subst hn
        subst hs
        subst hr
        go_enter Try.func37, Try.ntmps37
        go_wp2
        go_ret
        refine ⟨false, rfl, ?_, fr2⟩
        rw [T.v_mk, T.v_mk]
        simp
        intro h
        exact hl (by simpa using congrArg List.length h)
      subst hk
      subst hn
      subst hs
      subst hr
      have hlen := (T.in_mk.1 ht).1.len1
      have hl' : ((l.length : Int) != (l'.length : Int)) = false := by simp; omega
      have HL := hide hl
      clear hl
      go_enter Try.func37, Try.ntmps37
      go_wp2_with fail
      go_loopw [5] (fun i wr => ∃ j : Nat, j ≤ l.length ∧ i = .int .i64 j ∧ Fr No ((w.alloc (.cells #[.int .u8 k, .int .i64 n, .string s, .slice A l.length cap, .int .i64 r] 27)).alloc (.cells #[.int .u8 k, .int .i64 n, .string s, .slice A' l'.length cap', .int .i64 r] 27)) wr ∧ ∀ i (h : i < j) (h1 : i < l.length) (h2 : i < l'.length), l[i].v = l'[i].v) (fun i _ => l.length - (intOf i).toNat)
      case atStart =>
        exact ⟨0, Nat.zero_le _, rfl, Fr.refl _ _, fun i h => absurd h (by omega)⟩
      case round =>
        obtain ⟨j, hj, rfl, fr, hsame⟩ := hrel
        have hK := ((Blk.new' w 27 #[.int .u8 k, .int .i64 n, .string s, .slice A l.length cap, .int .i64 r] rfl).alloc (.cells #[.int .u8 k, .int .i64 n, .string s, .slice A' l'.length cap', .int .i64 r] 27)).fr fr (fun h => h)
        have hV := (Blk.new' (w.alloc (.cells #[.int .u8 k, .int .i64 n, .string s, .slice A l.length cap, .int .i64 r] 27)) 27 #[.int .u8 k, .int .i64 n, .string s, .slice A' l'.length cap', .int .i64 r] (g := w.heap.size + 1) (by simp)).fr fr (fun h => h)
        have frw := fr2.trans fr
        have hszr := fr.size
        simp at hszr
        by_cases hlt : j < l.length
        · have hlt' : j < l'.length := by have := HL.out; omega
          obtain ⟨b, o, k1, n1, s1, A1, cap1, l1, r1, rfl, hb0, hb1, hx, hin, e0, e1, e2, e3, e4⟩ := T.elem (ht.no frw hh) hlt
          obtain ⟨b', o', k2, n2, s2, A2, cap2, l2, r2, rfl, hb0', hb1', hx', hin', f0, f1, f2, f3, f4⟩ := T.elem (ht'.no frw hh') hlt'
          have IH := ih l[j] (List.getElem_mem hlt) l'[j]
          rw [hx, hx', T.val_mk, T.val_mk] at IH
          obtain ⟨c0, c1, c2, c3, c4, cf⟩ := hK.cells5
          obtain ⟨d0, d1, d2, d3, d4, df⟩ := hV.cells5
          have g0 : b < wr.heap.size := by omega
          have g1 : b' < wr.heap.size := by omega
          have g2 : w.heap.size < wr.heap.size := by omega
          have g3 : w.heap.size + 1 < wr.heap.size := by omega
          have hh0 : hi ≤ wr.heap.size := by omega
          have hh1 : hi' ≤ wr.heap.size := by omega
          have HX := hide hx
          have HX' := hide hx'
          have HF := hide fr
          have HW := hide frw
          have HT := hide ht
          have HT' := hide ht'
          have HS := hide hsame
          clear hx hx' ih hK hV fr frw ht ht' fr2 hsame
          go_wp2_with fail
          go_region_held3 (fun w' => (∀ c i, c < wr.heap.size → w'.cell? ⟨c, i, none⟩ = wr.cell? ⟨c, i, none⟩) ∧ Fr No wr w')
            (first | exact ⟨fun _ _ _ => rfl, Fr.drew (Fr.refl No wr)⟩ | (have hq : Fr No wr _ := (‹_ ∧ Fr No wr _›).2.trans ‹Fr No _ _›; exact ⟨hq.cells, hq⟩))
            (first
              | (go_at_call 37; have hs0 := (‹_ ∧ Fr No wr _›).2; ((with_reducible refine (IH _ lo hi lo' hi' ?_ ?_ ?_ ?_).mono ?_); (exact hin.no hs0 hh0); (exact Nat.le_trans hh0 hs0.size); (exact hin'.no hs0 hh1); (exact Nat.le_trans hh1 hs0.size); rintro e w2 ⟨q, rfl, hq, fr1⟩)))
          cases q with
          | false =>
            go_wp2
            go_ret
            refine ⟨false, rfl, ?_, HW.out.trans (‹_ ∧ Fr No wr _›).2⟩
            rw [T.v_mk, T.v_mk]
            simp
            intro h
            have h1 := congrArg (fun q => q[j]?) h
            simp [hlt, hlt'] at h1
            rw [HX.out, HX'.out] at h1
            exact absurd (hq.2 h1) (by simp)
          | true =>
            go_wp2
            go_roundw
            case rel =>
              refine ⟨j + 1, hlt, by go_num, HF.out.trans (‹_ ∧ Fr No wr _›).2, fun i hi h1 h2 => ?_⟩
              rcases Nat.lt_or_ge i j with h | h
              · exact HS.out i h h1 h2
              · obtain rfl : i = j := by omega
                rw [HX.out, HX'.out]
                exact hq.1 rfl
            case measure => simp [intOf]; omega
        · obtain rfl : l.length = j := by omega
          obtain ⟨c0, c1, c2, c3, c4, cf⟩ := hK.cells5
          obtain ⟨d0, d1, d2, d3, d4, df⟩ := hV.cells5
          have HS := hide hsame
          clear hsame ih
          go_wp2
          go_ret
          refine ⟨true, rfl, ?_, frw⟩
          rw [T.v_mk, T.v_mk]
          simp
          refine List.ext_getElem (by simpa using HL.out) fun i h1 h2 => ?_
          simp at h1 h2
          simpa using HS.out i h1 h1 h2

end Go.Proofs.Ytihjmipmjogpoaa

/- BrandTables: the document's table: where a key stands, what is under it. -/
namespace Go.Proofs.Ytihjmipmjogpoaa
open Go.RowKit

/-- The cells of the rows of the document's table. -/
def prCells (L : List (T × T)) : List Value := L.flatMap fun e => e.1.cells ++ e.2.cells

theorem prCells_length (L : List (T × T)) : (prCells L).length = L.length * 10 := by
  induction L with
  | nil => rfl
  | cons x l ih => simp only [prCells, List.flatMap_cons, List.length_append] at ih ⊢; rw [T.cells_length, T.cells_length, ih]; simp only [List.length_cons]; omega

theorem prCells_append (K L : List (T × T)) : prCells (K ++ L) = prCells K ++ prCells L := by simp [prCells]

theorem prCells_get : ∀ (l : List (T × T)) (i c : Nat) (x : T × T) (u : Value), l[i]? = some x → (x.1.cells ++ x.2.cells)[c]? = some u → (prCells l)[i * 10 + c]? = some u
  | [], i, c, x, u, h, _ => by simp at h
  | y :: l, 0, c, x, u, h, hu => by
    simp at h; subst h
    simp only [prCells, List.flatMap_cons, Nat.zero_mul, Nat.zero_add]
    rw [List.getElem?_append_left]
    · exact hu
    · exact (List.getElem?_eq_some_iff.1 hu).1
  | y :: l, i + 1, c, x, u, h, hu => by
    simp only [List.getElem?_cons_succ] at h
    have := prCells_get l i c x u h hu
    simp only [prCells, List.flatMap_cons] at this ⊢
    rw [List.getElem?_append_right (by simp [T.cells_length]; omega), List.length_append, T.cells_length, T.cells_length, show (i + 1) * 10 + c - (5 + 5) = i * 10 + c by omega]
    exact this

theorem prCells_one (L : List (T × T)) : ∀ u ∈ prCells L, u.oneCell' = true := by
  intro u hu
  simp only [prCells, List.mem_flatMap, List.mem_append] at hu
  obtain ⟨x, _, hx | hx⟩ := hu
  · exact cells_one x.1 u hx
  · exact cells_one x.2 u hx

theorem pr_info : (Try.prog.info? 141).map (fun i => (i.zero, i.size, i.bytes)) = some (some (.agg #[.int .u8 0, .int .i64 0, .string ⟨#[]⟩, .slice none 0 0, .int .i64 0, .int .u8 0, .int .i64 0, .string ⟨#[]⟩, .slice none 0 0, .int .i64 0]), 10, 128) := by kernel_rfl

/-- The document's table: its rows lie from lo on, what they hold below hi0. -/
structure DTab (w : World) (lo hi0 rb : Nat) (A : Option Addr) (cap : Nat) (R : List (T × T)) : Prop where
  blk : Blk w rb 55 #[.slice A R.length cap]
  own : w.ownsRow lo 141 10 (.slice A R.length cap) R.length (prCells R)
  inn : ∀ x ∈ R, x.1.In w 0 hi0 ∧ x.2.In w 0 hi0
  rb0 : lo ≤ rb
  len : R.length ≤ 1000

def dBlocks (rb : Nat) (A : Option Addr) (n cap : Nat) (i : Nat) : Prop := i = rb ∨ (Value.slice A n cap).ownBlock = some i

section
variable {S : Nat → Prop} {w w' : World} {lo hi0 rb : Nat} {A : Option Addr} {cap : Nat} {R : List (T × T)}

theorem DTab.fr (h : DTab w lo hi0 rb A cap R) (f : Fr S w w') (hh : hi0 ≤ w.heap.size) (hs : ∀ i, dBlocks rb A R.length cap i → ¬ S i) (h0 : ∀ i, i < hi0 → ¬ S i) : DTab w' lo hi0 rb A cap R :=
  ⟨h.blk.fr f (hs _ (.inl rfl)), owns_fr h.own f (fun g hg => hs g (.inr hg)), fun x hx => ⟨(h.inn x hx).1.fr f hh (fun i _ hi => h0 i hi), (h.inn x hx).2.fr f hh (fun i _ hi => h0 i hi)⟩, h.rb0, h.len⟩

theorem DTab.no (h : DTab w lo hi0 rb A cap R) (f : Fr No w w') (hh : hi0 ≤ w.heap.size) : DTab w' lo hi0 rb A cap R := h.fr f hh (fun _ _ h => h) (fun _ _ h => h)

theorem DTab.lt (h : DTab w lo hi0 rb A cap R) : ∀ i, dBlocks rb A R.length cap i → lo ≤ i ∧ i < w.heap.size := by
  rintro i (rfl | hi)
  · exact ⟨h.rb0, h.blk.lt⟩
  · exact owns_lt h.own i hi

/-- A row's cells. -/
theorem DTab.row (h : DTab w lo hi0 rb A cap R) {i : Nat} {k n : Int} {s : ByteArray} {B : Option Addr} {c : Nat} {l : List T} {r : Int} {k' n' : Int} {s' : ByteArray} {B' : Option Addr} {c' : Nat} {l' : List T} {r' : Int} (hx : R[i]? = some (.mk k n s B c l r, .mk k' n' s' B' c' l' r')) :
    ∃ g, A = some ⟨g, 0, none⟩ ∧ lo ≤ g ∧ g < w.heap.size ∧ (w.cell? ⟨g, i * 10, none⟩ = some (.int .u8 k) ∧ w.cell? ⟨g, i * 10 + 1, none⟩ = some (.int .i64 n) ∧ w.cell? ⟨g, i * 10 + 2, none⟩ = some (.string s) ∧ w.cell? ⟨g, i * 10 + 3, none⟩ = some (.slice B l.length c) ∧ w.cell? ⟨g, i * 10 + 4, none⟩ = some (.int .i64 r)) ∧
      (w.cell? ⟨g, i * 10 + 5, none⟩ = some (.int .u8 k') ∧ w.cell? ⟨g, i * 10 + 5 + 1, none⟩ = some (.int .i64 n') ∧ w.cell? ⟨g, i * 10 + 5 + 2, none⟩ = some (.string s') ∧ w.cell? ⟨g, i * 10 + 5 + 3, none⟩ = some (.slice B' l'.length c') ∧ w.cell? ⟨g, i * 10 + 5 + 4, none⟩ = some (.int .i64 r')) ∧ ∀ q, w.frozen? ⟨g, q, none⟩ = false := by
  have hi := (List.getElem?_eq_some_iff.1 hx).1
  rcases h.own.2 with ⟨h1, h2⟩ | ⟨g, cp, cur, h1, hb, hg, hc, hm, hsz, hcur⟩
  · omega
  · simp only [Value.slice.injEq, true_and] at h1
    obtain ⟨rfl, rfl⟩ := h1
    have key : ∀ d u, ((T.mk k n s B c l r).cells ++ (T.mk k' n' s' B' c' l' r').cells)[d]? = some u → w.cell? ⟨g, i * 10 + d, none⟩ = some u := fun d u hu => by
      have := World.ownsRow.cells h.own (g := g) rfl (i * 10 + d) u (prCells_get R i d _ u hx hu)
      rwa [add_at, Nat.zero_add] at this
    exact ⟨g, rfl, hb, (owns_lt h.own g rfl).2, ⟨key 0 _ rfl, key 1 _ rfl, key 2 _ rfl, key 3 _ rfl, key 4 _ rfl⟩, ⟨key 5 _ rfl, key 6 _ rfl, key 7 _ rfl, key 8 _ rfl, key 9 _ rfl⟩, fun q => Blk.frozen (show Blk w g 141 cur from hg) q⟩
end

/-- Where a key stands. -/
def DAt (u : V) (R : List (T × T)) (q : Int) : Prop := (∃ (i : Nat) (x : T × T), q = i ∧ R[i]? = some x ∧ x.1.v = u) ∨ (q = -1 ∧ ∀ x ∈ R, x.1.v ≠ u)

set_option maxRecDepth 100000 in
set_option maxHeartbeats 4000000 in
theorem dat_any (key : T) (R : List (T × T)) (w : World) (klo khi lo hi0 rb : Nat) (A : Option Addr) (cap : Nat) (hk : key.In w klo khi) (hkh : khi ≤ w.heap.size) (hD : DTab w lo hi0 rb A cap R) (hh : hi0 ≤ w.heap.size) :
    Calls Try.prog 136 #[.pointer (some ⟨rb, 0, none⟩), key.val] w fun e w' => (∃ q, e = .returned (.int .i64 q) ∧ DAt key.v R q) ∧ Fr No w w' := by
  have hsm := fun t' w' hi' (f : Fr No w w') (h : T.In w' 0 hi' t') (h' : hi' ≤ w'.heap.size) => same_any t' key w' 0 hi' klo khi h h' (hk.no f hkh) (Nat.le_trans hkh f.size)
  have hlen := hD.len
  cases key with
  | mk k n s B c l r =>
    rw [T.val_mk] at *
    generalize hu : (T.mk k n s B c l r).v = u at *
    have HSM := hide hsm
    have HU := hide hu
    have HDT := hide hD
    clear hsm hu hk
    go_enter Try.func136, Try.ntmps136
    go_wp2_with fail
    go_loopw [5] (fun i wr => ∃ j : Nat, j ≤ R.length ∧ i = .int .i64 j ∧ Fr No (w.alloc (.cells #[.int .u8 k, .int .i64 n, .string s, .slice B l.length c, .int .i64 r] 27)) wr ∧ ∀ i x, i < j → R[i]? = some x → x.1.v ≠ u) (fun i _ => R.length - (intOf i).toNat)
    case atStart => exact ⟨0, Nat.zero_le _, rfl, Fr.refl _ _, fun i x h => absurd h (by omega)⟩
    case round =>
      obtain ⟨j, hj, rfl, fr, hno⟩ := hrel
      have hK := (Blk.new' w 27 #[.int .u8 k, .int .i64 n, .string s, .slice B l.length c, .int .i64 r] rfl).fr fr (fun h => h)
      have frw := ((Fr.refl No w).alloc (.cells #[.int .u8 k, .int .i64 n, .string s, .slice B l.length c, .int .i64 r] 27)).trans fr
      have D := HDT.out.no frw hh
      have t0 := D.blk.cell 0
      simp only [List.getElem?_toArray, List.getElem?_cons_zero] at t0
      have tq := D.blk.lt
      by_cases hlt : j < R.length
      · obtain ⟨⟨a, b⟩, hx⟩ : ∃ x, R[j]? = some x := ⟨_, List.getElem?_eq_getElem hlt⟩
        have hain := (D.inn _ (List.mem_of_getElem? hx)).1
        obtain ⟨k1, n1, s1, B1, c1, l1, r1⟩ := a
        obtain ⟨k2, n2, s2, B2, c2, l2, r2⟩ := b
        obtain ⟨g, rfl, -, gl, ⟨e0, e1, e2, e3, e4⟩, -, -⟩ := D.row hx
        obtain ⟨c0, c1', c2', c3, c4, cf⟩ := hK.cells5
        have g2 : w.heap.size < wr.heap.size := hK.lt
        have hh0 : hi0 ≤ wr.heap.size := Nat.le_trans hh frw.size
        have HF := hide fr
        have HW := hide frw
        have HS := hide hno
        have HX := hide hx
        have HAI := hide hain
        clear hno hx hK fr frw D hD HDT hain
        go_wp2_with fail
        go_region_held3 (fun w' => (∀ c i, c < wr.heap.size → w'.cell? ⟨c, i, none⟩ = wr.cell? ⟨c, i, none⟩) ∧ Fr No wr w')
          (first | exact ⟨fun _ _ _ => rfl, Fr.drew (Fr.refl No wr)⟩ | (have hq : Fr No wr _ := (‹_ ∧ Fr No wr _›).2.trans ‹Fr No _ _›; exact ⟨hq.cells, hq⟩))
          (first
            | (go_at_call 37; have hs0 := (‹_ ∧ Fr No wr _›).2; have hc := HSM.out (T.mk k1 n1 s1 B1 c1 l1 r1) _ hi0 (HW.out.trans hs0) (HAI.out.no hs0 hh0) (Nat.le_trans hh0 hs0.size); rw [T.val_mk] at hc; ((with_reducible refine hc.mono ?_); rintro e w2 ⟨q, rfl, hq, fr1⟩)))
        cases q with
        | false =>
          go_wp2
          go_roundw
          case rel =>
            refine ⟨j + 1, hlt, by go_num, HF.out.trans (‹_ ∧ Fr No wr _›).2, fun i x hi hx => ?_⟩
            rcases Nat.lt_or_ge i j with h | h
            · exact HS.out i x h hx
            · obtain rfl : i = j := by omega
              rw [HX.out] at hx
              simp at hx
              subst hx
              exact fun h => absurd (hq.2 h) (by simp)
          case measure => simp [intOf]; omega
        | true =>
          have hq1 := hq.1 rfl
          have HQ := hide hq1
          clear hq hq1
          go_wp2
          go_ret
          exact ⟨⟨_, rfl, .inl ⟨j, _, rfl, HX.out, HQ.out⟩⟩, HW.out.trans (‹_ ∧ Fr No wr _›).2⟩
      · obtain rfl : R.length = j := by omega
        have HS := hide hno
        have HW := hide frw
        clear hno hK fr frw D hD HDT
        go_wp2
        go_ret
        refine ⟨⟨_, rfl, .inr ⟨rfl, fun x hx => ?_⟩⟩, HW.out⟩
        obtain ⟨i, hi, rfl⟩ := List.mem_iff_getElem.1 hx
        exact HS.out i _ hi (List.getElem?_eq_getElem hi)

/-- What Get answers. -/
def DGet (u : V) (R : List (T × T)) (t : T) (had : Bool) : Prop := (∃ (i : Nat) (x : T × T), R[i]? = some x ∧ x.1.v = u ∧ t = x.2 ∧ had = true) ∨ ((∀ x ∈ R, x.1.v ≠ u) ∧ t = T.zero ∧ had = false)

set_option maxRecDepth 100000 in
set_option maxHeartbeats 4000000 in
theorem dget_any (key : T) (R : List (T × T)) (w : World) (klo khi lo hi0 rb : Nat) (A : Option Addr) (cap : Nat) (hk : key.In w klo khi) (hkh : khi ≤ w.heap.size) (hD : DTab w lo hi0 rb A cap R) (hh : hi0 ≤ w.heap.size) :
    Calls Try.prog 98 #[.pointer (some ⟨rb, 0, none⟩), key.val] w fun e w' => (∃ t had, e = .returned (.tuple #[t.val, .bool had]) ∧ DGet key.v R t had) ∧ Fr No w w' := by
  have hat := fun w' (f : Fr No w w') => dat_any key R w' klo khi lo hi0 rb A cap (hk.no f hkh) (Nat.le_trans hkh f.size) (hD.no f hh) (Nat.le_trans hh f.size)
  have hlen := hD.len
  cases key with
  | mk k n s B c l r =>
    rw [T.val_mk] at *
    generalize hu : (T.mk k n s B c l r).v = u at *
    have f1 := ((Fr.refl No w).alloc (.cells #[.int .u8 k, .int .i64 n, .string s, .slice B l.length c, .int .i64 r] 27)).alloc (.cells #[.int .u8 0, .int .i64 0, .string ⟨#[]⟩, .slice none 0 0, .int .i64 0] 27)
    have bz : Blk ((w.alloc (.cells #[.int .u8 k, .int .i64 n, .string s, .slice B l.length c, .int .i64 r] 27)).alloc (.cells #[.int .u8 0, .int .i64 0, .string ⟨#[]⟩, .slice none 0 0, .int .i64 0] 27)) (w.heap.size + 1) 27 #[.int .u8 0, .int .i64 0, .string ⟨#[]⟩, .slice none 0 0, .int .i64 0] := Blk.new' (w.alloc _) 27 _ (by simp)
    have hat1 := hat _ f1
    have HAT := hide hat1
    have HDT := hide hD
    have HF1 := hide f1
    have HBZ := hide bz
    clear hat hat1 hu hk hD f1 bz
    go_enter Try.func98, Try.ntmps98
    go_wp2_with fail
    generalize World.alloc (World.alloc w _) _ = w1 at *
    refine HAT.out.mono ?_
    rintro e w2 ⟨⟨q, rfl, hq⟩, f2⟩
    have fw := HF1.out.trans f2
    have D := HDT.out.no fw hh
    have t0 := D.blk.cell 0
    simp only [List.getElem?_toArray, List.getElem?_cons_zero] at t0
    have tq := D.blk.lt
    have b2 := HBZ.out.fr f2 (fun h => h)
    obtain ⟨z0, z1, z2, z3, z4, zf⟩ := b2.cells5
    have zl := b2.lt
    have HW := hide fw
    rcases hq with ⟨i, ⟨a, b⟩, rfl, hx, hu⟩ | ⟨rfl, hn⟩
    · have hi := (List.getElem?_eq_some_iff.1 hx).1
      obtain ⟨k1, n1, s1, B1, c1, l1, r1⟩ := a
      obtain ⟨k2, n2, s2, B2, c2, l2, r2⟩ := b
      obtain ⟨g, rfl, -, gl, -, ⟨e0, e1, e2, e3, e4⟩, -⟩ := D.row hx
      have HX := hide hx
      have HU := hide hu
      clear f2 fw D b2 hx hu HAT HDT HF1 HBZ
      go_wp2_with fail
      refine bodyPost_ret (v := .tuple #[.agg #[.int .u8 k2, .int .i64 n2, .string s2, .slice B2 l2.length c2, .int .i64 r2], .bool true]) (by simp [results, Try.results98, go_sem, *]) rfl ?_
      refine ⟨⟨T.mk k2 n2 s2 B2 c2 l2 r2, true, rfl, .inl ⟨i, _, HX.out, HU.out, rfl, rfl⟩⟩, ?_⟩
      have hF := HW.out
      repeat (first | with_reducible exact hF | with_reducible refine Fr.setNew ?_ (by first | (simp; done) | (simp; omega)) _)
    · have HN := hide hn
      clear f2 fw D b2 hn HAT HDT HF1 HBZ
      go_wp2_with fail
      refine bodyPost_ret (v := .tuple #[.agg #[.int .u8 0, .int .i64 0, .string ⟨#[]⟩, .slice none 0 0, .int .i64 0], .bool false]) (by simp [results, Try.results98, go_sem, *]) rfl ?_
      refine ⟨⟨T.zero, false, rfl, .inr ⟨HN.out, rfl, rfl⟩⟩, ?_⟩
      have hF := HW.out
      repeat (first | with_reducible exact hF | with_reducible refine Fr.setNew ?_ (by first | (simp; done) | (simp; omega)) _)

end Go.Proofs.Ytihjmipmjogpoaa

/- Texts joined: W4, Z5, P4, A2, B6. -/
import Derived.Test.YtihjmipmjogpoaaJn7
/- Chapter 2: value.Bytes. -/
namespace Go.Proofs.Ytihjmipmjogpoaa
open Go.RowKit

theorem enc_length (v : V) : v.ok = true → v.enc.length ≤ 259 * v.size := by
  induction v using V.ind with
  | h k n s l r ih =>
    intro hok
    rw [V.ok_mk, Bool.and_eq_true] at hok
    obtain ⟨hf, hall⟩ := hok
    rw [V.enc_mk, V.size_mk, List.length_cons]
    have hsum : ((l.map V.enc).flatten).length ≤ 259 * (l.map V.size).sum := by
      clear hf
      induction l with
      | nil => simp
      | cons x l ih2 =>
        simp only [List.all_cons, Bool.and_eq_true] at hall
        have h1 := ih x (by simp) hall.1
        have h2 := ih2 (fun y hy => ih y (by simp [hy])) hall.2
        simp only [List.map_cons, List.flatten_cons, List.length_append, List.sum_cons]
        omega
    by_cases h1 : k = 1
    · rw [if_pos h1, hiB_length]; omega
    rw [if_neg h1]
    by_cases h2 : k = 2
    · rw [if_pos h2, List.length_append, hiB_length, strB_length]
      subst h2
      simp [fok] at hf
      omega
    rw [if_neg h2]
    by_cases h3 : k = 3
    · rw [if_pos h3, List.length_append, hiB_length]; omega
    rw [if_neg h3]
    by_cases h4 : k = 4
    · rw [if_pos h4, hiB_length]; omega
    · rw [if_neg h4]; simp; omega

theorem enc_pos (v : V) : 0 < v.enc.length := by
  cases v; rw [V.enc_mk]; simp

theorem conv_owned {w : World} {base : Nat} {A : Option Addr} {cap : Nat} {L : List Nat} (h : w.ownsRow base 5 1 (.slice A L.length cap) L.length (byteCells L)) (hne : 0 < L.length) :
    (convert 151 9 (.slice A L.length cap)).run Try.prog w = .ok (.string (strOfNums (L.map fun (x : Nat) => (x : Int)))) w := by
  obtain ⟨g, rfl, hg, hc⟩ := owns_cells (f := fun (x : Nat) => Value.int .u8 (x : Int)) h hne
  refine run_convert_bytes_arg w 151 5 Try.underlying151 Try.underlying5 g 0 L.length cap (L.map fun (x : Nat) => (x : Int)) (by simp) (fun i hi => ?_) 9 Try.underlying9
  rw [Nat.zero_add, hc i L[i] (List.getElem?_eq_getElem hi)]
  simp [List.getD, List.getElem?_eq_getElem hi]

set_option maxRecDepth 100000 in
set_option maxHeartbeats 4000000 in
theorem Bytes_any (t : T) (w : World) (lo hi : Nat) (ht : t.In w lo hi) (hh : hi ≤ w.heap.size) : Calls Try.prog 46 #[t.val] w (BytesP t.v w) := by
  have hM := fun w' h h' => may_any t w' lo hi h h'
  have hR := fun w' h h' => Refs_any t w' lo hi h h'
  have hWr := write_any t
  cases t with
  | mk k n s A cap l r =>
    rw [T.val_mk] at *
    generalize hu : (T.mk k n s A cap l r).v = u at *
    have fr1 := (Fr.refl No w).alloc (.cells #[.int .u8 k, .int .i64 n, .string s, .slice A l.length cap, .int .i64 r] 27)
    have hK := Blk.new' w 27 #[.int .u8 k, .int .i64 n, .string s, .slice A l.length cap, .int .i64 r] rfl
    have ht1 := ht.no fr1 hh
    have hs1 := Nat.le_trans hh fr1.size
    have HU := hide hu
    clear hu ht
    cases hm : u.may with
    | false =>
      have hP : ∀ w', Fr No w w' → BytesP u w (.returned (.tuple #[.string ⟨#[]⟩, .int .i64 2])) w' := fun w' f => ⟨f, (fun h => absurd h.1 (by rw [hm]; simp)), fun _ => rfl⟩
      have HP := hide hP
      rw [hm] at hM
      clear hm hP hWr hR
      go_enter Try.func46, Try.ntmps46
      go_wp2_with fail
      refine (hM _ ht1 hs1).mono ?_
      rintro e w2 ⟨rfl, fr2⟩
      go_wp2
      go_ret2
      exact HP.out _ (fr1.trans fr2)
    | true =>
      have hok := may_ok hm
      have hsz : u.size ≤ 512 := by simp [V.may, V.fits] at hm; omega
      have hrl : u.refs.length ≤ 1000000 := by
        have h1 := refsOf_length (u.walk [])
        rw [walk_length] at h1
        have : u.refs = refsOf (u.walk []) := by simp [V.refs, hm]
        rw [this]; omega
      have hel := enc_length u hok
      have HMM := hide hm
      rw [hm] at hM
      clear hm
      go_enter Try.func46, Try.ntmps46
      go_wp2_with fail
      generalize World.alloc w _ = W0 at *
      refine (hM _ ht1 hs1).mono ?_
      rintro e w2 ⟨rfl, fr2⟩
      have hK2 := hK.fr fr2 fun h => h
      obtain ⟨c0, c1, c2, c3, c4, cf⟩ := hK2.cells5
      have ht2 := ht1.no fr2 hs1
      have hs2 := Nat.le_trans hs1 fr2.size
      have HF2 := hide (fr1.trans fr2)
      clear fr1 fr2 hK hM
      go_wp2_with fail
      refine (hR _ ht2 hs2).mono ?_
      rintro e w3 ⟨vr, rfl, hor, fr3⟩
      obtain ⟨Ar, cr, rfl⟩ := owns_form hor
      have hC := contains_any Ar cr u.refs w2.heap.size w3 hrl hor
      have hK3 := hK2.fr fr3 fun h => h
      have ht3 := ht2.no fr3 hs2
      have hs3 := Nat.le_trans hs2 fr3.size
      have HF3 := hide (HF2.out.trans fr3)
      clear c0 c1 c2 c3 c4 cf hor fr3 hK2 hR
      go_wp2_with fail
      refine hC.mono ?_
      rintro e w4 ⟨⟨q, rfl, hq⟩, fr4⟩
      have hK4 := hK3.fr fr4 fun h => h
      obtain ⟨c0, c1, c2, c3, c4, cf⟩ := hK4.cells5
      have ht4 := ht3.no fr4 hs3
      have hs4 := Nat.le_trans hs3 fr4.size
      have HF4 := hide (HF3.out.trans fr4)
      have HQ := hide hq
      clear fr4 hq hK3 hC
      cases q with
      | true =>
        have hP : ∀ w', Fr No w w' → BytesP u w (.returned (.tuple #[.string ⟨#[]⟩, .int .i64 2])) w' := fun w' f => ⟨f, (fun h => by
          obtain ⟨r, hr, hb⟩ := HQ.out.1 rfl
          have := h.2 r hr
          omega), fun _ => rfl⟩
        have HP := hide hP
        clear hP
        go_wp2
        go_ret2
        exact HP.out _ HF4.out
      | false =>
        have hhas : u.hasBytes := ⟨HMM.out, fun r hr => by
          rcases Int.lt_or_le 4294967295 r with h | h
          · exact absurd (HQ.out.2 ⟨r, hr, h⟩) (by simp)
          · exact h⟩
        have hw := hWr (.slice none 0 0) [] w4.heap.size w4 lo hi ht4 hs4 (Nat.le_refl _) hok (World.ownsRow_nil _ _ _ _) (by simp; omega)
        have HW := hide hw
        have HH := hide hhas
        clear hw hhas hWr
        go_wp2_with fail
        refine HW.out.mono ?_
        rintro e w5 ⟨v5, rfl, ho5, f5⟩
        rw [List.nil_append] at ho5
        obtain ⟨A5, c5, rfl⟩ := owns_form ho5
        have hcv := conv_owned ho5 (enc_pos u)
        have f6 : Fr No w w5 := HF4.out.trans' f5 fun i hi h => by have := HF4.out.size; have := h.1; omega
        have HF6 := hide f6
        clear ho5 f5 f6 c0 c1 c2 c3 c4 cf hK4
        go_wp2
        go_ret2
        exact ⟨HF6.out, fun _ => rfl, fun h => absurd HH.out h⟩

end Go.Proofs.Ytihjmipmjogpoaa

/- Chapter 2: awake: its calls, each at its closed data. -/
namespace Go.Proofs.Ytihjmipmjogpoaa
open Go.RowKit

/-- A value without a list, in memory. -/
def lf (k n : Int) (s : ByteArray) (r : Int) : T := .mk k n s none 0 [] r

theorem lf_v (k n : Int) (s : ByteArray) (r : Int) : (lf k n s r).v = .mk k n s [] r := by rw [lf, T.v_mk]; rfl
theorem lf_val (k n : Int) (s : ByteArray) (r : Int) : (lf k n s r).val = .agg #[.int .u8 k, .int .i64 n, .string s, .slice none 0 0, .int .i64 r] := rfl
theorem lf_in {k n r : Int} (w : World) (lo hi : Nat) (h0 : 0 ≤ k) (h1 : k < 256) (h2 : -100 ≤ n) (h3 : n ≤ 100) (h4 : -100 ≤ r) (h5 : r ≤ 100) : (lf k n ⟨#[]⟩ r).In w lo hi := by
  rw [lf, T.in_mk]; exact ⟨⟨h0, h1, by omega, by omega, by decide, by decide, Nat.le_refl _, by omega, by omega⟩, fun h => absurd rfl h, by simp⟩

def awC1 : Array Value := #[.int .u8 4, .int .i64 0, .string ⟨#[]⟩, .slice none 0 0, .int .i64 7]
def awC2 (g : Nat) : Array Value := #[.int .u8 1, .int .i64 1, .string ⟨#[]⟩, .slice none 0 0, .int .i64 0, .int .u8 3, .int .i64 0, .string ⟨#[]⟩, .slice (some ⟨g, 0, none⟩) 1 1, .int .i64 0]

/-- The value that awake builds, as it lies in memory. -/
def awT (g1 g2 : Nat) : T := .mk 3 0 ⟨#[]⟩ (some ⟨g2, 0, none⟩) 2 [lf 1 1 ⟨#[]⟩ 0, .mk 3 0 ⟨#[]⟩ (some ⟨g1, 0, none⟩) 1 [lf 4 0 ⟨#[]⟩ 7] 0] 0

theorem awT_v (g1 g2 : Nat) : (awT g1 g2).v = awV := by
  rw [awT, T.v_mk]; simp [lf_v, T.v_mk, awV]
theorem awT_val (g1 g2 : Nat) : (awT g1 g2).val = .agg #[.int .u8 3, .int .i64 0, .string ⟨#[]⟩, .slice (some ⟨g2, 0, none⟩) 2 2, .int .i64 0] := rfl

theorem fit3 (n : Nat) (h : n ≤ 100) : Fit 3 0 ⟨#[]⟩ n n 0 := ⟨by decide, by decide, by decide, by decide, by decide, by omega, Nat.le_refl _, by decide, by decide⟩

theorem five_cells (x : T) (c : Nat) (u : Value) (h : x.cells[c]? = some u) : c < 5 := by
  rcases Nat.lt_or_ge c 5 with hlt | hge
  · exact hlt
  · rw [List.getElem?_eq_none (by rw [T.cells_length]; exact hge)] at h; cases h

theorem awT_in {w : World} {g1 g2 lo hi : Nat} (h1 : Blk w g1 27 awC1) (h2 : Blk w g2 27 (awC2 g1)) (a : lo ≤ g1) (b : g1 < hi) (c : lo ≤ g2) (d : g2 < hi) : (awT g1 g2).In w lo hi := by
  rw [awT, T.in_mk]
  refine ⟨fit3 2 (by decide), fun _ => ⟨g2, 0, rfl, c, d, fun i x hx j u hu => ?_⟩, ?_⟩
  · have hj := five_cells x j u hu
    rw [h2.cell]
    match i, hx with
    | 0, hx =>
      simp at hx; subst hx
      match j, hu with
      | 0, hu => exact hu
      | 1, hu => exact hu
      | 2, hu => exact hu
      | 3, hu => exact hu
      | 4, hu => exact hu
      | c + 5, hu => omega
    | 1, hx =>
      simp at hx; subst hx
      match j, hu with
      | 0, hu => exact hu
      | 1, hu => exact hu
      | 2, hu => exact hu
      | 3, hu => exact hu
      | 4, hu => exact hu
      | c + 5, hu => omega
    | i + 2, hx => simp at hx
  · intro x hx
    simp at hx
    rcases hx with rfl | rfl
    · exact lf_in _ _ _ (by decide) (by decide) (by decide) (by decide) (by decide) (by decide)
    · rw [T.in_mk]
      refine ⟨fit3 1 (by decide), fun _ => ⟨g1, 0, rfl, a, b, fun i x hx j u hu => ?_⟩, ?_⟩
      · have hj := five_cells x j u hu
        rw [h1.cell]
        match i, hx with
        | 0, hx =>
          simp at hx; subst hx
          match j, hu with
          | 0, hu => exact hu
          | 1, hu => exact hu
          | 2, hu => exact hu
          | 3, hu => exact hu
          | 4, hu => exact hu
          | c + 5, hu => omega
        | i + 1, hx => simp at hx
      · intro x hx
        simp at hx
        subst hx
        exact lf_in _ _ _ (by decide) (by decide) (by decide) (by decide) (by decide) (by decide)

theorem toL0 : (⟨#[]⟩ : ByteArray).toList = [] := by rw [ByteArray.toList_eq]

theorem aw_may : awV.may = true := by simp [awV, V.may, V.fits, V.ok_mk, V.size_mk, V.dep_mk, fok, toL0, top]
theorem aw_size : awV.size = 4 := by simp [awV, V.size_mk]
theorem aw_dep : awV.dep = 2 := by simp [awV, V.dep_mk, top]
theorem aw_low : awV.low = true := by simp [awV, V.low_mk]
theorem aw_has : awV.hasBytes := (hasBytes_iff _).2 ⟨aw_may, aw_low⟩
theorem aw_encS : awV.encS = awS := by rw [encS_eq, aw_enc]; rfl
theorem aw_at : atOf awV [1, 0] = (.mk 4 0 ⟨#[]⟩ [] 7, 0) := by
  unfold atOf; rw [if_pos aw_may]; rfl

section
variable {w : World} {g1 g2 : Nat} (h1 : Blk w g1 27 awC1) (h2 : Blk w g2 27 (awC2 g1))
include h1 h2
theorem aw_in : (awT g1 g2).In w 0 w.heap.size := awT_in h1 h2 (Nat.zero_le _) h1.lt (Nat.zero_le _) h2.lt

theorem aw_bytes : Calls Try.prog 46 #[.agg #[.int .u8 3, .int .i64 0, .string ⟨#[]⟩, .slice (some ⟨g2, 0, none⟩) 2 2, .int .i64 0]] w fun e w' => e = .returned (.tuple #[.string awS, .int .i64 0]) ∧ Fr No w w' := by
  have h := Bytes_any (awT g1 g2) w 0 w.heap.size (aw_in h1 h2) (Nat.le_refl _)
  rw [awT_v, awT_val] at h
  refine h.mono fun e w' hp => ⟨?_, hp.1⟩
  rw [hp.2.1 aw_has, aw_encS]

theorem aw_atc {g : Nat} (hp : Blk w g 3 #[.int .i64 1, .int .i64 0]) : Calls Try.prog 68 #[.agg #[.int .u8 3, .int .i64 0, .string ⟨#[]⟩, .slice (some ⟨g2, 0, none⟩) 2 2, .int .i64 0], .slice (some ⟨g, 0, none⟩) 2 2] w
    fun e w' => (∃ A cap, e = .returned (.tuple #[.agg #[.int .u8 4, .int .i64 0, .string ⟨#[]⟩, .slice A 0 cap, .int .i64 7], .int .i64 0])) ∧ Fr No w w' := by
  have hI : Ints w 0 w.heap.size (some ⟨g, 0, none⟩) 2 [1, 0] := by
    refine ⟨by decide, by decide, fun _ => ⟨g, 0, rfl, Nat.zero_le _, hp.lt, fun i x hx => ?_⟩, ?_⟩
    · rw [hp.cell]
      match i, hx with
      | 0, hx => simp at hx; subst hx; rfl
      | 1, hx => simp at hx; subst hx; rfl
      | i + 2, hx => simp at hx
    · intro x hx; simp at hx; rcases hx with rfl | rfl <;> decide
  have h := At_any (awT g1 g2) w 0 w.heap.size (aw_in h1 h2) (Nat.le_refl _) (some ⟨g, 0, none⟩) 2 [1, 0] 0 w.heap.size hI (Nat.le_refl _)
  rw [awT_v, awT_val, aw_at] at h
  refine h.mono fun e w' ⟨t', he, hv, _, hf⟩ => ⟨?_, hf⟩
  obtain ⟨k, n, s, A, cap, l, r⟩ := t'
  rw [T.v_mk] at hv
  injection hv with q1 q2 q3 q4 q5
  subst q1 q2 q3 q5
  obtain rfl : l = [] := by simpa using q4
  exact ⟨A, cap, he⟩

theorem aw_same {t : T} (ht : t.v = awV) (hin : t.In w 0 w.heap.size) : Calls Try.prog 54 #[t.val, .agg #[.int .u8 3, .int .i64 0, .string ⟨#[]⟩, .slice (some ⟨g2, 0, none⟩) 2 2, .int .i64 0]] w fun e w' => e = .returned (.bool true) ∧ Fr No w w' := by
  have h := vsame_any t (awT g1 g2) w 0 w.heap.size hin (aw_in h1 h2) (Nat.le_refl _)
  rw [awT_v, ht, same2_self aw_may] at h
  exact h

theorem aw_parts : Calls Try.prog 56 #[.agg #[.int .u8 3, .int .i64 0, .string ⟨#[]⟩, .slice (some ⟨g2, 0, none⟩) 2 2, .int .i64 0]] w fun e w' => e = .returned (.int .i64 4) ∧ Fr No w w' := by
  have h := Parts_any (awT g1 g2) w 0 w.heap.size (aw_in h1 h2) (Nat.le_refl _)
  rw [awT_v] at h
  have e : awV.meas = 4 := by simp [V.meas, aw_may, aw_size]
  rw [e] at h
  exact h

theorem aw_deep : Calls Try.prog 57 #[.agg #[.int .u8 3, .int .i64 0, .string ⟨#[]⟩, .slice (some ⟨g2, 0, none⟩) 2 2, .int .i64 0]] w fun e w' => e = .returned (.int .i64 2) ∧ Fr No w w' := by
  have h := Deep_any (awT g1 g2) w 0 w.heap.size (aw_in h1 h2) (Nat.le_refl _)
  rw [awT_v, if_pos aw_may, aw_dep] at h
  exact h

theorem aw_mayc : Calls Try.prog 58 #[.agg #[.int .u8 3, .int .i64 0, .string ⟨#[]⟩, .slice (some ⟨g2, 0, none⟩) 2 2, .int .i64 0]] w fun e w' => e = .returned (.bool true) ∧ Fr No w w' := by
  have h := may_any (awT g1 g2) w 0 w.heap.size (aw_in h1 h2) (Nat.le_refl _)
  rw [awT_v, aw_may] at h
  exact h

theorem aw_each : Calls Try.prog 41 #[.agg #[.int .u8 3, .int .i64 0, .string ⟨#[]⟩, .slice (some ⟨g2, 0, none⟩) 2 2, .int .i64 0]] w fun e w' => e = .returned (.func (.func 105) #[] #[.pointer (some ⟨w.heap.size, 0, none⟩)]) ∧ Fr No w w' := by
  have h := Each_yes (awT g1 g2) w 0 w.heap.size (aw_in h1 h2) (Nat.le_refl _) (by rw [awT_v]; exact aw_may)
  rw [awT_v] at h
  refine h.mono fun e w' hp => ⟨?_, hp.fr⟩
  obtain ⟨_, _, _, _, _, _, _, he, _⟩ := hp.yes aw_may
  exact he
end

theorem aw_read (w : World) : Calls Try.prog 48 #[.string awS] w fun e w' => (∃ t : T, t.v = awV ∧ e = .returned (.tuple #[t.val, .int .i64 0]) ∧ t.In w' 0 w'.heap.size) ∧ Fr No w w' := by
  refine (Read_any awS w).mono fun e w' hp => ⟨?_, hp.fr⟩
  obtain ⟨t, h1, h2, h3⟩ := hp.yes awV 508 (by decide) aw_parse
  exact ⟨t, h1, h2, T.In.more (Nat.zero_le _) (Nat.le_refl _) _ h3⟩

theorem aw_order (w : World) : Calls Try.prog 55 #[.agg #[.int .u8 1, .int .i64 1, .string ⟨#[]⟩, .slice none 0 0, .int .i64 0], .agg #[.int .u8 1, .int .i64 2, .string ⟨#[]⟩, .slice none 0 0, .int .i64 0]] w fun e w' => e = .returned (.tuple #[.int .i64 (-1), .int .i64 0]) ∧ Fr No w w' := by
  have h := vorder_any (lf 1 1 ⟨#[]⟩ 0) (lf 1 2 ⟨#[]⟩ 0) w 0 0 (lf_in _ _ _ (by decide) (by decide) (by decide) (by decide) (by decide) (by decide)) (lf_in _ _ _ (by decide) (by decide) (by decide) (by decide) (by decide) (by decide)) (Nat.zero_le _)
  have m1 : (V.mk 1 1 ⟨#[]⟩ [] 0).may = true := by simp [V.may, V.fits, V.ok_mk, V.size_mk, V.dep_mk, fok, toL0]
  have m2 : (V.mk 1 2 ⟨#[]⟩ [] 0).may = true := by simp [V.may, V.fits, V.ok_mk, V.size_mk, V.dep_mk, fok, toL0]
  have o : (V.mk 1 1 ⟨#[]⟩ [] 0).ord (V.mk 1 2 ⟨#[]⟩ [] 0) = -1 := by rw [V.ord_mk]; rfl
  rw [lf_v, lf_v, m1, m2, o] at h
  exact h

end Go.Proofs.Ytihjmipmjogpoaa

/- Chapter 2: the law's own spoil: it writes over a value's lists, and grows them. -/
namespace Go.Proofs.Ytihjmipmjogpoaa
open Go.RowKit

def m5 : T := lf 1 (-5) ⟨#[]⟩ 0
def m6 : T := lf 1 (-6) ⟨#[]⟩ 0

/-- A row whose first parts are written over. -/
def spRow (l : List T) (j : Nat) : List T := List.replicate j m5 ++ l.drop j

theorem spRow_zero (l : List T) : spRow l 0 = l := by simp [spRow]
theorem spRow_length {l : List T} {j : Nat} (h : j ≤ l.length) : (spRow l j).length = l.length := by simp [spRow]; omega
theorem spRow_at {l : List T} {j : Nat} (h : j < l.length) : (spRow l j)[j]? = some l[j] := by
  rw [spRow, List.getElem?_append_right (by simp)]
  simp [h]
theorem spRow_set {l : List T} {j : Nat} (h : j < l.length) : (spRow l j).set j m5 = spRow l (j + 1) := by
  rw [spRow, spRow, List.set_append_right _ _ (by simp), List.length_replicate, Nat.sub_self, List.drop_eq_getElem_cons h, List.set_cons_zero, List.replicate_succ', List.append_assoc]
  rfl
theorem spRow_all (l : List T) : spRow l l.length = List.replicate l.length m5 := by simp [spRow]

/-- Five cells of a row of one's own written over. -/
theorem owns_set5 {w : World} {lo g n cap j : Nat} {L : List T} (h : w.ownsRow lo 27 5 (.slice (some ⟨g, 0, none⟩) n cap) n (rowCells L)) (hL : L.length = n) (hj : j < n) (k1 n1 : Int) (s1 : ByteArray) (A1 : Option Addr) (c1 : Nat) (l1 : List T) (r1 : Int) :
    (((((w.setCell ⟨g, j * 5, none⟩ (.int .u8 k1)).setCell ⟨g, j * 5 + 1, none⟩ (.int .i64 n1)).setCell ⟨g, j * 5 + 2, none⟩ (.string s1)).setCell ⟨g, j * 5 + 3, none⟩ (.slice A1 l1.length c1)).setCell ⟨g, j * 5 + 4, none⟩ (.int .i64 r1)).ownsRow lo 27 5 (.slice (some ⟨g, 0, none⟩) n cap) n (rowCells (L.set j (T.mk k1 n1 s1 A1 c1 l1 r1))) := by
  refine ⟨by rw [rowCells_length, List.length_set, hL], ?_⟩
  rcases h.2 with ⟨h', _⟩ | ⟨g', cap', cur, hv, hb, hg, hc, hm, hs, hx⟩
  · cases h'
  · simp at hv
    obtain ⟨rfl, rfl⟩ := hv
    have hB := (show Blk w g 27 cur from hg).five (j * 5) (.int .u8 k1) (.int .i64 n1) (.string s1) (.slice A1 l1.length c1) (.int .i64 r1)
    refine .inr ⟨g, cap, _, rfl, hb, hB, hc, hm, by simp [hs], ?_⟩
    refine List.ext_getElem? fun q => ?_
    have hsz : n * 5 ≤ cur.size := by rw [hs]; exact Nat.mul_le_mul_right _ hc
    by_cases hq : q < n * 5
    · have hi : q / 5 < n := by omega
      have hL2 : q / 5 < (L.set j (T.mk k1 n1 s1 A1 c1 l1 r1)).length := by rw [List.length_set, hL]; exact hi
      have hcl : q % 5 < ((L.set j (T.mk k1 n1 s1 A1 c1 l1 r1))[q / 5]).cells.length := by rw [T.cells_length]; omega
      have e1 := rowCells_get _ (q / 5) (q % 5) _ _ (List.getElem?_eq_getElem hL2) (List.getElem?_eq_getElem hcl)
      rw [show q / 5 * 5 + q % 5 = q by omega] at e1
      rw [e1, List.getElem?_take, if_pos hq, Array.getElem?_toList]
      simp only [Array.getElem?_setIfInBounds, Array.size_setIfInBounds]
      by_cases hqj : q / 5 = j
      · have hget : (L.set j (T.mk k1 n1 s1 A1 c1 l1 r1))[q / 5] = T.mk k1 n1 s1 A1 c1 l1 r1 := by
          rw [List.getElem_set, if_pos hqj.symm]
        have h5 : q % 5 = 0 ∨ q % 5 = 1 ∨ q % 5 = 2 ∨ q % 5 = 3 ∨ q % 5 = 4 := by omega
        have hqq : q = j * 5 + q % 5 := by omega
        have hlt : q < cur.size := by omega
        rcases h5 with h5 | h5 | h5 | h5 | h5
        all_goals
          rw [h5] at hqq
          simp only [hget, h5, T.cells_mk]
          subst hqq
          simp
          try omega
      · have hget : (L.set j (T.mk k1 n1 s1 A1 c1 l1 r1))[q / 5] = L[q / 5]'(by omega) := by
          rw [List.getElem_set, if_neg (fun h => hqj h.symm)]
        rw [if_neg (by omega), if_neg (by omega), if_neg (by omega), if_neg (by omega), if_neg (by omega)]
        have hcl' : q % 5 < (L[q / 5]'(by omega)).cells.length := by rw [T.cells_length]; omega
        have e2 := rowCells_get L (q / 5) (q % 5) _ _ (List.getElem?_eq_getElem (by omega)) (List.getElem?_eq_getElem hcl')
        rw [show q / 5 * 5 + q % 5 = q by omega, ← hx, List.getElem?_take, if_pos hq, Array.getElem?_toList] at e2
        rw [e2]
        simp only [hget]
    · rw [List.getElem?_eq_none (by simp; omega), List.getElem?_eq_none (by rw [rowCells_length, List.length_set, hL]; omega)]

theorem owns_five {w : World} {lo g n cap j : Nat} {L : List T} (h : w.ownsRow lo 27 5 (.slice (some ⟨g, 0, none⟩) n cap) n (rowCells L)) {k1 n1 : Int} {s1 : ByteArray} {A1 : Option Addr} {c1 : Nat} {l1 : List T} {r1 : Int} (hx : L[j]? = some (T.mk k1 n1 s1 A1 c1 l1 r1)) :
    w.cell? ⟨g, j * 5, none⟩ = some (.int .u8 k1) ∧ w.cell? ⟨g, j * 5 + 1, none⟩ = some (.int .i64 n1) ∧ w.cell? ⟨g, j * 5 + 2, none⟩ = some (.string s1) ∧ w.cell? ⟨g, j * 5 + 3, none⟩ = some (.slice A1 l1.length c1) ∧ w.cell? ⟨g, j * 5 + 4, none⟩ = some (.int .i64 r1) ∧ (∀ o, w.frozen? ⟨g, o, none⟩ = false) ∧ g < w.heap.size := by
  have hc : ∀ c u, (T.mk k1 n1 s1 A1 c1 l1 r1).cells[c]? = some u → w.cell? ⟨g, j * 5 + c, none⟩ = some u := fun c u hu => by
    have := World.ownsRow.cells h (g := g) rfl _ _ (rowCells_get L j c _ u hx hu)
    rwa [add_at, Nat.zero_add] at this
  refine ⟨hc 0 _ rfl, hc 1 _ rfl, hc 2 _ rfl, hc 3 _ rfl, hc 4 _ rfl, fun o => ?_, (owns_lt h g rfl).2⟩
  rcases h.2 with ⟨h', _⟩ | ⟨g', cap', cur, hv, hb, hg, _⟩
  · cases h'
  · simp at hv
    obtain ⟨rfl, rfl⟩ := hv
    exact Blk.frozen hg o

/-- Where spoil's first loop stands. -/
structure SpInv (w : World) (lo hi : Nat) (k n : Int) (s : ByteArray) (A : Option Addr) (cap : Nat) (l : List T) (r : Int) (j : Nat) (wr : World) : Prop where
  fr : Fr (fun i => i ∈ (T.mk k n s A cap l r).blocks) w wr
  box : Blk wr w.heap.size 27 #[.int .u8 k, .int .i64 n, .string s, .slice A l.length cap, .int .i64 r]
  own : wr.ownsRow lo 27 5 (.slice A l.length cap) l.length (rowCells (spRow l j))
  sp : ∀ i (h : i < l.length), j ≤ i → l[i].Sp wr lo hi

theorem sp_child_ne {k n : Int} {s : ByteArray} {g o cap : Nat} {l : List T} {r : Int} (h : (T.mk k n s (some ⟨g, o, none⟩) cap l r).blocks.Nodup) {x : T} (hx : x ∈ l) : g ∉ x.blocks := by
  intro hg
  rw [T.blocks_mk] at h
  have hne : l.isEmpty = false := by cases l with
    | nil => cases hx
    | cons => rfl
  rw [hne] at h
  simp only [Bool.false_eq_true, if_false, Option.map_some, Option.toList_some, List.singleton_append, List.nodup_cons] at h
  exact h.1 (List.mem_flatten.2 ⟨_, List.mem_map_of_mem hx, hg⟩)

theorem nodup_at {L : List (List Nat)} (h : L.flatten.Nodup) {i j : Nat} (hi : i < L.length) (hj : j < L.length) (hij : i < j) {b : Nat} (hb : b ∈ L[i]) : b ∉ L[j] := by
  induction L generalizing i j with
  | nil => simp at hi
  | cons a L ih =>
    rw [List.flatten_cons, List.nodup_append] at h
    cases i with
    | zero =>
      cases j with
      | zero => omega
      | succ j =>
        intro h2
        exact h.2.2 b hb b (List.mem_flatten.2 ⟨_, List.getElem_mem (by simpa using hj), h2⟩) rfl
    | succ i =>
      cases j with
      | zero => omega
      | succ j => exact ih h.2.1 (by simpa using hi) (by simpa using hj) (by omega) hb

theorem sp_child_far {k n : Int} {s : ByteArray} {A : Option Addr} {cap : Nat} {l : List T} {r : Int} (h : (T.mk k n s A cap l r).blocks.Nodup) {i j : Nat} (hi : i < l.length) (hj : j < l.length) (hij : i < j) {b : Nat} (hb : b ∈ l[j].blocks) : b ∉ l[i].blocks := by
  rw [T.blocks_mk, List.nodup_append] at h
  intro hb2
  have := nodup_at (L := l.map T.blocks) h.2.1 (i := i) (j := j) (by simpa using hi) (by simpa using hj) hij (b := b) (by simpa using hb2)
  exact this (by simpa using hb)

theorem sp_child_nodup {k n : Int} {s : ByteArray} {A : Option Addr} {cap : Nat} {l : List T} {r : Int} (h : (T.mk k n s A cap l r).blocks.Nodup) {x : T} (hx : x ∈ l) : x.blocks.Nodup := by
  rw [T.blocks_mk, List.nodup_append] at h
  have h2 := h.2.1
  clear h
  induction l with
  | nil => cases hx
  | cons a l ih =>
    rw [List.map_cons, List.flatten_cons, List.nodup_append] at h2
    rcases List.mem_cons.1 hx with rfl | hx
    · exact h2.1
    · exact ih hx h2.2.1

/-- One part is spoiled, then written over. -/
theorem sp_push {w wr w2 w3 : World} {lo hi : Nat} {k n : Int} {s : ByteArray} {g cap : Nat} {l : List T} {r : Int} {j : Nat} (inv : SpInv w lo hi k n s (some ⟨g, 0, none⟩) cap l r j wr) (hnd : (T.mk k n s (some ⟨g, 0, none⟩) cap l r).blocks.Nodup) (hj : j < l.length) (hh : hi ≤ w.heap.size) (hlo : ∀ x ∈ l, x.In w lo hi)
    (f2 : Fr (fun i => i ∈ l[j].blocks) wr w2) (f3 : Fr No w2 w3) :
    Blk w3 w.heap.size 27 #[.int .u8 k, .int .i64 n, .string s, .slice (some ⟨g, 0, none⟩) l.length cap, .int .i64 r] ∧ w3.ownsRow lo 27 5 (.slice (some ⟨g, 0, none⟩) l.length cap) l.length (rowCells (spRow l j)) ∧
    (g < w.heap.size → SpInv w lo hi k n s (some ⟨g, 0, none⟩) cap l r (j + 1) (((((w3.setCell ⟨g, j * 5, none⟩ (.int .u8 1)).setCell ⟨g, j * 5 + 1, none⟩ (.int .i64 (-5))).setCell ⟨g, j * 5 + 2, none⟩ (.string ⟨#[]⟩)).setCell ⟨g, j * 5 + 3, none⟩ (.slice none 0 0)).setCell ⟨g, j * 5 + 4, none⟩ (.int .i64 0))) := by
  have F : Fr (fun i => i ∈ l[j].blocks) wr w3 := f2.thenNo f3
  have hmem := List.getElem_mem hj
  have hbl : ∀ b ∈ l[j].blocks, lo ≤ b ∧ b < hi := T.In.blocks _ (hlo _ hmem)
  have hg := sp_child_ne hnd hmem
  have b3 := inv.box.fr F (fun h => by have := hbl _ h; omega)
  have o3 := owns_fr inv.own F (fun g' h => by simp [Value.ownBlock] at h; subst h; exact hg)
  refine ⟨b3, o3, fun hgs => ?_⟩
  have F5 := (Fr.refl (fun i => i = g) w3).five (g := g) (fun _ => rfl) (j * 5) (.int .u8 1) (.int .i64 (-5)) (.string ⟨#[]⟩) (.slice none 0 0) (.int .i64 0)
  have hgm : g ∈ (T.mk k n s (some ⟨g, 0, none⟩) cap l r).blocks := T.mem_blocks (by rintro rfl; simp at hj)
  refine ⟨?_, ?_, ?_, fun i hi' hij => ?_⟩
  · refine (inv.fr.trans' F fun i _ h => T.sub_blocks hmem h).trans' F5 fun i _ h => ?_
    have h' : i = g := h
    rw [h']; exact hgm
  · exact b3.fr F5 (fun h => by have h' : w.heap.size = g := h; omega)
  · have := owns_set5 o3 (spRow_length (Nat.le_of_lt hj)) hj 1 (-5) ⟨#[]⟩ none 0 [] 0
    rw [show T.mk 1 (-5) ⟨#[]⟩ none 0 [] 0 = m5 from rfl, spRow_set hj] at this
    exact this
  · have h1 := inv.sp i hi' (by omega)
    have h2 := T.Sp.fr F _ (fun b hb => sp_child_far hnd hj hi' (by omega) hb) h1
    exact T.Sp.fr F5 _ (fun b hb h => by have h' : b = g := h; subst h'; exact sp_child_ne hnd (List.getElem_mem hi') hb) h2

set_option maxRecDepth 100000 in
set_option maxHeartbeats 8000000 in
theorem spoil_any (t : T) : ∀ (w : World) (lo hi : Nat), t.Sh w lo hi → hi ≤ w.heap.size → lo ≤ w.heap.size → t.v.size ≤ 1000000 →
    Calls Try.prog 44 #[t.val] w fun e w' => (∃ z : Nat, e = .returned (.int .i64 (z : Int)) ∧ 0 < z ∧ z + 1 ≤ 6 * t.v.size) ∧ Fr (fun i => i ∈ t.blocks) w w' := by
  induction t using T.ind with
  | h k n s A cap l r ih =>
    intro w lo hi hsh hh hlow hsz
    have hin := hsh.inn
    have fit := (T.in_mk.1 hin).1
    have hlen := fit.len1
    have hsp := T.sp_mk.1 hsh.sp
    have hnd := hsh.nodup
    rw [T.val_mk]
    have hsize : (T.mk k n s A cap l r).v.size = 1 + ((l.map T.v).map V.size).sum := by rw [T.v_mk, V.size_mk]
    rw [hsize] at hsz ⊢
    have hls := size_sum (l.map T.v)
    rw [List.length_map] at hls
    have hfr0 : Fr (fun i => i ∈ (T.mk k n s A cap l r).blocks) w (w.alloc (.cells #[.int .u8 k, .int .i64 n, .string s, .slice A l.length cap, .int .i64 r] 27)) := (Fr.refl _ w).alloc _
    have hinv0 : SpInv w lo hi k n s A cap l r 0 (w.alloc (.cells #[.int .u8 k, .int .i64 n, .string s, .slice A l.length cap, .int .i64 r] 27)) := by
      refine ⟨hfr0, Blk.new w 27 _, ?_, fun i h _ => T.Sp.fr ((Fr.refl No w).alloc _) _ (fun _ _ h => h) (hsp.2.2.2 _ (List.getElem_mem h))⟩
      rw [spRow_zero]
      by_cases hl : l = []
      · obtain ⟨h1, h2⟩ := hsp.2.1 hl
        subst hl h1 h2
        exact World.ownsRow_nil _ _ _ _
      · exact (hsp.2.2.1 hl).1.alloc _
    have hAg : l ≠ [] → ∃ g, A = some ⟨g, 0, none⟩ ∧ g < hi := fun hl => (hsp.2.2.1 hl).2
    have hlo : ∀ x ∈ l, x.In w lo hi := (T.in_mk.1 hin).2.2
    obtain ⟨i0, hi0, hz0, hz1, hz2⟩ := info_parts value_info
    have HS := hide hsize
    clear hsize hfr0
    go_enter Try.func44, Try.ntmps44
    go_wp2_with fail
    go_loopw [3, 4] (fun v i wr => ∃ j m : Nat, j ≤ l.length ∧ i = .int .i64 (j : Int) ∧ v = .int .i64 (m : Int) ∧ m + j ≤ 6 * (((l.map T.v).map V.size).take j).sum ∧ SpInv w lo hi k n s A cap l r j wr) (fun _ i _ => l.length - (intOf i).toNat)
    case atStart => exact ⟨0, 0, Nat.zero_le _, rfl, rfl, by simp, hinv0⟩
    case round =>
      obtain ⟨j, m, hj, rfl, rfl, hm, inv⟩ := hrel
      obtain ⟨c0, c1, c2, c3, c4, cf⟩ := inv.box.cells5
      have q0 := inv.box.lt
      have hts := sum_take_le ((l.map T.v).map V.size) j
      by_cases hlt : j < l.length
      · obtain ⟨g, rfl, hg⟩ := hAg (by rintro rfl; simp at hlt)
        have hcase := ih l[j] (List.getElem_mem hlt) wr lo hi ⟨inv.sp j hlt (Nat.le_refl _), sp_child_nodup hnd (List.getElem_mem hlt)⟩ (by have := inv.fr.size; omega) (by have := inv.fr.size; omega)
        have hto := sum_take_succ ((l.map T.v).map V.size) j (by simpa using hlt)
        have hts2 := sum_take_le ((l.map T.v).map V.size) (j + 1)
        rw [List.getElem_map, List.getElem_map] at hto
        have hpush := fun w2 w3 (f2 : Fr (fun i => i ∈ l[j].blocks) wr w2) (f3 : Fr No w2 w3) => sp_push inv hnd hlt hh hlo f2 f3
        have hat := spRow_at hlt
        cases hx : l[j] with
        | mk k1 n1 s1 A1 cap1 l1 r1 =>
          rw [hx] at hcase hto hpush hat
          rw [T.val_mk] at hcase
          obtain ⟨e0, e1, e2, e3, e4, ef, eg⟩ := owns_five inv.own hat
          generalize (T.mk k1 n1 s1 A1 cap1 l1 r1).v.size = z at *
          generalize (T.mk k1 n1 s1 A1 cap1 l1 r1).blocks = bl at *
          have hcase2 := hcase (by omega)
          have HC := hide hcase2
          have HTO := hide hto
          have HP := hide hpush
          have HAT := hide hat
          have hmz : m ≤ 6000000 := by omega
          have hm2 : m + j ≤ 6 * (((l.map T.v).map V.size).take j).sum := hm
          have HM := hide hm2
          have hzz : z ≤ 1000000 := by omega
          have hgs : g < w.heap.size := by omega
          clear hcase hcase2 hto hpush hat hx ih inv hinv0 hin hsh hnd hsp hAg hts hts2 hm hm2 hlo
          go_wp2_with fail
          refine HC.out.mono ?_
          rintro e w2 ⟨⟨y, rfl, hy0, hy1⟩, f2⟩
          obtain ⟨b2, o2, -⟩ := HP.out w2 w2 f2 (Fr.refl No w2)
          clear c0 c1 c2 c3 c4 cf q0 e0 e1 e2 e3 e4 ef eg
          obtain ⟨c0, c1, c2, c3, c4, cf⟩ := b2.cells5
          have q0 := b2.lt
          have HB2 := hide b2
          have HO2 := hide o2
          have HF2 := hide f2
          clear b2 o2 f2
          have hyb : y ≤ 6000000 := by omega
          have hnum := fun w3 => num2_any (-5) w3
          have hadd : m + y + (j + 1) ≤ 6 * (((l.map T.v).map V.size).take (j + 1)).sum := by
            rw [HTO.out]; have := HM.out; omega
          have HADD := hide hadd
          clear hadd
          go_wp2_with fail
          go_region_law (go_simp; go_at_call 79; (with_reducible refine (hnum _).mono ?_); rintro e w3 ⟨rfl, f3⟩; obtain ⟨b3, o3, hi3⟩ := HP.out w2 w3 HF2.out ⟨f3.os, f3.tape, f3.output, f3.size, f3.block⟩; obtain ⟨x0, x1, x2, x3, x4, xf, xg⟩ := owns_five o3 HAT.out; obtain ⟨d0, d1, d2, d3, d4, df⟩ := b3.cells5; have HI3 := hide (hi3 hgs); clear b3 o3 hi3)
          all_goals
            go_wp2
            go_roundw
            case rel => exact ⟨j + 1, m + y, hlt, by go_num, by go_num, HADD.out, HI3.out⟩
            case measure => simp [intOf]; omega
      · obtain rfl : l.length = j := by omega
        have hown := inv.own
        rw [spRow_all] at hown
        have hAb : ∀ g, (Value.slice A l.length cap).ownBlock = some g → g ∈ (T.mk k n s A cap l r).blocks ∨ w.heap.size ≤ g := fun g hg => by
          by_cases hl : l = []
          · obtain ⟨h1, _⟩ := hsp.2.1 hl
            subst h1; cases hg
          · obtain ⟨g', rfl, _⟩ := hAg hl
            simp [Value.ownBlock] at hg
            subst hg
            exact .inl (T.mem_blocks hl)
        have hst : Fr (fun i => i ∈ (T.mk k n s A cap l r).blocks) w wr := inv.fr
        have hm0 : m + l.length ≤ 6 * ((l.map T.v).map V.size).sum := by
          rw [List.take_of_length_le (by simp)] at hm; exact hm
        have HM := hide hm0
        have HOWN := hide hown
        have HAB := hide hAb
        have HST := hide hst
        have hmm : m ≤ 6000000 := by omega
        clear hown hAb hst hm hm0 inv ih hinv0 hsp hnd hsh hin hlo hAg hts
        go_wp2_with fail
        clear c0 c1 c2 c3 c4 cf q0
        go_loopw [5, 6] (fun v i wk => ∃ (c : Nat) (A3 : Option Addr) (cap3 : Nat), c ≤ 5 ∧ i = .int .i64 (c : Int) ∧ v = .slice A3 (l.length + c) cap3 ∧ wk.ownsRow lo 27 5 (.slice A3 (l.length + c) cap3) (l.length + c) (rowCells (List.replicate l.length m5 ++ List.replicate c m6)) ∧
          Fr (fun i => i ∈ (T.mk k n s A cap l r).blocks) w wk ∧ (∀ g, (Value.slice A3 (l.length + c) cap3).ownBlock = some g → g ∈ (T.mk k n s A cap l r).blocks ∨ w.heap.size ≤ g)) (fun _ i _ => 5 - (intOf i).toNat)
        case atStart => exact ⟨0, A, cap, by omega, rfl, rfl, by simpa using HOWN.out, HST.out, HAB.out⟩
        case round =>
          obtain ⟨c, A3, cap3, hc, rfl, rfl, own3, fr3, hb3⟩ := hrel
          by_cases hc5 : c < 5
          · have HO3 := hide own3
            have HF3 := hide fr3
            have HB3 := hide hb3
            have hsz3 := fr3.size
            have hnum := fun w3 => num2_any (-6) w3
            clear own3 fr3 hb3
            go_wp2_with fail
            refine (hnum wr).mono ?_
            rintro e w4 ⟨rfl, f4⟩
            have hs4 := f4.size
            have hownA := (owns_fr HO3.out f4 fun _ _ h => h).alloc (.cells #[.int .u8 1, .int .i64 (-6), .string ⟨#[]⟩, .slice none 0 0, .int .i64 0] 27)
            have HF4 := hide f4
            clear f4
            go_wp2_with (at_builtin; refine wpList_append_lies _ (by rfl) _ _ _ (by rfl) lo 27 i0 _ 5 64 Try.underlying24 hi0 hz0 hz1 hz2 (by rfl) (by omega) (.slice A3 (l.length + c) cap3) (l.length + c) (rowCells (List.replicate l.length m5 ++ List.replicate c m6)) (by rfl) hownA ⟨w4.heap.size, 0, none⟩ 1 1 [.int .u8 1, .int .i64 (-6), .string ⟨#[]⟩, .slice none 0 0, .int .i64 0] (by rfl) (by rfl) (World.news_of_block (Blk.new w4 27 _)) (by simp [Value.oneCell']) (by omega) (by unfold maxLen; omega) (by omega) (by simp; omega) (w4.heap.size + 1) (by simp) ?_; intro g cp w5 hown5 hgrow hat hlt5; have HO5 := hide hown5; have HG := hide hgrow; have HA := hide hat; clear hown5 hgrow hat)
            go_roundw
            case rel =>
              refine ⟨c + 1, some ⟨g, 0, none⟩, cp, by omega, by go_num, rfl, ?_, ?_, ?_⟩
              · have h := HO5.out
                rw [List.replicate_succ', ← List.append_assoc, rowCells_snoc]
                exact h
              · refine (((HF3.out.thenNo HF4.out).alloc _).trans' (fr_grown HG.out) fun i hi h => ?_)
                have h' : some i = (Value.slice A3 (l.length + c) cap3).ownBlock := h
                rcases HB3.out i h'.symm with h | h
                · exact h
                · omega
              · intro g' hg'
                simp [Value.ownBlock] at hg'
                subst hg'
                rcases HA.out with h | h
                · exact HB3.out _ h
                · right; omega
            case measure => simp [intOf]; omega
          · obtain rfl : c = 5 := by omega
            have HF3 := hide fr3
            clear fr3 own3 hb3
            go_wp2
            go_ret
            refine ⟨⟨m + (l.length + 5), by go_num, by omega, ?_⟩, HF3.out⟩
            have := HM.out
            omega

end Go.Proofs.Ytihjmipmjogpoaa

/- Chapter 2: the law's own small: is a value small enough to be copied whole? -/
namespace Go.Proofs.Ytihjmipmjogpoaa
open Go.RowKit

/-- What small answers. -/
def smallOf (v : V) (room deep : Int) : Int := if (v.size : Int) ≤ room ∧ (v.ht : Int) ≤ deep then v.size else -1

theorem smallOf_no {v : V} {room deep : Int} (h : ¬ ((v.size : Int) ≤ room ∧ (v.ht : Int) ≤ deep)) : smallOf v room deep = -1 := if_neg h
theorem smallOf_yes {v : V} {room deep : Int} (h : (v.size : Int) ≤ room ∧ (v.ht : Int) ≤ deep) : smallOf v room deep = v.size := if_pos h

theorem sum_len (l : List V) : l.length ≤ (l.map V.size).sum := by
  induction l with
  | nil => simp
  | cons x l ih => have := x.size_pos; simp; omega

/-- A part that does not fit. -/
theorem small_stop {k n : Int} {s : ByteArray} {l : List V} {r room deep : Int} {j : Nat} (hj : j < l.length) (h : ¬ ((l[j].size : Int) ≤ room - (1 + sizeTo l j : Nat) ∧ (l[j].ht : Int) ≤ deep - 1)) : smallOf (.mk k n s l r) room deep = -1 := by
  refine smallOf_no fun ⟨h1, h2⟩ => h ⟨?_, ?_⟩
  · rw [V.size_mk] at h1
    have := sizeTo_succ l j hj
    have := sizeTo_le l (j + 1)
    omega
  · have := ht_child (k := k) (n := n) (s := s) (r := r) (List.getElem_mem hj)
    omega

theorem small_done {k n : Int} {s : ByteArray} {l : List V} {r room deep : Int} (h1 : ((1 + sizeTo l l.length : Nat) : Int) ≤ room) (h0 : 0 ≤ deep) (h2 : ∀ x ∈ l, (x.ht : Int) ≤ deep - 1) : smallOf (.mk k n s l r) room deep = ((1 + sizeTo l l.length : Nat) : Int) := by
  have e : (V.mk k n s l r).size = 1 + sizeTo l l.length := by rw [V.size_mk, sizeTo_all]
  rw [smallOf_yes ⟨by rw [e]; exact h1, ?_⟩, e]
  have : (V.mk k n s l r).ht ≤ deep.toNat := by
    rw [V.ht_mk]
    refine top1_le fun y hy => ?_
    obtain ⟨x, hx, rfl⟩ := List.mem_map.1 hy
    have := h2 x hx
    omega
  omega

set_option maxRecDepth 100000 in
set_option maxHeartbeats 4000000 in
theorem small_any (t : T) : ∀ (room deep : Int) (w : World) (lo hi : Nat), t.In w lo hi → hi ≤ w.heap.size → -10000 ≤ room → room ≤ 10000 → -1 ≤ deep → deep ≤ 100 →
    Calls Try.prog 39 #[t.val, .int .i64 room, .int .i64 deep] w fun e w' => e = .returned (.int .i64 (smallOf t.v room deep)) ∧ Fr No w w' := by
  induction t using T.ind with
  | h k n s A cap l r ih =>
    intro room deep w lo hi ht hh hr0 hr1 hd0 hd1
    rw [T.val_mk]
    have hlen := (T.in_mk.1 ht).1.len1
    have fr1 := (Fr.refl No w).alloc (.cells #[.int .u8 k, .int .i64 n, .string s, .slice A l.length cap, .int .i64 r] 27)
    have hK := Blk.new' w 27 #[.int .u8 k, .int .i64 n, .string s, .slice A l.length cap, .int .i64 r] rfl
    have hsz : (T.mk k n s A cap l r).v.size = 1 + (((l.map T.v).map V.size).sum) := by rw [T.v_mk, V.size_mk]
    have hls := sum_len (l.map T.v)
    rw [List.length_map] at hls
    by_cases hb : deep < 0 ∨ room < 1 ∨ room ≤ (l.length : Int)
    · have e : smallOf (T.mk k n s A cap l r).v room deep = -1 := smallOf_no fun ⟨h1, h2⟩ => by omega
      rw [e]
      clear ih hsz
      by_cases hb1 : deep < 0
      · go_enter Try.func39, Try.ntmps39
        go_wp2
        go_ret
        exact ⟨rfl, fr1⟩
      have hb1' : decide (deep < 0) = false := by simpa using hb1
      by_cases hb2 : room < 1
      · go_enter Try.func39, Try.ntmps39
        go_wp2
        go_ret
        exact ⟨rfl, fr1⟩
      have hb2' : decide (room < 1) = false := by simpa using hb2
      have hb3 : room ≤ (l.length : Int) := by omega
      go_enter Try.func39, Try.ntmps39
      go_wp2
      go_ret
      exact ⟨rfl, fr1⟩
    · have hb1 : decide (deep < 0) = false := by simp; omega
      have hb2 : decide (room < 1) = false := by simp; omega
      have hb3 : ¬ room ≤ (l.length : Int) := by omega
      have hd2 : 0 ≤ deep := by omega
      have hr2 : 1 ≤ room := by omega
      have HSZ := hide hsz
      clear hb hsz
      obtain ⟨c0, c1, c2, c3, c4, cf⟩ := hK.cells5
      have q0 := hK.lt
      go_enter Try.func39, Try.ntmps39
      go_wp2_with fail
      go_loopw [7, 8, 9] (fun v i _ wr => ∃ j m : Nat, j ≤ l.length ∧ i = .int .i64 (j : Int) ∧ v = .int .i64 (m : Int) ∧ m = 1 + sizeTo (l.map T.v) j ∧ (m : Int) ≤ room ∧ (∀ x ∈ (l.map T.v).take j, (x.ht : Int) ≤ deep - 1) ∧ Fr No (w.alloc (.cells #[.int .u8 k, .int .i64 n, .string s, .slice A l.length cap, .int .i64 r] 27)) wr) (fun _ i _ _ => l.length - (intOf i).toNat)
      case atStart => exact ⟨0, 1, Nat.zero_le _, rfl, rfl, by simp [sizeTo_zero], by omega, by simp, Fr.refl _ _⟩
      case round =>
        obtain ⟨j, m, hj, rfl, rfl, hm, hmr, hall, fr⟩ := hrel
        obtain ⟨d0, d1, d2, d3, d4, df⟩ := (hK.fr fr fun h => h).cells5
        have frw := fr1.trans fr
        have HM := hide hm
        have HA := hide hall
        clear hm hall c0 c1 c2 c3 c4 cf
        by_cases hlt : j < l.length
        · obtain ⟨b, o, k1, n1, s1, A1, cap1, l1, r1, rfl, hb0, hb1', hx, hin, e0, e1, e2, e3, e4⟩ := T.elem (ht.no frw hh) hlt
          have hIH := fun room deep => ih l[j] (List.getElem_mem hlt) room deep wr lo hi (by rw [hx]; exact hin) (by have := frw.size; omega)
          have hj' : j < (l.map T.v).length := by simpa using hlt
          have hxv : (l.map T.v)[j] = (T.mk k1 n1 s1 A1 cap1 l1 r1).v := by rw [List.getElem_map, hx]
          have hto := sizeTo_succ (l.map T.v) j hj'
          have hst := fun h => small_stop (k := k) (n := n) (s := s) (r := r) (room := room) (deep := deep) hj' h
          rw [hxv] at hto hst
          rw [hx, T.val_mk] at hIH
          generalize (T.mk k1 n1 s1 A1 cap1 l1 r1).v = u at *
          have g0 : b < wr.heap.size := by have := frw.size; omega
          have hle : m ≤ 10000 := by omega
          have HF := hide fr
          have HW := hide frw
          have hup := u.size_pos
          by_cases hfit : (u.size : Int) ≤ room - (m : Int) ∧ (u.ht : Int) ≤ deep - 1
          · have hc := hIH (room - (m : Int)) (deep - 1) (by omega) (by omega) (by omega) (by omega)
            rw [smallOf_yes hfit] at hc
            have HC := hide hc
            have HT := hide hto
            have HX := hide hxv
            obtain ⟨hf1, hf2⟩ := hfit
            have hnn : ¬ ((u.size : Int) < 0) := by omega
            clear hIH hst hto hxv hx ih fr frw fr1 hc hin hls
            generalize hq : u.size = q at *
            have HQ := hide hq
            clear hq
            go_wp2_with fail
            refine HC.out.mono ?_
            rintro e w2 ⟨rfl, fr2⟩
            have HF2 := hide fr2
            clear fr2
            go_wp2
            go_roundw
            case rel =>
              refine ⟨j + 1, m + q, hlt, by go_num, by go_num, ?_, by omega, ?_, HF.out.trans HF2.out⟩
              · rw [HT.out, HM.out]; omega
              · intro x hx2
                rw [List.take_succ_eq_append_getElem hj', List.mem_append, HX.out] at hx2
                rcases hx2 with h | h
                · exact HA.out x h
                · simp at h; subst h; exact hf2
            case measure => simp [intOf]; omega
          · have hc := hIH (room - (m : Int)) (deep - 1) (by omega) (by omega) (by omega) (by omega)
            rw [smallOf_no hfit] at hc
            have hno : smallOf (T.mk k n s (some ⟨b, o, none⟩) cap l r).v room deep = -1 := by rw [T.v_mk]; exact hst (by rw [← HM.out]; exact hfit)
            have HC := hide hc
            have HNO := hide hno
            clear hIH hst hto hxv hx ih fr frw fr1 hc hin hls hfit hno
            go_wp2_with fail
            refine HC.out.mono ?_
            rintro e w2 ⟨rfl, fr2⟩
            have HF2 := hide (HW.out.trans fr2)
            clear fr2
            go_wp2
            go_ret
            exact ⟨by rw [HNO.out]; rfl, HF2.out⟩
        · obtain rfl : l.length = j := by omega
          have hdone : smallOf (T.mk k n s A cap l r).v room deep = (m : Int) := by
            rw [T.v_mk, HM.out]
            have h1 : (l.map T.v).length = l.length := by simp
            have := small_done (k := k) (n := n) (s := s) (l := l.map T.v) (r := r) (room := room) (deep := deep) (by rw [h1, ← HM.out]; exact hmr) hd2 (fun x hx => HA.out x (by rw [List.take_of_length_le (by simp)]; exact hx))
            rw [this, h1]
          have HD := hide hdone
          have HW := hide frw
          clear hdone ih fr frw fr1 hls
          go_wp2
          go_ret
          exact ⟨by rw [HD.out]; rfl, HW.out⟩

end Go.Proofs.Ytihjmipmjogpoaa

/- Chapter 2: the document's answer: look, Parts, May. -/
namespace Go.Proofs.Ytihjmipmjogpoaa
open Go.RowKit

def lookOf (v : V) (p q : Nat) : Int := if v.fits p q = true then (v.size : Int) else -1

theorem look_no {v : V} {p q : Nat} (h : v.fits p q = false) : lookOf v p q = -1 := by simp [lookOf, h]
theorem look_leaf {k n : Int} {s : ByteArray} {l : List V} {r : Int} {p q : Nat} (hk : k ≠ 3) (hp : 1 ≤ p) (h : fok k n s l.length r = true) : lookOf (.mk k n s l r) p q = 1 := by
  obtain ⟨h1, h2⟩ := fits_leaf (k := k) (n := n) (s := s) (l := l) (r := r) (p := p) (q := q) hk hp
  simp [lookOf, h1, h, h2 h]
theorem look_bad {k n : Int} {s : ByteArray} {l : List V} {r : Int} {p q : Nat} (hk : k ≠ 3) (hp : 1 ≤ p) (h : fok k n s l.length r = false) : lookOf (.mk k n s l r) p q = -1 :=
  look_no ((fits_leaf hk hp).1.trans h)
theorem look_bad3 {n : Int} {s : ByteArray} {l : List V} {r : Int} {p q : Nat} (h : fok 3 n s l.length r = false) : lookOf (.mk 3 n s l r) p q = -1 :=
  look_no (by simp [V.fits, V.ok_mk, h])
theorem look_off {k n : Int} {s : ByteArray} {l : List V} {r : Int} {p q : Nat} (h : 4 < k) : lookOf (.mk k n s l r) p q = -1 :=
  look_no (by simp [V.fits, V.ok_mk, fok, show ¬ k = 0 by omega, show ¬ k = 1 by omega, show ¬ k = 2 by omega, show ¬ k = 3 by omega, show ¬ k = 4 by omega])

theorem str_ne {s : ByteArray} (h : ¬ s = ⟨#[]⟩) : s.toList.isEmpty = false := by
  cases hl : s.toList with
  | nil => exact absurd (toList_nil hl) h
  | cons x l => rfl

theorem str_ne2 {s : ByteArray} (h : ¬ s = ⟨#[]⟩) : decide (s.toList = []) = false := by
  have := str_ne h
  cases hl : s.toList with
  | nil => rw [hl] at this; cases this
  | cons x l => rfl

set_option maxRecDepth 100000 in
set_option maxHeartbeats 8000000 in
theorem look_any (t : T) : ∀ (p q : Nat) (w : World) (lo hi : Nat), t.In w lo hi → hi ≤ w.heap.size → p ≤ 512 → q ≤ 16 →
    Calls Try.prog 122 #[t.val, .int .i64 p, .int .i64 q] w fun e w' => e = .returned (.int .i64 (lookOf t.v p q)) ∧ Fr No w w' := by
  induction t using T.ind with
  | h k n s A cap l r ih =>
    intro p q w lo hi ht hh hp hq
    rw [T.val_mk]
    have fit := (T.in_mk.1 ht).1
    have hlen := fit.len1
    have hss := fit.s1
    have hk0 := fit.k0
    have fr1 := (Fr.refl No w).alloc (.cells #[.int .u8 k, .int .i64 n, .string s, .slice A l.length cap, .int .i64 r] 27)
    have hK := Blk.new' w 27 #[.int .u8 k, .int .i64 n, .string s, .slice A l.length cap, .int .i64 r] rfl
    rw [T.v_mk]
    have hll : (l.map T.v).length = l.length := by simp
    by_cases hp1 : (p : Int) < 1
    · have e : lookOf (.mk k n s (l.map T.v) r) p q = -1 := look_no (by obtain rfl : p = 0 := by omega
                                                                        exact fits_zero _ _)
      rw [e]
      clear ih hll
      go_enter Try.func122, Try.ntmps122
      go_wp2
      go_ret
      exact ⟨rfl, fr1⟩
    have hpp : 1 ≤ p := by omega
    have HLL := hide hll
    clear hll
    have tl := toL0
    by_cases hk4 : 4 < k
    · rw [look_off (n := n) (s := s) (l := l.map T.v) (r := r) (p := p) (q := q) hk4]
      have a1 : (k != 1) = true := by simp; omega
      have a2 : (k != 2) = true := by simp; omega
      have a3 : (k != 3) = true := by simp; omega
      have a4 : (k != 4) = true := by simp; omega
      clear ih tl
      by_cases hc : n = 0
      case neg =>
        have z : (n != 0) = true := by simpa using hc
        go_enter Try.func122, Try.ntmps122
        go_wp2
        go_ret
        exact ⟨rfl, fr1⟩
      subst hc
      by_cases hc : s = ⟨#[]⟩
      case neg =>
        have z := str_ne hc
        have z2 := str_ne2 hc
        go_enter Try.func122, Try.ntmps122
        go_wp2
        go_ret
        exact ⟨rfl, fr1⟩
      subst hc; have tl := toL0
      by_cases hc : l.length = 0
      case neg =>
        have z : (0 : Int) < (l.length : Int) := by omega
        go_enter Try.func122, Try.ntmps122
        go_wp2
        go_ret
        exact ⟨rfl, fr1⟩
      obtain rfl : l = [] := List.eq_nil_of_length_eq_zero hc; clear hc
      by_cases hc : r = 0
      case neg =>
        have z : (r != 0) = true := by simpa using hc
        go_enter Try.func122, Try.ntmps122
        go_wp2
        go_ret
        exact ⟨rfl, fr1⟩
      subst hc
      go_enter Try.func122, Try.ntmps122
      go_wp2
      go_ret
      exact ⟨rfl, fr1⟩
    have hkk : k = 0 ∨ k = 1 ∨ k = 2 ∨ k = 3 ∨ k = 4 := by omega
    clear hk4 hk0
    rcases hkk with rfl | rfl | rfl | rfl | rfl
    · -- kind 0
      by_cases hc : n = 0
      case neg =>
        have hf : fok 0 n s (l.map T.v).length r = false := by
          simp [fok, hc]
        have z : (n != 0) = true := by simpa using hc
        rw [look_bad (k := 0) (by decide) hpp (p := p) (q := q) hf]
        clear ih hf
        go_enter Try.func122, Try.ntmps122
        go_wp2
        go_ret
        exact ⟨rfl, fr1⟩
      subst hc
      by_cases hc : s = ⟨#[]⟩
      case neg =>
        have hf : fok 0 0 s (l.map T.v).length r = false := by
          simp [fok, str_ne2 hc]; try exact fun h => absurd (toList_nil h) hc
        have z := str_ne hc
        have z2 := str_ne2 hc
        rw [look_bad (k := 0) (by decide) hpp (p := p) (q := q) hf]
        clear ih hf
        go_enter Try.func122, Try.ntmps122
        go_wp2
        go_ret
        exact ⟨rfl, fr1⟩
      subst hc
      by_cases hc : l.length = 0
      case neg =>
        have hf : fok 0 0 ⟨#[]⟩ (l.map T.v).length r = false := by
          rw [HLL.out]; simp [fok, hc]
        have z : (0 : Int) < (l.length : Int) := by omega
        rw [look_bad (k := 0) (by decide) hpp (p := p) (q := q) hf]
        clear ih hf
        go_enter Try.func122, Try.ntmps122
        go_wp2
        go_ret
        exact ⟨rfl, fr1⟩
      obtain rfl : l = [] := List.eq_nil_of_length_eq_zero hc; clear hc
      by_cases hc : r = 0
      case neg =>
        have hf : fok 0 0 ⟨#[]⟩ 0 r = false := by
          simp [fok, hc]
        have z : (r != 0) = true := by simpa using hc
        rw [look_bad (k := 0) (by decide) hpp (p := p) (q := q) hf]
        clear ih hf
        go_enter Try.func122, Try.ntmps122
        go_wp2
        go_ret
        exact ⟨rfl, fr1⟩
      subst hc
      rw [show ([] : List T).map T.v = [] from rfl]
      rw [(look_leaf (k := 0) (n := 0) (s := ⟨#[]⟩) (l := []) (r := 0) (p := p) (q := q) (by decide) hpp (by simp [fok, toL0]; try omega))]
      clear ih
      go_enter Try.func122, Try.ntmps122
      go_wp2
      go_ret
      exact ⟨rfl, fr1⟩
    · -- kind 1
      by_cases hc : s = ⟨#[]⟩
      case neg =>
        have hf : fok 1 n s (l.map T.v).length r = false := by
          simp [fok, str_ne2 hc]; try exact fun h => absurd (toList_nil h) hc
        have z := str_ne hc
        have z2 := str_ne2 hc
        rw [look_bad (k := 1) (by decide) hpp (p := p) (q := q) hf]
        clear ih hf
        go_enter Try.func122, Try.ntmps122
        go_wp2
        go_ret
        exact ⟨rfl, fr1⟩
      subst hc
      by_cases hc : l.length = 0
      case neg =>
        have hf : fok 1 n ⟨#[]⟩ (l.map T.v).length r = false := by
          rw [HLL.out]; simp [fok, hc]
        have z : (0 : Int) < (l.length : Int) := by omega
        rw [look_bad (k := 1) (by decide) hpp (p := p) (q := q) hf]
        clear ih hf
        go_enter Try.func122, Try.ntmps122
        go_wp2
        go_ret
        exact ⟨rfl, fr1⟩
      obtain rfl : l = [] := List.eq_nil_of_length_eq_zero hc; clear hc
      by_cases hc : r = 0
      case neg =>
        have hf : fok 1 n ⟨#[]⟩ 0 r = false := by
          simp [fok, hc]
        have z : (r != 0) = true := by simpa using hc
        rw [look_bad (k := 1) (by decide) hpp (p := p) (q := q) hf]
        clear ih hf
        go_enter Try.func122, Try.ntmps122
        go_wp2
        go_ret
        exact ⟨rfl, fr1⟩
      subst hc
      rw [show ([] : List T).map T.v = [] from rfl]
      rw [(look_leaf (k := 1) (n := n) (s := ⟨#[]⟩) (l := []) (r := 0) (p := p) (q := q) (by decide) hpp (by simp [fok, toL0]; try omega))]
      clear ih
      go_enter Try.func122, Try.ntmps122
      go_wp2
      go_ret
      exact ⟨rfl, fr1⟩
    · -- kind 2
      by_cases hc : n = 0
      case neg =>
        have hf : fok 2 n s (l.map T.v).length r = false := by
          simp [fok, hc]
        have z : (n != 0) = true := by simpa using hc
        rw [look_bad (k := 2) (by decide) hpp (p := p) (q := q) hf]
        clear ih hf
        go_enter Try.func122, Try.ntmps122
        go_wp2
        go_ret
        exact ⟨rfl, fr1⟩
      subst hc
      by_cases hc : l.length = 0
      case neg =>
        have hf : fok 2 0 s (l.map T.v).length r = false := by
          rw [HLL.out]; simp [fok, hc]
        have z : (0 : Int) < (l.length : Int) := by omega
        rw [look_bad (k := 2) (by decide) hpp (p := p) (q := q) hf]
        clear ih hf
        go_enter Try.func122, Try.ntmps122
        go_wp2
        go_ret
        exact ⟨rfl, fr1⟩
      obtain rfl : l = [] := List.eq_nil_of_length_eq_zero hc; clear hc
      by_cases hc : r = 0
      case neg =>
        have hf : fok 2 0 s 0 r = false := by
          simp [fok, hc]
        have z : (r != 0) = true := by simpa using hc
        rw [look_bad (k := 2) (by decide) hpp (p := p) (q := q) hf]
        clear ih hf
        go_enter Try.func122, Try.ntmps122
        go_wp2
        go_ret
        exact ⟨rfl, fr1⟩
      subst hc
      by_cases hc : s.size ≤ 256
      case neg =>
        have hf : fok 2 0 s 0 0 = false := by
          simp [fok]; omega
        have z : (256 : Int) < (s.size : Int) := by omega
        rw [look_bad (k := 2) (by decide) hpp (p := p) (q := q) hf]
        clear ih hf
        go_enter Try.func122, Try.ntmps122
        go_wp2
        go_ret
        exact ⟨rfl, fr1⟩
      have z : ¬ (256 : Int) < (s.size : Int) := by omega
      rw [show ([] : List T).map T.v = [] from rfl]
      rw [(look_leaf (k := 2) (n := 0) (s := s) (l := []) (r := 0) (p := p) (q := q) (by decide) hpp (by simp [fok, toL0]; try omega))]
      clear ih
      go_enter Try.func122, Try.ntmps122
      go_wp2
      go_ret
      exact ⟨rfl, fr1⟩
    · -- kind 3
      by_cases hc : n = 0
      case neg =>
        have hf : fok 3 n s (l.map T.v).length r = false := by
          simp [fok, hc]
        have z : (n != 0) = true := by simpa using hc
        rw [look_bad3 (p := p) (q := q) hf]
        clear ih hf
        go_enter Try.func122, Try.ntmps122
        go_wp2
        go_ret
        exact ⟨rfl, fr1⟩
      subst hc
      by_cases hc : s = ⟨#[]⟩
      case neg =>
        have hf : fok 3 0 s (l.map T.v).length r = false := by
          simp [fok, str_ne2 hc]; try exact fun h => absurd (toList_nil h) hc
        have z := str_ne hc
        have z2 := str_ne2 hc
        rw [look_bad3 (p := p) (q := q) hf]
        clear ih hf
        go_enter Try.func122, Try.ntmps122
        go_wp2
        go_ret
        exact ⟨rfl, fr1⟩
      subst hc
      by_cases hc : r = 0
      case neg =>
        have hf : fok 3 0 ⟨#[]⟩ (l.map T.v).length r = false := by
          simp [fok, hc]
        have z : (r != 0) = true := by simpa using hc
        rw [look_bad3 (p := p) (q := q) hf]
        clear ih hf
        go_enter Try.func122, Try.ntmps122
        go_wp2
        go_ret
        exact ⟨rfl, fr1⟩
      subst hc
      by_cases hq1 : (q : Int) < 1
      · rw [look_no (fits_short (n := 0) (s := ⟨#[]⟩) (l := l.map T.v) (r := 0) (p := p) (q := q) (.inr (by omega)))]
        clear ih
        go_enter Try.func122, Try.ntmps122
        go_wp2
        go_ret
        exact ⟨rfl, fr1⟩
      have hq2 : decide ((q : Int) < 1) = false := by simpa using hq1
      have hq3 : 1 ≤ q := by omega
      by_cases hlp : (p : Int) ≤ (l.length : Int)
      · have hlp' : decide (p ≤ l.length) = true := by simp; omega
        rw [look_no (fits_short (n := 0) (s := ⟨#[]⟩) (l := l.map T.v) (r := 0) (p := p) (q := q) (.inl (by rw [HLL.out]; omega)))]
        clear ih
        go_enter Try.func122, Try.ntmps122
        go_wp2
        go_ret
        exact ⟨rfl, fr1⟩
      have hlp' : decide (p ≤ l.length) = false := by simp; omega
      obtain ⟨c0, c1, c2, c3, c4, cf⟩ := hK.cells5
      have q0 := hK.lt
      go_enter Try.func122, Try.ntmps122
      go_wp2_with fail
      go_loopw [7, 8, 9] (fun v i _ wr => ∃ j m : Nat, j ≤ l.length ∧ i = .int .i64 (j : Int) ∧ v = .int .i64 (m : Int) ∧ m = 1 + sizeTo (l.map T.v) j ∧ m ≤ p ∧ fitsTo (l.map T.v) (q - 1) j ∧ Fr No (w.alloc (.cells #[.int .u8 3, .int .i64 0, .string ⟨#[]⟩, .slice A l.length cap, .int .i64 0] 27)) wr) (fun _ i _ _ => l.length - (intOf i).toNat)
      case atStart => exact ⟨0, 1, Nat.zero_le _, rfl, rfl, by simp [sizeTo_zero], by omega, fitsTo_zero _ _, Fr.refl _ _⟩
      case round =>
        obtain ⟨j, m, hj, rfl, rfl, hm, hmr, hall, fr⟩ := hrel
        obtain ⟨d0, d1, d2, d3, d4, df⟩ := (hK.fr fr fun h => h).cells5
        have frw := fr1.trans fr
        have HM := hide hm
        have HA := hide hall
        clear hm hall c0 c1 c2 c3 c4 cf
        by_cases hlt : j < l.length
        · obtain ⟨b, o, k1, n1, s1, A1, cap1, l1, r1, rfl, hb0, hb1', hx, hin, e0, e1, e2, e3, e4⟩ := T.elem (ht.no frw hh) hlt
          have hc := ih l[j] (List.getElem_mem hlt) (p - m) (q - 1) wr lo hi (by rw [hx]; exact hin) (by have := frw.size; omega) (by omega) (by omega)
          have hj' : j < (l.map T.v).length := by simpa using hlt
          have hxv : (l.map T.v)[j] = (T.mk k1 n1 s1 A1 cap1 l1 r1).v := by rw [List.getElem_map, hx]
          have hto := sizeTo_succ (l.map T.v) j hj'
          have hst := fun h => fits_stop (n := 0) (s := ⟨#[]⟩) (r := 0) (p := p) (q := q) hj' hq3 h
          have hfs := fun h1 h2 => fitsTo_succ HA.out hj' h1 h2
          rw [hxv] at hto hst hfs
          rw [hx, T.val_mk] at hc
          generalize (T.mk k1 n1 s1 A1 cap1 l1 r1).v = u at *
          have g0 : b < wr.heap.size := by have := frw.size; omega
          have HF := hide fr
          have HW := hide frw
          have hup := u.size_pos
          have x1 : ((p - m : Nat) : Int) = (p : Int) - (m : Int) := by omega
          have x2 : ((q - 1 : Nat) : Int) = (q : Int) - 1 := by omega
          rw [x1, x2] at hc
          clear x1 x2
          cases hfit : u.fits (p - m) (q - 1) with
          | true =>
            have h1 : u.ok = true ∧ u.size ≤ p - m ∧ u.dep ≤ q - 1 := by
              simp [V.fits] at hfit; exact ⟨hfit.1.1, hfit.1.2, hfit.2⟩
            have e : lookOf u (p - m) (q - 1) = (u.size : Int) := by simp [lookOf, hfit]
            rw [e] at hc
            have HC := hide hc
            have HT := hide hto
            have HFS := hide (hfs h1.1 h1.2.2)
            have hf1 := h1.2.1
            have hnn : ¬ ((u.size : Int) < 0) := by omega
            clear hst hto hxv hx ih fr frw fr1 hc hin hfs hfit e h1
            generalize hqq : u.size = z at *
            have HQ := hide hqq
            clear hqq
            go_wp2_with fail
            refine HC.out.mono ?_
            rintro e w2 ⟨rfl, fr2⟩
            have HF2 := hide fr2
            clear fr2
            go_wp2
            go_roundw
            case rel =>
              exact ⟨j + 1, m + z, hlt, by go_num, by go_num, by rw [HT.out, HM.out]; omega, by omega, HFS.out, HF.out.trans HF2.out⟩
            case measure => simp [intOf]; omega
          | false =>
            rw [look_no hfit] at hc
            have hno : lookOf (.mk 3 0 ⟨#[]⟩ (l.map T.v) 0) p q = -1 := look_no (hst (by rw [show p - 1 - sizeTo (l.map T.v) j = p - m from by rw [HM.out]; omega]; exact hfit))
            have HC := hide hc
            have HNO := hide hno
            clear hst hto hxv hx ih fr frw fr1 hc hin hfit hno hfs
            go_wp2_with fail
            refine HC.out.mono ?_
            rintro e w2 ⟨rfl, fr2⟩
            have HF2 := hide (HW.out.trans fr2)
            clear fr2
            go_wp2
            go_ret
            exact ⟨by rw [HNO.out]; rfl, HF2.out⟩
        · obtain rfl : l.length = j := by omega
          have hdone : lookOf (.mk 3 0 ⟨#[]⟩ (l.map T.v) 0) p q = (m : Int) := by
            obtain ⟨a, b⟩ := fits_done (n := 0) (s := ⟨#[]⟩) (l := l.map T.v) (r := 0) (p := p) (q := q) (by rw [HLL.out]; have := HM.out; omega) hpp hq3 (by rw [HLL.out]; exact HA.out)
            have c : fok 3 0 ⟨#[]⟩ (l.map T.v).length 0 = true := by simp [fok, toL0]
            rw [lookOf, a, if_pos c, b, HLL.out, ← HM.out]
          have HD := hide hdone
          have HW := hide frw
          clear hdone ih fr frw fr1
          go_wp2
          go_ret
          exact ⟨by rw [HD.out]; rfl, HW.out⟩
    · -- kind 4
      by_cases hc : n = 0
      case neg =>
        have hf : fok 4 n s (l.map T.v).length r = false := by
          simp [fok, hc]
        have z : (n != 0) = true := by simpa using hc
        rw [look_bad (k := 4) (by decide) hpp (p := p) (q := q) hf]
        clear ih hf
        go_enter Try.func122, Try.ntmps122
        go_wp2
        go_ret
        exact ⟨rfl, fr1⟩
      subst hc
      by_cases hc : s = ⟨#[]⟩
      case neg =>
        have hf : fok 4 0 s (l.map T.v).length r = false := by
          simp [fok, str_ne2 hc]; try exact fun h => absurd (toList_nil h) hc
        have z := str_ne hc
        have z2 := str_ne2 hc
        rw [look_bad (k := 4) (by decide) hpp (p := p) (q := q) hf]
        clear ih hf
        go_enter Try.func122, Try.ntmps122
        go_wp2
        go_ret
        exact ⟨rfl, fr1⟩
      subst hc
      by_cases hc : l.length = 0
      case neg =>
        have hf : fok 4 0 ⟨#[]⟩ (l.map T.v).length r = false := by
          rw [HLL.out]; simp [fok, hc]
        have z : (0 : Int) < (l.length : Int) := by omega
        rw [look_bad (k := 4) (by decide) hpp (p := p) (q := q) hf]
        clear ih hf
        go_enter Try.func122, Try.ntmps122
        go_wp2
        go_ret
        exact ⟨rfl, fr1⟩
      obtain rfl : l = [] := List.eq_nil_of_length_eq_zero hc; clear hc
      by_cases hc : 1 ≤ r
      case neg =>
        have hf : fok 4 0 ⟨#[]⟩ 0 r = false := by
          simp [fok]; omega
        have z : r < 1 := by omega
        rw [look_bad (k := 4) (by decide) hpp (p := p) (q := q) hf]
        clear ih hf
        go_enter Try.func122, Try.ntmps122
        go_wp2
        go_ret
        exact ⟨rfl, fr1⟩
      have z : ¬ r < 1 := by omega
      rw [show ([] : List T).map T.v = [] from rfl]
      rw [(look_leaf (k := 4) (n := 0) (s := ⟨#[]⟩) (l := []) (r := r) (p := p) (q := q) (by decide) hpp (by simp [fok, toL0]; try omega))]
      clear ih
      go_enter Try.func122, Try.ntmps122
      go_wp2
      go_ret
      exact ⟨rfl, fr1⟩

/-- The document's Parts. -/
theorem refParts_any (t : T) (w : World) (lo hi : Nat) (ht : t.In w lo hi) (hh : hi ≤ w.heap.size) :
    Calls Try.prog 60 #[t.val] w fun e w' => e = .returned (.int .i64 (t.v.meas : Int)) ∧ Fr No w w' := by
  have IH := fun w' h h' => look_any t 512 16 w' lo hi h h' (by decide) (by decide)
  cases t with
  | mk k n s A cap l r =>
    rw [T.val_mk] at *
    have hpos := (T.mk k n s A cap l r).v.size_pos
    generalize (T.mk k n s A cap l r).v = u at *
    have hin := ht.no ((Fr.refl No w).alloc (.cells #[.int .u8 k, .int .i64 n, .string s, .slice A l.length cap, .int .i64 r] 27)) hh
    cases hm : u.fits 512 16 with
    | true =>
      have e : u.meas = u.size := by simp [V.meas, V.may, hm]
      have e2 : lookOf u 512 16 = (u.size : Int) := by simp [lookOf, hm]
      have hle : u.size ≤ 512 := by simp [V.fits] at hm; omega
      rw [e]
      rw [e2] at IH
      clear hm e e2
      go_enter Try.func60, Try.ntmps60
      go_wp2_with fail
      refine (IH _ hin (by simp; omega)).mono ?_
      rintro e w2 ⟨rfl, fr2⟩
      go_wp2
      go_ret
      exact ⟨rfl, ((Fr.refl No w).alloc _).trans fr2⟩
    | false =>
      have e : u.meas = 0 := by simp [V.meas, V.may, hm]
      have e2 : lookOf u 512 16 = -1 := look_no hm
      rw [e]
      rw [e2] at IH
      clear hm e e2
      go_enter Try.func60, Try.ntmps60
      go_wp2_with fail
      refine (IH _ hin (by simp; omega)).mono ?_
      rintro e w2 ⟨rfl, fr2⟩
      go_wp2
      go_ret
      exact ⟨rfl, ((Fr.refl No w).alloc _).trans fr2⟩

/-- The document's May. -/
theorem refMay_any (t : T) (w : World) (lo hi : Nat) (ht : t.In w lo hi) (hh : hi ≤ w.heap.size) :
    Calls Try.prog 109 #[t.val] w fun e w' => e = .returned (.bool t.v.may) ∧ Fr No w w' := by
  have IH := fun w' h h' => refParts_any t w' lo hi h h'
  cases hm : t.v.may
  · have HM : t.v.meas = 0 := by simp [V.meas, hm]
    rw [HM] at IH
    cases t with
    | mk k n s A cap l r =>
      rw [T.val_mk] at *
      go_enter Try.func109, Try.ntmps109
      go_wp2_with fail
      refine (IH _ (ht.no ((Fr.refl No w).alloc _) hh) (by simp; omega)).mono ?_
      rintro e w2 ⟨rfl, fr2⟩
      go_wp2
      go_ret
      exact ⟨rfl, ((Fr.refl No w).alloc _).trans fr2⟩
  · have HM : 0 < t.v.meas := by simp [V.meas, hm]; exact t.v.size_pos
    cases t with
    | mk k n s A cap l r =>
      rw [T.val_mk] at *
      generalize (T.mk k n s A cap l r).v.meas = z at *
      go_enter Try.func109, Try.ntmps109
      go_wp2_with fail
      refine (IH _ (ht.no ((Fr.refl No w).alloc _) hh) (by simp; omega)).mono ?_
      rintro e w2 ⟨rfl, fr2⟩
      go_wp2
      go_ret
      exact ⟨by simp, ((Fr.refl No w).alloc _).trans fr2⟩

end Go.Proofs.Ytihjmipmjogpoaa

/- Texts joined: W4, Z5, P4, P12, J1, J11. -/
import Derived.Test.YtihjmipmjogpoaaJn7
import Derived.Maps.OwnSet
import Derived.Laws.OwnMore
/- Chapter 2: value.Bytes. -/
namespace Go.Proofs.Ytihjmipmjogpoaa
open Go.RowKit

theorem enc_length (v : V) : v.ok = true → v.enc.length ≤ 259 * v.size := by
  induction v using V.ind with
  | h k n s l r ih =>
    intro hok
    rw [V.ok_mk, Bool.and_eq_true] at hok
    obtain ⟨hf, hall⟩ := hok
    rw [V.enc_mk, V.size_mk, List.length_cons]
    have hsum : ((l.map V.enc).flatten).length ≤ 259 * (l.map V.size).sum := by
      clear hf
      induction l with
      | nil => simp
      | cons x l ih2 =>
        simp only [List.all_cons, Bool.and_eq_true] at hall
        have h1 := ih x (by simp) hall.1
        have h2 := ih2 (fun y hy => ih y (by simp [hy])) hall.2
        simp only [List.map_cons, List.flatten_cons, List.length_append, List.sum_cons]
        omega
    by_cases h1 : k = 1
    · rw [if_pos h1, hiB_length]; omega
    rw [if_neg h1]
    by_cases h2 : k = 2
    · rw [if_pos h2, List.length_append, hiB_length, strB_length]
      subst h2
      simp [fok] at hf
      omega
    rw [if_neg h2]
    by_cases h3 : k = 3
    · rw [if_pos h3, List.length_append, hiB_length]; omega
    rw [if_neg h3]
    by_cases h4 : k = 4
    · rw [if_pos h4, hiB_length]; omega
    · rw [if_neg h4]; simp; omega

theorem enc_pos (v : V) : 0 < v.enc.length := by
  cases v; rw [V.enc_mk]; simp

theorem conv_owned {w : World} {base : Nat} {A : Option Addr} {cap : Nat} {L : List Nat} (h : w.ownsRow base 5 1 (.slice A L.length cap) L.length (byteCells L)) (hne : 0 < L.length) :
    (convert 151 9 (.slice A L.length cap)).run Try.prog w = .ok (.string (strOfNums (L.map fun (x : Nat) => (x : Int)))) w := by
  obtain ⟨g, rfl, hg, hc⟩ := owns_cells (f := fun (x : Nat) => Value.int .u8 (x : Int)) h hne
  refine run_convert_bytes_arg w 151 5 Try.underlying151 Try.underlying5 g 0 L.length cap (L.map fun (x : Nat) => (x : Int)) (by simp) (fun i hi => ?_) 9 Try.underlying9
  rw [Nat.zero_add, hc i L[i] (List.getElem?_eq_getElem hi)]
  simp [List.getD, List.getElem?_eq_getElem hi]

set_option maxRecDepth 100000 in
set_option maxHeartbeats 4000000 in
theorem Bytes_any (t : T) (w : World) (lo hi : Nat) (ht : t.In w lo hi) (hh : hi ≤ w.heap.size) : Calls Try.prog 46 #[t.val] w (BytesP t.v w) := by
  have hM := fun w' h h' => may_any t w' lo hi h h'
  have hR := fun w' h h' => Refs_any t w' lo hi h h'
  have hWr := write_any t
  cases t with
  | mk k n s A cap l r =>
    rw [T.val_mk] at *
    generalize hu : (T.mk k n s A cap l r).v = u at *
    have fr1 := (Fr.refl No w).alloc (.cells #[.int .u8 k, .int .i64 n, .string s, .slice A l.length cap, .int .i64 r] 27)
    have hK := Blk.new' w 27 #[.int .u8 k, .int .i64 n, .string s, .slice A l.length cap, .int .i64 r] rfl
    have ht1 := ht.no fr1 hh
    have hs1 := Nat.le_trans hh fr1.size
    have HU := hide hu
    clear hu ht
    cases hm : u.may with
    | false =>
      have hP : ∀ w', Fr No w w' → BytesP u w (.returned (.tuple #[.string ⟨#[]⟩, .int .i64 2])) w' := fun w' f => ⟨f, (fun h => absurd h.1 (by rw [hm]; simp)), fun _ => rfl⟩
      have HP := hide hP
      rw [hm] at hM
      clear hm hP hWr hR
      go_enter Try.func46, Try.ntmps46
      go_wp2_with fail
      refine (hM _ ht1 hs1).mono ?_
      rintro e w2 ⟨rfl, fr2⟩
      go_wp2
      go_ret2
      exact HP.out _ (fr1.trans fr2)
    | true =>
      have hok := may_ok hm
      have hsz : u.size ≤ 512 := by simp [V.may, V.fits] at hm; omega
      have hrl : u.refs.length ≤ 1000000 := by
        have h1 := refsOf_length (u.walk [])
        rw [walk_length] at h1
        have : u.refs = refsOf (u.walk []) := by simp [V.refs, hm]
        rw [this]; omega
      have hel := enc_length u hok
      have HMM := hide hm
      rw [hm] at hM
      clear hm
      go_enter Try.func46, Try.ntmps46
      go_wp2_with fail
      generalize World.alloc w _ = W0 at *
      refine (hM _ ht1 hs1).mono ?_
      rintro e w2 ⟨rfl, fr2⟩
      have hK2 := hK.fr fr2 fun h => h
      obtain ⟨c0, c1, c2, c3, c4, cf⟩ := hK2.cells5
      have ht2 := ht1.no fr2 hs1
      have hs2 := Nat.le_trans hs1 fr2.size
      have HF2 := hide (fr1.trans fr2)
      clear fr1 fr2 hK hM
      go_wp2_with fail
      refine (hR _ ht2 hs2).mono ?_
      rintro e w3 ⟨vr, rfl, hor, fr3⟩
      obtain ⟨Ar, cr, rfl⟩ := owns_form hor
      have hC := contains_any Ar cr u.refs w2.heap.size w3 hrl hor
      have hK3 := hK2.fr fr3 fun h => h
      have ht3 := ht2.no fr3 hs2
      have hs3 := Nat.le_trans hs2 fr3.size
      have HF3 := hide (HF2.out.trans fr3)
      clear c0 c1 c2 c3 c4 cf hor fr3 hK2 hR
      go_wp2_with fail
      refine hC.mono ?_
      rintro e w4 ⟨⟨q, rfl, hq⟩, fr4⟩
      have hK4 := hK3.fr fr4 fun h => h
      obtain ⟨c0, c1, c2, c3, c4, cf⟩ := hK4.cells5
      have ht4 := ht3.no fr4 hs3
      have hs4 := Nat.le_trans hs3 fr4.size
      have HF4 := hide (HF3.out.trans fr4)
      have HQ := hide hq
      clear fr4 hq hK3 hC
      cases q with
      | true =>
        have hP : ∀ w', Fr No w w' → BytesP u w (.returned (.tuple #[.string ⟨#[]⟩, .int .i64 2])) w' := fun w' f => ⟨f, (fun h => by
          obtain ⟨r, hr, hb⟩ := HQ.out.1 rfl
          have := h.2 r hr
          omega), fun _ => rfl⟩
        have HP := hide hP
        clear hP
        go_wp2
        go_ret2
        exact HP.out _ HF4.out
      | false =>
        have hhas : u.hasBytes := ⟨HMM.out, fun r hr => by
          rcases Int.lt_or_le 4294967295 r with h | h
          · exact absurd (HQ.out.2 ⟨r, hr, h⟩) (by simp)
          · exact h⟩
        have hw := hWr (.slice none 0 0) [] w4.heap.size w4 lo hi ht4 hs4 (Nat.le_refl _) hok (World.ownsRow_nil _ _ _ _) (by simp; omega)
        have HW := hide hw
        have HH := hide hhas
        clear hw hhas hWr
        go_wp2_with fail
        refine HW.out.mono ?_
        rintro e w5 ⟨v5, rfl, ho5, f5⟩
        rw [List.nil_append] at ho5
        obtain ⟨A5, c5, rfl⟩ := owns_form ho5
        have hcv := conv_owned ho5 (enc_pos u)
        have f6 : Fr No w w5 := HF4.out.trans' f5 fun i hi h => by have := HF4.out.size; have := h.1; omega
        have HF6 := hide f6
        clear ho5 f5 f6 c0 c1 c2 c3 c4 cf hK4
        go_wp2
        go_ret2
        exact ⟨HF6.out, fun _ => rfl, fun h => absurd HH.out h⟩

end Go.Proofs.Ytihjmipmjogpoaa

/- Chapter 2: awake: its calls, each at its closed data. -/
namespace Go.Proofs.Ytihjmipmjogpoaa
open Go.RowKit

/-- A value without a list, in memory. -/
def lf (k n : Int) (s : ByteArray) (r : Int) : T := .mk k n s none 0 [] r

theorem lf_v (k n : Int) (s : ByteArray) (r : Int) : (lf k n s r).v = .mk k n s [] r := by rw [lf, T.v_mk]; rfl
theorem lf_val (k n : Int) (s : ByteArray) (r : Int) : (lf k n s r).val = .agg #[.int .u8 k, .int .i64 n, .string s, .slice none 0 0, .int .i64 r] := rfl
theorem lf_in {k n r : Int} (w : World) (lo hi : Nat) (h0 : 0 ≤ k) (h1 : k < 256) (h2 : -100 ≤ n) (h3 : n ≤ 100) (h4 : -100 ≤ r) (h5 : r ≤ 100) : (lf k n ⟨#[]⟩ r).In w lo hi := by
  rw [lf, T.in_mk]; exact ⟨⟨h0, h1, by omega, by omega, by decide, by decide, Nat.le_refl _, by omega, by omega⟩, fun h => absurd rfl h, by simp⟩

def awC1 : Array Value := #[.int .u8 4, .int .i64 0, .string ⟨#[]⟩, .slice none 0 0, .int .i64 7]
def awC2 (g : Nat) : Array Value := #[.int .u8 1, .int .i64 1, .string ⟨#[]⟩, .slice none 0 0, .int .i64 0, .int .u8 3, .int .i64 0, .string ⟨#[]⟩, .slice (some ⟨g, 0, none⟩) 1 1, .int .i64 0]

/-- The value that awake builds, as it lies in memory. -/
def awT (g1 g2 : Nat) : T := .mk 3 0 ⟨#[]⟩ (some ⟨g2, 0, none⟩) 2 [lf 1 1 ⟨#[]⟩ 0, .mk 3 0 ⟨#[]⟩ (some ⟨g1, 0, none⟩) 1 [lf 4 0 ⟨#[]⟩ 7] 0] 0

theorem awT_v (g1 g2 : Nat) : (awT g1 g2).v = awV := by
  rw [awT, T.v_mk]; simp [lf_v, T.v_mk, awV]
theorem awT_val (g1 g2 : Nat) : (awT g1 g2).val = .agg #[.int .u8 3, .int .i64 0, .string ⟨#[]⟩, .slice (some ⟨g2, 0, none⟩) 2 2, .int .i64 0] := rfl

theorem fit3 (n : Nat) (h : n ≤ 100) : Fit 3 0 ⟨#[]⟩ n n 0 := ⟨by decide, by decide, by decide, by decide, by decide, by omega, Nat.le_refl _, by decide, by decide⟩

theorem five_cells (x : T) (c : Nat) (u : Value) (h : x.cells[c]? = some u) : c < 5 := by
  rcases Nat.lt_or_ge c 5 with hlt | hge
  · exact hlt
  · rw [List.getElem?_eq_none (by rw [T.cells_length]; exact hge)] at h; cases h

theorem awT_in {w : World} {g1 g2 lo hi : Nat} (h1 : Blk w g1 27 awC1) (h2 : Blk w g2 27 (awC2 g1)) (a : lo ≤ g1) (b : g1 < hi) (c : lo ≤ g2) (d : g2 < hi) : (awT g1 g2).In w lo hi := by
  rw [awT, T.in_mk]
  refine ⟨fit3 2 (by decide), fun _ => ⟨g2, 0, rfl, c, d, fun i x hx j u hu => ?_⟩, ?_⟩
  · have hj := five_cells x j u hu
    rw [h2.cell]
    match i, hx with
    | 0, hx =>
      simp at hx; subst hx
      match j, hu with
      | 0, hu => exact hu
      | 1, hu => exact hu
      | 2, hu => exact hu
      | 3, hu => exact hu
      | 4, hu => exact hu
      | c + 5, hu => omega
    | 1, hx =>
      simp at hx; subst hx
      match j, hu with
      | 0, hu => exact hu
      | 1, hu => exact hu
      | 2, hu => exact hu
      | 3, hu => exact hu
      | 4, hu => exact hu
      | c + 5, hu => omega
    | i + 2, hx => simp at hx
  · intro x hx
    simp at hx
    rcases hx with rfl | rfl
    · exact lf_in _ _ _ (by decide) (by decide) (by decide) (by decide) (by decide) (by decide)
    · rw [T.in_mk]
      refine ⟨fit3 1 (by decide), fun _ => ⟨g1, 0, rfl, a, b, fun i x hx j u hu => ?_⟩, ?_⟩
      · have hj := five_cells x j u hu
        rw [h1.cell]
        match i, hx with
        | 0, hx =>
          simp at hx; subst hx
          match j, hu with
          | 0, hu => exact hu
          | 1, hu => exact hu
          | 2, hu => exact hu
          | 3, hu => exact hu
          | 4, hu => exact hu
          | c + 5, hu => omega
        | i + 1, hx => simp at hx
      · intro x hx
        simp at hx
        subst hx
        exact lf_in _ _ _ (by decide) (by decide) (by decide) (by decide) (by decide) (by decide)

theorem toL0 : (⟨#[]⟩ : ByteArray).toList = [] := by rw [ByteArray.toList_eq]

theorem aw_may : awV.may = true := by simp [awV, V.may, V.fits, V.ok_mk, V.size_mk, V.dep_mk, fok, toL0, top]
theorem aw_size : awV.size = 4 := by simp [awV, V.size_mk]
theorem aw_dep : awV.dep = 2 := by simp [awV, V.dep_mk, top]
theorem aw_low : awV.low = true := by simp [awV, V.low_mk]
theorem aw_has : awV.hasBytes := (hasBytes_iff _).2 ⟨aw_may, aw_low⟩
theorem aw_encS : awV.encS = awS := by rw [encS_eq, aw_enc]; rfl
theorem aw_at : atOf awV [1, 0] = (.mk 4 0 ⟨#[]⟩ [] 7, 0) := by
  unfold atOf; rw [if_pos aw_may]; rfl

section
variable {w : World} {g1 g2 : Nat} (h1 : Blk w g1 27 awC1) (h2 : Blk w g2 27 (awC2 g1))
include h1 h2
theorem aw_in : (awT g1 g2).In w 0 w.heap.size := awT_in h1 h2 (Nat.zero_le _) h1.lt (Nat.zero_le _) h2.lt

theorem aw_bytes : Calls Try.prog 46 #[.agg #[.int .u8 3, .int .i64 0, .string ⟨#[]⟩, .slice (some ⟨g2, 0, none⟩) 2 2, .int .i64 0]] w fun e w' => e = .returned (.tuple #[.string awS, .int .i64 0]) ∧ Fr No w w' := by
  have h := Bytes_any (awT g1 g2) w 0 w.heap.size (aw_in h1 h2) (Nat.le_refl _)
  rw [awT_v, awT_val] at h
  refine h.mono fun e w' hp => ⟨?_, hp.1⟩
  rw [hp.2.1 aw_has, aw_encS]

theorem aw_atc {g : Nat} (hp : Blk w g 3 #[.int .i64 1, .int .i64 0]) : Calls Try.prog 68 #[.agg #[.int .u8 3, .int .i64 0, .string ⟨#[]⟩, .slice (some ⟨g2, 0, none⟩) 2 2, .int .i64 0], .slice (some ⟨g, 0, none⟩) 2 2] w
    fun e w' => (∃ A cap, e = .returned (.tuple #[.agg #[.int .u8 4, .int .i64 0, .string ⟨#[]⟩, .slice A 0 cap, .int .i64 7], .int .i64 0])) ∧ Fr No w w' := by
  have hI : Ints w 0 w.heap.size (some ⟨g, 0, none⟩) 2 [1, 0] := by
    refine ⟨by decide, by decide, fun _ => ⟨g, 0, rfl, Nat.zero_le _, hp.lt, fun i x hx => ?_⟩, ?_⟩
    · rw [hp.cell]
      match i, hx with
      | 0, hx => simp at hx; subst hx; rfl
      | 1, hx => simp at hx; subst hx; rfl
      | i + 2, hx => simp at hx
    · intro x hx; simp at hx; rcases hx with rfl | rfl <;> decide
  have h := At_any (awT g1 g2) w 0 w.heap.size (aw_in h1 h2) (Nat.le_refl _) (some ⟨g, 0, none⟩) 2 [1, 0] 0 w.heap.size hI (Nat.le_refl _)
  rw [awT_v, awT_val, aw_at] at h
  refine h.mono fun e w' ⟨t', he, hv, _, hf⟩ => ⟨?_, hf⟩
  obtain ⟨k, n, s, A, cap, l, r⟩ := t'
  rw [T.v_mk] at hv
  injection hv with q1 q2 q3 q4 q5
  subst q1 q2 q3 q5
  obtain rfl : l = [] := by simpa using q4
  exact ⟨A, cap, he⟩

theorem aw_same {t : T} (ht : t.v = awV) (hin : t.In w 0 w.heap.size) : Calls Try.prog 54 #[t.val, .agg #[.int .u8 3, .int .i64 0, .string ⟨#[]⟩, .slice (some ⟨g2, 0, none⟩) 2 2, .int .i64 0]] w fun e w' => e = .returned (.bool true) ∧ Fr No w w' := by
  have h := vsame_any t (awT g1 g2) w 0 w.heap.size hin (aw_in h1 h2) (Nat.le_refl _)
  rw [awT_v, ht, same2_self aw_may] at h
  exact h

theorem aw_parts : Calls Try.prog 56 #[.agg #[.int .u8 3, .int .i64 0, .string ⟨#[]⟩, .slice (some ⟨g2, 0, none⟩) 2 2, .int .i64 0]] w fun e w' => e = .returned (.int .i64 4) ∧ Fr No w w' := by
  have h := Parts_any (awT g1 g2) w 0 w.heap.size (aw_in h1 h2) (Nat.le_refl _)
  rw [awT_v] at h
  have e : awV.meas = 4 := by simp [V.meas, aw_may, aw_size]
  rw [e] at h
  exact h

theorem aw_deep : Calls Try.prog 57 #[.agg #[.int .u8 3, .int .i64 0, .string ⟨#[]⟩, .slice (some ⟨g2, 0, none⟩) 2 2, .int .i64 0]] w fun e w' => e = .returned (.int .i64 2) ∧ Fr No w w' := by
  have h := Deep_any (awT g1 g2) w 0 w.heap.size (aw_in h1 h2) (Nat.le_refl _)
  rw [awT_v, if_pos aw_may, aw_dep] at h
  exact h

theorem aw_mayc : Calls Try.prog 58 #[.agg #[.int .u8 3, .int .i64 0, .string ⟨#[]⟩, .slice (some ⟨g2, 0, none⟩) 2 2, .int .i64 0]] w fun e w' => e = .returned (.bool true) ∧ Fr No w w' := by
  have h := may_any (awT g1 g2) w 0 w.heap.size (aw_in h1 h2) (Nat.le_refl _)
  rw [awT_v, aw_may] at h
  exact h

theorem aw_each : Calls Try.prog 41 #[.agg #[.int .u8 3, .int .i64 0, .string ⟨#[]⟩, .slice (some ⟨g2, 0, none⟩) 2 2, .int .i64 0]] w fun e w' => e = .returned (.func (.func 105) #[] #[.pointer (some ⟨w.heap.size, 0, none⟩)]) ∧ Fr No w w' := by
  have h := Each_yes (awT g1 g2) w 0 w.heap.size (aw_in h1 h2) (Nat.le_refl _) (by rw [awT_v]; exact aw_may)
  rw [awT_v] at h
  refine h.mono fun e w' hp => ⟨?_, hp.fr⟩
  obtain ⟨_, _, _, _, _, _, _, he, _⟩ := hp.yes aw_may
  exact he
end

theorem aw_read (w : World) : Calls Try.prog 48 #[.string awS] w fun e w' => (∃ t : T, t.v = awV ∧ e = .returned (.tuple #[t.val, .int .i64 0]) ∧ t.In w' 0 w'.heap.size) ∧ Fr No w w' := by
  refine (Read_any awS w).mono fun e w' hp => ⟨?_, hp.fr⟩
  obtain ⟨t, h1, h2, h3⟩ := hp.yes awV 508 (by decide) aw_parse
  exact ⟨t, h1, h2, T.In.more (Nat.zero_le _) (Nat.le_refl _) _ h3⟩

theorem aw_order (w : World) : Calls Try.prog 55 #[.agg #[.int .u8 1, .int .i64 1, .string ⟨#[]⟩, .slice none 0 0, .int .i64 0], .agg #[.int .u8 1, .int .i64 2, .string ⟨#[]⟩, .slice none 0 0, .int .i64 0]] w fun e w' => e = .returned (.tuple #[.int .i64 (-1), .int .i64 0]) ∧ Fr No w w' := by
  have h := vorder_any (lf 1 1 ⟨#[]⟩ 0) (lf 1 2 ⟨#[]⟩ 0) w 0 0 (lf_in _ _ _ (by decide) (by decide) (by decide) (by decide) (by decide) (by decide)) (lf_in _ _ _ (by decide) (by decide) (by decide) (by decide) (by decide) (by decide)) (Nat.zero_le _)
  have m1 : (V.mk 1 1 ⟨#[]⟩ [] 0).may = true := by simp [V.may, V.fits, V.ok_mk, V.size_mk, V.dep_mk, fok, toL0]
  have m2 : (V.mk 1 2 ⟨#[]⟩ [] 0).may = true := by simp [V.may, V.fits, V.ok_mk, V.size_mk, V.dep_mk, fok, toL0]
  have o : (V.mk 1 1 ⟨#[]⟩ [] 0).ord (V.mk 1 2 ⟨#[]⟩ [] 0) = -1 := by rw [V.ord_mk]; rfl
  rw [lf_v, lf_v, m1, m2, o] at h
  exact h

end Go.Proofs.Ytihjmipmjogpoaa

/- Chapter 2: the law's own spoil: it writes over a value's lists, and grows them. -/
namespace Go.Proofs.Ytihjmipmjogpoaa
open Go.RowKit

def m5 : T := lf 1 (-5) ⟨#[]⟩ 0
def m6 : T := lf 1 (-6) ⟨#[]⟩ 0

/-- A row whose first parts are written over. -/
def spRow (l : List T) (j : Nat) : List T := List.replicate j m5 ++ l.drop j

theorem spRow_zero (l : List T) : spRow l 0 = l := by simp [spRow]
theorem spRow_length {l : List T} {j : Nat} (h : j ≤ l.length) : (spRow l j).length = l.length := by simp [spRow]; omega
theorem spRow_at {l : List T} {j : Nat} (h : j < l.length) : (spRow l j)[j]? = some l[j] := by
  rw [spRow, List.getElem?_append_right (by simp)]
  simp [h]
theorem spRow_set {l : List T} {j : Nat} (h : j < l.length) : (spRow l j).set j m5 = spRow l (j + 1) := by
  rw [spRow, spRow, List.set_append_right _ _ (by simp), List.length_replicate, Nat.sub_self, List.drop_eq_getElem_cons h, List.set_cons_zero, List.replicate_succ', List.append_assoc]
  rfl
theorem spRow_all (l : List T) : spRow l l.length = List.replicate l.length m5 := by simp [spRow]

/-- Five cells of a row of one's own written over. -/
theorem owns_set5 {w : World} {lo g n cap j : Nat} {L : List T} (h : w.ownsRow lo 27 5 (.slice (some ⟨g, 0, none⟩) n cap) n (rowCells L)) (hL : L.length = n) (hj : j < n) (k1 n1 : Int) (s1 : ByteArray) (A1 : Option Addr) (c1 : Nat) (l1 : List T) (r1 : Int) :
    (((((w.setCell ⟨g, j * 5, none⟩ (.int .u8 k1)).setCell ⟨g, j * 5 + 1, none⟩ (.int .i64 n1)).setCell ⟨g, j * 5 + 2, none⟩ (.string s1)).setCell ⟨g, j * 5 + 3, none⟩ (.slice A1 l1.length c1)).setCell ⟨g, j * 5 + 4, none⟩ (.int .i64 r1)).ownsRow lo 27 5 (.slice (some ⟨g, 0, none⟩) n cap) n (rowCells (L.set j (T.mk k1 n1 s1 A1 c1 l1 r1))) := by
  refine ⟨by rw [rowCells_length, List.length_set, hL], ?_⟩
  rcases h.2 with ⟨h', _⟩ | ⟨g', cap', cur, hv, hb, hg, hc, hm, hs, hx⟩
  · cases h'
  · simp at hv
    obtain ⟨rfl, rfl⟩ := hv
    have hB := (show Blk w g 27 cur from hg).five (j * 5) (.int .u8 k1) (.int .i64 n1) (.string s1) (.slice A1 l1.length c1) (.int .i64 r1)
    refine .inr ⟨g, cap, _, rfl, hb, hB, hc, hm, by simp [hs], ?_⟩
    refine List.ext_getElem? fun q => ?_
    have hsz : n * 5 ≤ cur.size := by rw [hs]; exact Nat.mul_le_mul_right _ hc
    by_cases hq : q < n * 5
    · have hi : q / 5 < n := by omega
      have hL2 : q / 5 < (L.set j (T.mk k1 n1 s1 A1 c1 l1 r1)).length := by rw [List.length_set, hL]; exact hi
      have hcl : q % 5 < ((L.set j (T.mk k1 n1 s1 A1 c1 l1 r1))[q / 5]).cells.length := by rw [T.cells_length]; omega
      have e1 := rowCells_get _ (q / 5) (q % 5) _ _ (List.getElem?_eq_getElem hL2) (List.getElem?_eq_getElem hcl)
      rw [show q / 5 * 5 + q % 5 = q by omega] at e1
      rw [e1, List.getElem?_take, if_pos hq, Array.getElem?_toList]
      simp only [Array.getElem?_setIfInBounds, Array.size_setIfInBounds]
      by_cases hqj : q / 5 = j
      · have hget : (L.set j (T.mk k1 n1 s1 A1 c1 l1 r1))[q / 5] = T.mk k1 n1 s1 A1 c1 l1 r1 := by
          rw [List.getElem_set, if_pos hqj.symm]
        have h5 : q % 5 = 0 ∨ q % 5 = 1 ∨ q % 5 = 2 ∨ q % 5 = 3 ∨ q % 5 = 4 := by omega
        have hqq : q = j * 5 + q % 5 := by omega
        have hlt : q < cur.size := by omega
        rcases h5 with h5 | h5 | h5 | h5 | h5
        all_goals
          rw [h5] at hqq
          simp only [hget, h5, T.cells_mk]
          subst hqq
          simp
          try omega
      · have hget : (L.set j (T.mk k1 n1 s1 A1 c1 l1 r1))[q / 5] = L[q / 5]'(by omega) := by
          rw [List.getElem_set, if_neg (fun h => hqj h.symm)]
        rw [if_neg (by omega), if_neg (by omega), if_neg (by omega), if_neg (by omega), if_neg (by omega)]
        have hcl' : q % 5 < (L[q / 5]'(by omega)).cells.length := by rw [T.cells_length]; omega
        have e2 := rowCells_get L (q / 5) (q % 5) _ _ (List.getElem?_eq_getElem (by omega)) (List.getElem?_eq_getElem hcl')
        rw [show q / 5 * 5 + q % 5 = q by omega, ← hx, List.getElem?_take, if_pos hq, Array.getElem?_toList] at e2
        rw [e2]
        simp only [hget]
    · rw [List.getElem?_eq_none (by simp; omega), List.getElem?_eq_none (by rw [rowCells_length, List.length_set, hL]; omega)]

theorem owns_five {w : World} {lo g n cap j : Nat} {L : List T} (h : w.ownsRow lo 27 5 (.slice (some ⟨g, 0, none⟩) n cap) n (rowCells L)) {k1 n1 : Int} {s1 : ByteArray} {A1 : Option Addr} {c1 : Nat} {l1 : List T} {r1 : Int} (hx : L[j]? = some (T.mk k1 n1 s1 A1 c1 l1 r1)) :
    w.cell? ⟨g, j * 5, none⟩ = some (.int .u8 k1) ∧ w.cell? ⟨g, j * 5 + 1, none⟩ = some (.int .i64 n1) ∧ w.cell? ⟨g, j * 5 + 2, none⟩ = some (.string s1) ∧ w.cell? ⟨g, j * 5 + 3, none⟩ = some (.slice A1 l1.length c1) ∧ w.cell? ⟨g, j * 5 + 4, none⟩ = some (.int .i64 r1) ∧ (∀ o, w.frozen? ⟨g, o, none⟩ = false) ∧ g < w.heap.size := by
  have hc : ∀ c u, (T.mk k1 n1 s1 A1 c1 l1 r1).cells[c]? = some u → w.cell? ⟨g, j * 5 + c, none⟩ = some u := fun c u hu => by
    have := World.ownsRow.cells h (g := g) rfl _ _ (rowCells_get L j c _ u hx hu)
    rwa [add_at, Nat.zero_add] at this
  refine ⟨hc 0 _ rfl, hc 1 _ rfl, hc 2 _ rfl, hc 3 _ rfl, hc 4 _ rfl, fun o => ?_, (owns_lt h g rfl).2⟩
  rcases h.2 with ⟨h', _⟩ | ⟨g', cap', cur, hv, hb, hg, _⟩
  · cases h'
  · simp at hv
    obtain ⟨rfl, rfl⟩ := hv
    exact Blk.frozen hg o

/-- Where spoil's first loop stands. -/
structure SpInv (w : World) (lo hi : Nat) (k n : Int) (s : ByteArray) (A : Option Addr) (cap : Nat) (l : List T) (r : Int) (j : Nat) (wr : World) : Prop where
  fr : Fr (fun i => i ∈ (T.mk k n s A cap l r).blocks) w wr
  box : Blk wr w.heap.size 27 #[.int .u8 k, .int .i64 n, .string s, .slice A l.length cap, .int .i64 r]
  own : wr.ownsRow lo 27 5 (.slice A l.length cap) l.length (rowCells (spRow l j))
  sp : ∀ i (h : i < l.length), j ≤ i → l[i].Sp wr lo hi

theorem sp_child_ne {k n : Int} {s : ByteArray} {g o cap : Nat} {l : List T} {r : Int} (h : (T.mk k n s (some ⟨g, o, none⟩) cap l r).blocks.Nodup) {x : T} (hx : x ∈ l) : g ∉ x.blocks := by
  intro hg
  rw [T.blocks_mk] at h
  have hne : l.isEmpty = false := by cases l with
    | nil => cases hx
    | cons => rfl
  rw [hne] at h
  simp only [Bool.false_eq_true, if_false, Option.map_some, Option.toList_some, List.singleton_append, List.nodup_cons] at h
  exact h.1 (List.mem_flatten.2 ⟨_, List.mem_map_of_mem hx, hg⟩)

theorem nodup_at {L : List (List Nat)} (h : L.flatten.Nodup) {i j : Nat} (hi : i < L.length) (hj : j < L.length) (hij : i < j) {b : Nat} (hb : b ∈ L[i]) : b ∉ L[j] := by
  induction L generalizing i j with
  | nil => simp at hi
  | cons a L ih =>
    rw [List.flatten_cons, List.nodup_append] at h
    cases i with
    | zero =>
      cases j with
      | zero => omega
      | succ j =>
        intro h2
        exact h.2.2 b hb b (List.mem_flatten.2 ⟨_, List.getElem_mem (by simpa using hj), h2⟩) rfl
    | succ i =>
      cases j with
      | zero => omega
      | succ j => exact ih h.2.1 (by simpa using hi) (by simpa using hj) (by omega) hb

theorem sp_child_far {k n : Int} {s : ByteArray} {A : Option Addr} {cap : Nat} {l : List T} {r : Int} (h : (T.mk k n s A cap l r).blocks.Nodup) {i j : Nat} (hi : i < l.length) (hj : j < l.length) (hij : i < j) {b : Nat} (hb : b ∈ l[j].blocks) : b ∉ l[i].blocks := by
  rw [T.blocks_mk, List.nodup_append] at h
  intro hb2
  have := nodup_at (L := l.map T.blocks) h.2.1 (i := i) (j := j) (by simpa using hi) (by simpa using hj) hij (b := b) (by simpa using hb2)
  exact this (by simpa using hb)

theorem sp_child_nodup {k n : Int} {s : ByteArray} {A : Option Addr} {cap : Nat} {l : List T} {r : Int} (h : (T.mk k n s A cap l r).blocks.Nodup) {x : T} (hx : x ∈ l) : x.blocks.Nodup := by
  rw [T.blocks_mk, List.nodup_append] at h
  have h2 := h.2.1
  clear h
  induction l with
  | nil => cases hx
  | cons a l ih =>
    rw [List.map_cons, List.flatten_cons, List.nodup_append] at h2
    rcases List.mem_cons.1 hx with rfl | hx
    · exact h2.1
    · exact ih hx h2.2.1

/-- One part is spoiled, then written over. -/
theorem sp_push {w wr w2 w3 : World} {lo hi : Nat} {k n : Int} {s : ByteArray} {g cap : Nat} {l : List T} {r : Int} {j : Nat} (inv : SpInv w lo hi k n s (some ⟨g, 0, none⟩) cap l r j wr) (hnd : (T.mk k n s (some ⟨g, 0, none⟩) cap l r).blocks.Nodup) (hj : j < l.length) (hh : hi ≤ w.heap.size) (hlo : ∀ x ∈ l, x.In w lo hi)
    (f2 : Fr (fun i => i ∈ l[j].blocks) wr w2) (f3 : Fr No w2 w3) :
    Blk w3 w.heap.size 27 #[.int .u8 k, .int .i64 n, .string s, .slice (some ⟨g, 0, none⟩) l.length cap, .int .i64 r] ∧ w3.ownsRow lo 27 5 (.slice (some ⟨g, 0, none⟩) l.length cap) l.length (rowCells (spRow l j)) ∧
    (g < w.heap.size → SpInv w lo hi k n s (some ⟨g, 0, none⟩) cap l r (j + 1) (((((w3.setCell ⟨g, j * 5, none⟩ (.int .u8 1)).setCell ⟨g, j * 5 + 1, none⟩ (.int .i64 (-5))).setCell ⟨g, j * 5 + 2, none⟩ (.string ⟨#[]⟩)).setCell ⟨g, j * 5 + 3, none⟩ (.slice none 0 0)).setCell ⟨g, j * 5 + 4, none⟩ (.int .i64 0))) := by
  have F : Fr (fun i => i ∈ l[j].blocks) wr w3 := f2.thenNo f3
  have hmem := List.getElem_mem hj
  have hbl : ∀ b ∈ l[j].blocks, lo ≤ b ∧ b < hi := T.In.blocks _ (hlo _ hmem)
  have hg := sp_child_ne hnd hmem
  have b3 := inv.box.fr F (fun h => by have := hbl _ h; omega)
  have o3 := owns_fr inv.own F (fun g' h => by simp [Value.ownBlock] at h; subst h; exact hg)
  refine ⟨b3, o3, fun hgs => ?_⟩
  have F5 := (Fr.refl (fun i => i = g) w3).five (g := g) (fun _ => rfl) (j * 5) (.int .u8 1) (.int .i64 (-5)) (.string ⟨#[]⟩) (.slice none 0 0) (.int .i64 0)
  have hgm : g ∈ (T.mk k n s (some ⟨g, 0, none⟩) cap l r).blocks := T.mem_blocks (by rintro rfl; simp at hj)
  refine ⟨?_, ?_, ?_, fun i hi' hij => ?_⟩
  · refine (inv.fr.trans' F fun i _ h => T.sub_blocks hmem h).trans' F5 fun i _ h => ?_
    have h' : i = g := h
    rw [h']; exact hgm
  · exact b3.fr F5 (fun h => by have h' : w.heap.size = g := h; omega)
  · have := owns_set5 o3 (spRow_length (Nat.le_of_lt hj)) hj 1 (-5) ⟨#[]⟩ none 0 [] 0
    rw [show T.mk 1 (-5) ⟨#[]⟩ none 0 [] 0 = m5 from rfl, spRow_set hj] at this
    exact this
  · have h1 := inv.sp i hi' (by omega)
    have h2 := T.Sp.fr F _ (fun b hb => sp_child_far hnd hj hi' (by omega) hb) h1
    exact T.Sp.fr F5 _ (fun b hb h => by have h' : b = g := h; subst h'; exact sp_child_ne hnd (List.getElem_mem hi') hb) h2

set_option maxRecDepth 100000 in
set_option maxHeartbeats 8000000 in
theorem spoil_any (t : T) : ∀ (w : World) (lo hi : Nat), t.Sh w lo hi → hi ≤ w.heap.size → lo ≤ w.heap.size → t.v.size ≤ 1000000 →
    Calls Try.prog 44 #[t.val] w fun e w' => (∃ z : Nat, e = .returned (.int .i64 (z : Int)) ∧ 0 < z ∧ z + 1 ≤ 6 * t.v.size) ∧ Fr (fun i => i ∈ t.blocks) w w' := by
  induction t using T.ind with
  | h k n s A cap l r ih =>
    intro w lo hi hsh hh hlow hsz
    have hin := hsh.inn
    have fit := (T.in_mk.1 hin).1
    have hlen := fit.len1
    have hsp := T.sp_mk.1 hsh.sp
    have hnd := hsh.nodup
    rw [T.val_mk]
    have hsize : (T.mk k n s A cap l r).v.size = 1 + ((l.map T.v).map V.size).sum := by rw [T.v_mk, V.size_mk]
    rw [hsize] at hsz ⊢
    have hls := size_sum (l.map T.v)
    rw [List.length_map] at hls
    have hfr0 : Fr (fun i => i ∈ (T.mk k n s A cap l r).blocks) w (w.alloc (.cells #[.int .u8 k, .int .i64 n, .string s, .slice A l.length cap, .int .i64 r] 27)) := (Fr.refl _ w).alloc _
    have hinv0 : SpInv w lo hi k n s A cap l r 0 (w.alloc (.cells #[.int .u8 k, .int .i64 n, .string s, .slice A l.length cap, .int .i64 r] 27)) := by
      refine ⟨hfr0, Blk.new w 27 _, ?_, fun i h _ => T.Sp.fr ((Fr.refl No w).alloc _) _ (fun _ _ h => h) (hsp.2.2.2 _ (List.getElem_mem h))⟩
      rw [spRow_zero]
      by_cases hl : l = []
      · obtain ⟨h1, h2⟩ := hsp.2.1 hl
        subst hl h1 h2
        exact World.ownsRow_nil _ _ _ _
      · exact (hsp.2.2.1 hl).1.alloc _
    have hAg : l ≠ [] → ∃ g, A = some ⟨g, 0, none⟩ ∧ g < hi := fun hl => (hsp.2.2.1 hl).2
    have hlo : ∀ x ∈ l, x.In w lo hi := (T.in_mk.1 hin).2.2
    obtain ⟨i0, hi0, hz0, hz1, hz2⟩ := info_parts value_info
    have HS := hide hsize
    clear hsize hfr0
    go_enter Try.func44, Try.ntmps44
    go_wp2_with fail
    go_loopw [3, 4] (fun v i wr => ∃ j m : Nat, j ≤ l.length ∧ i = .int .i64 (j : Int) ∧ v = .int .i64 (m : Int) ∧ m + j ≤ 6 * (((l.map T.v).map V.size).take j).sum ∧ SpInv w lo hi k n s A cap l r j wr) (fun _ i _ => l.length - (intOf i).toNat)
    case atStart => exact ⟨0, 0, Nat.zero_le _, rfl, rfl, by simp, hinv0⟩
    case round =>
      obtain ⟨j, m, hj, rfl, rfl, hm, inv⟩ := hrel
      obtain ⟨c0, c1, c2, c3, c4, cf⟩ := inv.box.cells5
      have q0 := inv.box.lt
      have hts := sum_take_le ((l.map T.v).map V.size) j
      by_cases hlt : j < l.length
      · obtain ⟨g, rfl, hg⟩ := hAg (by rintro rfl; simp at hlt)
        have hcase := ih l[j] (List.getElem_mem hlt) wr lo hi ⟨inv.sp j hlt (Nat.le_refl _), sp_child_nodup hnd (List.getElem_mem hlt)⟩ (by have := inv.fr.size; omega) (by have := inv.fr.size; omega)
        have hto := sum_take_succ ((l.map T.v).map V.size) j (by simpa using hlt)
        have hts2 := sum_take_le ((l.map T.v).map V.size) (j + 1)
        rw [List.getElem_map, List.getElem_map] at hto
        have hpush := fun w2 w3 (f2 : Fr (fun i => i ∈ l[j].blocks) wr w2) (f3 : Fr No w2 w3) => sp_push inv hnd hlt hh hlo f2 f3
        have hat := spRow_at hlt
        cases hx : l[j] with
        | mk k1 n1 s1 A1 cap1 l1 r1 =>
          rw [hx] at hcase hto hpush hat
          rw [T.val_mk] at hcase
          obtain ⟨e0, e1, e2, e3, e4, ef, eg⟩ := owns_five inv.own hat
          generalize (T.mk k1 n1 s1 A1 cap1 l1 r1).v.size = z at *
          generalize (T.mk k1 n1 s1 A1 cap1 l1 r1).blocks = bl at *
          have hcase2 := hcase (by omega)
          have HC := hide hcase2
          have HTO := hide hto
          have HP := hide hpush
          have HAT := hide hat
          have hmz : m ≤ 6000000 := by omega
          have hm2 : m + j ≤ 6 * (((l.map T.v).map V.size).take j).sum := hm
          have HM := hide hm2
          have hzz : z ≤ 1000000 := by omega
          have hgs : g < w.heap.size := by omega
          clear hcase hcase2 hto hpush hat hx ih inv hinv0 hin hsh hnd hsp hAg hts hts2 hm hm2 hlo
          go_wp2_with fail
          refine HC.out.mono ?_
          rintro e w2 ⟨⟨y, rfl, hy0, hy1⟩, f2⟩
          obtain ⟨b2, o2, -⟩ := HP.out w2 w2 f2 (Fr.refl No w2)
          clear c0 c1 c2 c3 c4 cf q0 e0 e1 e2 e3 e4 ef eg
          obtain ⟨c0, c1, c2, c3, c4, cf⟩ := b2.cells5
          have q0 := b2.lt
          have HB2 := hide b2
          have HO2 := hide o2
          have HF2 := hide f2
          clear b2 o2 f2
          have hyb : y ≤ 6000000 := by omega
          have hnum := fun w3 => num2_any (-5) w3
          have hadd : m + y + (j + 1) ≤ 6 * (((l.map T.v).map V.size).take (j + 1)).sum := by
            rw [HTO.out]; have := HM.out; omega
          have HADD := hide hadd
          clear hadd
          go_wp2_with fail
          go_region_law (go_simp; go_at_call 79; (with_reducible refine (hnum _).mono ?_); rintro e w3 ⟨rfl, f3⟩; obtain ⟨b3, o3, hi3⟩ := HP.out w2 w3 HF2.out ⟨f3.os, f3.tape, f3.output, f3.size, f3.block⟩; obtain ⟨x0, x1, x2, x3, x4, xf, xg⟩ := owns_five o3 HAT.out; obtain ⟨d0, d1, d2, d3, d4, df⟩ := b3.cells5; have HI3 := hide (hi3 hgs); clear b3 o3 hi3)
          all_goals
            go_wp2
            go_roundw
            case rel => exact ⟨j + 1, m + y, hlt, by go_num, by go_num, HADD.out, HI3.out⟩
            case measure => simp [intOf]; omega
      · obtain rfl : l.length = j := by omega
        have hown := inv.own
        rw [spRow_all] at hown
        have hAb : ∀ g, (Value.slice A l.length cap).ownBlock = some g → g ∈ (T.mk k n s A cap l r).blocks ∨ w.heap.size ≤ g := fun g hg => by
          by_cases hl : l = []
          · obtain ⟨h1, _⟩ := hsp.2.1 hl
            subst h1; cases hg
          · obtain ⟨g', rfl, _⟩ := hAg hl
            simp [Value.ownBlock] at hg
            subst hg
            exact .inl (T.mem_blocks hl)
        have hst : Fr (fun i => i ∈ (T.mk k n s A cap l r).blocks) w wr := inv.fr
        have hm0 : m + l.length ≤ 6 * ((l.map T.v).map V.size).sum := by
          rw [List.take_of_length_le (by simp)] at hm; exact hm
        have HM := hide hm0
        have HOWN := hide hown
        have HAB := hide hAb
        have HST := hide hst
        have hmm : m ≤ 6000000 := by omega
        clear hown hAb hst hm hm0 inv ih hinv0 hsp hnd hsh hin hlo hAg hts
        go_wp2_with fail
        clear c0 c1 c2 c3 c4 cf q0
        go_loopw [5, 6] (fun v i wk => ∃ (c : Nat) (A3 : Option Addr) (cap3 : Nat), c ≤ 5 ∧ i = .int .i64 (c : Int) ∧ v = .slice A3 (l.length + c) cap3 ∧ wk.ownsRow lo 27 5 (.slice A3 (l.length + c) cap3) (l.length + c) (rowCells (List.replicate l.length m5 ++ List.replicate c m6)) ∧
          Fr (fun i => i ∈ (T.mk k n s A cap l r).blocks) w wk ∧ (∀ g, (Value.slice A3 (l.length + c) cap3).ownBlock = some g → g ∈ (T.mk k n s A cap l r).blocks ∨ w.heap.size ≤ g)) (fun _ i _ => 5 - (intOf i).toNat)
        case atStart => exact ⟨0, A, cap, by omega, rfl, rfl, by simpa using HOWN.out, HST.out, HAB.out⟩
        case round =>
          obtain ⟨c, A3, cap3, hc, rfl, rfl, own3, fr3, hb3⟩ := hrel
          by_cases hc5 : c < 5
          · have HO3 := hide own3
            have HF3 := hide fr3
            have HB3 := hide hb3
            have hsz3 := fr3.size
            have hnum := fun w3 => num2_any (-6) w3
            clear own3 fr3 hb3
            go_wp2_with fail
            refine (hnum wr).mono ?_
            rintro e w4 ⟨rfl, f4⟩
            have hs4 := f4.size
            have hownA := (owns_fr HO3.out f4 fun _ _ h => h).alloc (.cells #[.int .u8 1, .int .i64 (-6), .string ⟨#[]⟩, .slice none 0 0, .int .i64 0] 27)
            have HF4 := hide f4
            clear f4
            go_wp2_with (at_builtin; refine wpList_append_lies _ (by rfl) _ _ _ (by rfl) lo 27 i0 _ 5 64 Try.underlying24 hi0 hz0 hz1 hz2 (by rfl) (by omega) (.slice A3 (l.length + c) cap3) (l.length + c) (rowCells (List.replicate l.length m5 ++ List.replicate c m6)) (by rfl) hownA ⟨w4.heap.size, 0, none⟩ 1 1 [.int .u8 1, .int .i64 (-6), .string ⟨#[]⟩, .slice none 0 0, .int .i64 0] (by rfl) (by rfl) (World.news_of_block (Blk.new w4 27 _)) (by simp [Value.oneCell']) (by omega) (by unfold maxLen; omega) (by omega) (by simp; omega) (w4.heap.size + 1) (by simp) ?_; intro g cp w5 hown5 hgrow hat hlt5; have HO5 := hide hown5; have HG := hide hgrow; have HA := hide hat; clear hown5 hgrow hat)
            go_roundw
            case rel =>
              refine ⟨c + 1, some ⟨g, 0, none⟩, cp, by omega, by go_num, rfl, ?_, ?_, ?_⟩
              · have h := HO5.out
                rw [List.replicate_succ', ← List.append_assoc, rowCells_snoc]
                exact h
              · refine (((HF3.out.thenNo HF4.out).alloc _).trans' (fr_grown HG.out) fun i hi h => ?_)
                have h' : some i = (Value.slice A3 (l.length + c) cap3).ownBlock := h
                rcases HB3.out i h'.symm with h | h
                · exact h
                · omega
              · intro g' hg'
                simp [Value.ownBlock] at hg'
                subst hg'
                rcases HA.out with h | h
                · exact HB3.out _ h
                · right; omega
            case measure => simp [intOf]; omega
          · obtain rfl : c = 5 := by omega
            have HF3 := hide fr3
            clear fr3 own3 hb3
            go_wp2
            go_ret
            refine ⟨⟨m + (l.length + 5), by go_num, by omega, ?_⟩, HF3.out⟩
            have := HM.out
            omega

end Go.Proofs.Ytihjmipmjogpoaa

/- Chapter 2: value.rename: the references of a value of one's own, renamed in their places. -/
namespace Go.Proofs.Ytihjmipmjogpoaa
open Go.RowKit Go.Maps Go.ChangeMaps

/-- Under which name a reference goes: the first that names it. -/
def nmOf : List Int → List Int → Int → Option Int
  | f :: fs, t :: ts, r => if f = r then some t else nmOf fs ts r
  | _, _, _ => none

/-- A map of names, in a block of its own. -/
def Names (w : World) (b : Nat) (f : Int → Option Int) : Prop :=
  ∃ (n : Nat) (D : DataW Unit), w.ownsMap Try.prog 25 (plainElem Try.prog 25) b n D ∧ ∀ r : Int, -9223372036854775808 ≤ r → r ≤ 9223372036854775807 → Maps.has D (.int .i64 r) = (f r).isSome ∧ D.atKey (.int .i64 r) (.lit (.int .i64 0)) = .lit (.int .i64 ((f r).getD 0))

theorem ownsMap_fr {S : Nat → Prop} {w w' : World} {k : TypeId} {R : Value → Option (DataW Unit × List MemPlace)} {b n : Nat} {D : DataW Unit} (h : w.ownsMap Try.prog k R b n D) (f : Fr S w w') (hs : ¬ S b) : w'.ownsMap Try.prog k R b n D := by
  have hl := h.lt
  obtain ⟨es, clock, hb, h2⟩ := h
  exact ⟨es, clock, (f.block b hl hs).trans hb, h2⟩

theorem Names.fr {S : Nat → Prop} {w w' : World} {b : Nat} {f : Int → Option Int} (h : Names w b f) (fr : Fr S w w') (hs : ¬ S b) : Names w' b f := by
  obtain ⟨n, D, h1, h2⟩ := h
  exact ⟨n, D, ownsMap_fr h1 fr hs, h2⟩

theorem Names.lt {w : World} {b : Nat} {f : Int → Option Int} (h : Names w b f) : b < w.heap.size := by
  obtain ⟨n, D, h1, _⟩ := h
  exact h1.lt

/-- A value's references by other names. -/
def V.ren (f : Int → Option Int) : V → V
  | .mk k n s l r => if k = 4 then .mk k n s l ((f r).getD 0) else .mk k n s (l.map (V.ren f)) r
termination_by v => v
theorem V.ren_mk (f : Int → Option Int) (k n : Int) (s : ByteArray) (l : List V) (r : Int) : (V.mk k n s l r).ren f = if k = 4 then .mk k n s l ((f r).getD 0) else .mk k n s (l.map (V.ren f)) r := by rw [V.ren]

/-- Are all of them named? -/
def V.named (f : Int → Option Int) : V → Bool
  | .mk k _ _ l r => if k = 4 then (f r).isSome else (l.map (V.named f)).all id
termination_by v => v
theorem V.named_mk (f : Int → Option Int) (k n : Int) (s : ByteArray) (l : List V) (r : Int) : (V.mk k n s l r).named f = if k = 4 then (f r).isSome else l.all (V.named f) := by
  rw [V.named, List.all_map]; rfl

def T.ren (f : Int → Option Int) : T → T
  | .mk k n s A cap l r => if k = 4 then .mk k n s A cap l ((f r).getD 0) else .mk k n s A cap (l.map (T.ren f)) r
termination_by t => t
theorem T.ren_mk (f : Int → Option Int) (k n : Int) (s : ByteArray) (A : Option Addr) (cap : Nat) (l : List T) (r : Int) : (T.mk k n s A cap l r).ren f = if k = 4 then .mk k n s A cap l ((f r).getD 0) else .mk k n s A cap (l.map (T.ren f)) r := by rw [T.ren]

theorem T.ren_v (f : Int → Option Int) (t : T) : (t.ren f).v = t.v.ren f := by
  induction t using T.ind with
  | h k n s A cap l r ih =>
    rw [T.ren_mk, T.v_mk, V.ren_mk]
    split
    · rw [T.v_mk]
    · have e : l.map (T.v ∘ T.ren f) = l.map (V.ren f ∘ T.v) := List.map_congr_left fun x hx => ih x hx
      rw [T.v_mk, List.map_map, List.map_map, e]

theorem T.ren_blocks (f : Int → Option Int) (t : T) : (t.ren f).blocks = t.blocks := by
  induction t using T.ind with
  | h k n s A cap l r ih =>
    rw [T.ren_mk]
    split
    · rw [T.blocks_mk, T.blocks_mk]
    · have e : l.map (T.blocks ∘ T.ren f) = l.map T.blocks := List.map_congr_left fun x hx => ih x hx
      rw [T.blocks_mk, T.blocks_mk, List.map_map, e]
      cases l <;> rfl

/-- The cells of a renamed value: the reference alone has turned. -/
theorem T.ren_cells (f : Int → Option Int) (k n : Int) (s : ByteArray) (A : Option Addr) (cap : Nat) (l : List T) (r : Int) : ((T.mk k n s A cap l r).ren f).cells = [.int .u8 k, .int .i64 n, .string s, .slice A l.length cap, .int .i64 (if k = 4 then (f r).getD 0 else r)] := by
  rw [T.ren_mk]
  split <;> simp [T.cells]

/-- One reference in a row. -/
theorem row_set_ref {L : List T} {i : Nat} {k n : Int} {s : ByteArray} {A : Option Addr} {cap : Nat} {l : List T} {r : Int} (h : L[i]? = some (T.mk k n s A cap l r)) (x : T) (r' : Int) (hx : x.cells = [.int .u8 k, .int .i64 n, .string s, .slice A l.length cap, .int .i64 r']) :
    (rowCells L).set (i * 5 + 4) (.int .i64 r') = rowCells (L.set i x) := by
  induction L generalizing i with
  | nil => simp at h
  | cons y L ih =>
    cases i with
    | zero =>
      simp at h
      subst h
      simp only [rowCells, List.flatMap_cons, List.set_cons_zero, Nat.zero_mul, Nat.zero_add, hx]
      simp [T.cells]
    | succ i =>
      simp at h
      have := ih h
      simp only [rowCells, List.flatMap_cons, List.set_cons_succ] at this ⊢
      rw [List.set_append_right _ _ (by rw [T.cells_length]; omega), T.cells_length, show (i + 1) * 5 + 4 - 5 = i * 5 + 4 by omega, this]

theorem row_set_same {L : List T} {i : Nat} {y x : T} (h : L[i]? = some y) (hx : x.cells = y.cells) : rowCells (L.set i x) = rowCells L := by
  induction L generalizing i with
  | nil => simp at h
  | cons z L ih =>
    cases i with
    | zero => simp at h; subst h; simp [rowCells, hx]
    | succ i =>
      simp at h
      have := ih h
      simp only [rowCells, List.flatMap_cons, List.set_cons_succ] at this ⊢
      rw [this]

def renRow (f : Int → Option Int) (l : List T) (j : Nat) : List T := (l.take j).map (T.ren f) ++ l.drop j
theorem renRow_zero (f : Int → Option Int) (l : List T) : renRow f l 0 = l := by simp [renRow]
theorem renRow_all (f : Int → Option Int) (l : List T) : renRow f l l.length = l.map (T.ren f) := by simp [renRow]
theorem renRow_at {f : Int → Option Int} {l : List T} {j : Nat} (h : j < l.length) : (renRow f l j)[j]? = some l[j] := by
  rw [renRow, List.getElem?_append_right (by simp; omega)]
  simp [Nat.min_eq_left (Nat.le_of_lt h), h]
theorem renRow_set {f : Int → Option Int} {l : List T} {j : Nat} (h : j < l.length) : (renRow f l j).set j (l[j].ren f) = renRow f l (j + 1) := by
  have hl : ((l.take j).map (T.ren f)).length = j := by simp; omega
  rw [renRow, renRow, List.set_append_right _ _ (by omega), hl, Nat.sub_self, List.drop_eq_getElem_cons h, List.set_cons_zero, List.take_succ_eq_append_getElem h, List.map_append, List.append_assoc]
  rfl
theorem renRow_length {f : Int → Option Int} {l : List T} {j : Nat} (h : j ≤ l.length) : (renRow f l j).length = l.length := by simp [renRow]; omega

/-- What rename leaves. -/
structure RenP (f : Int → Option Int) (x : T) (b o lo hi : Nat) (w : World) (e : Ending) (w' : World) : Prop where
  e : e = .returned (.bool (x.v.named f))
  fr : Fr (fun i => i = b ∨ i ∈ x.blocks) w w'
  one : ∀ k n s A cap l r, x = T.mk k n s A cap l r → x.v.named f = true → (k = 4 → w' = w.setCell ⟨b, o + 4, none⟩ (.int .i64 ((f r).getD 0))) ∧ (k ≠ 4 → Fr (fun i => i ∈ x.blocks) w w')
  sp : x.v.named f = true → (x.ren f).Sp w' lo hi

end Go.Proofs.Ytihjmipmjogpoaa

/- Chapter 2: a part put in the place of another one: in memory of one's own, and as plain data. -/
namespace Go.Proofs.Ytihjmipmjogpoaa
open Go.RowKit

/-- The parts of a tree. -/
def T.kids : T → List T
  | .mk _ _ _ _ _ l _ => l
def T.base : T → Option Addr
  | .mk _ _ _ A _ _ _ => A

/-- One step down: the spot and the part that stands there. -/
def stp (q : (Nat × Nat) × T) (i : Nat) : (Nat × Nat) × T :=
  match q.2.base, q.2.kids[i]? with
  | some a, some x => ((a.block, i * 5), x)
  | _, _ => q

/-- Where a place leads, from a spot. -/
def loc (p : List Nat) (bo : Nat × Nat) (t : T) : (Nat × Nat) × T := p.foldl stp (bo, t)

theorem loc_nil (bo : Nat × Nat) (t : T) : loc [] bo t = (bo, t) := rfl
theorem loc_cons (i : Nat) (p : List Nat) (bo : Nat × Nat) (k n : Int) (s : ByteArray) (a : Addr) (cap : Nat) (l : List T) (r : Int) (y : T) (h : l[i]? = some y) :
    loc (i :: p) bo (.mk k n s (some a) cap l r) = loc p (a.block, i * 5) y := by
  simp only [loc, List.foldl_cons, stp, T.base, T.kids, h]
theorem loc_snoc (i : Nat) (p : List Nat) (bo : Nat × Nat) (t : T) : loc (p ++ [i]) bo t = stp (loc p bo t) i := by
  simp only [loc, List.foldl_append, List.foldl_cons, List.foldl_nil]

/-- A tree with another part at a place. -/
def T.put : List Nat → T → T → T
  | [], x, _ => x
  | i :: p, x, .mk k n s A cap l r => .mk k n s A cap (match l[i]? with | some y => l.set i (T.put p x y) | none => l) r

theorem T.put_cons {i : Nat} {p : List Nat} {x : T} {k n : Int} {s : ByteArray} {A : Option Addr} {cap : Nat} {l : List T} {r : Int} {y : T} (h : l[i]? = some y) :
    T.put (i :: p) x (.mk k n s A cap l r) = .mk k n s A cap (l.set i (T.put p x y)) r := by
  simp only [T.put, h]

/-- A value with another part at a place. -/
def V.put : List Int → V → V → V
  | [], x, _ => x
  | i :: p, x, .mk k n s l r => .mk k n s (match l[i.toNat]? with | some y => l.set i.toNat (V.put p x y) | none => l) r

theorem V.put_cons {i : Int} {p : List Int} {x : V} {k n : Int} {s : ByteArray} {l : List V} {r : Int} {y : V} (h : l[i.toNat]? = some y) :
    V.put (i :: p) x (.mk k n s l r) = .mk k n s (l.set i.toNat (V.put p x y)) r := by
  simp only [V.put, h]

theorem T.put_v (p : List Nat) (x : T) : ∀ t : T, (T.put p x t).v = V.put (p.map fun i : Nat => (i : Int)) x.v t.v := by
  induction p with
  | nil => intro t; rfl
  | cons i p ih =>
    intro t
    cases t with
    | mk k n s A cap l r =>
      rw [T.v_mk, List.map_cons]
      cases h : l[i]? with
      | none => simp only [T.put, V.put, h, T.v_mk, Int.toNat_natCast, List.getElem?_map, Option.map_none]
      | some y =>
        rw [T.put_cons h, V.put_cons (y := y.v) (by rw [Int.toNat_natCast, List.getElem?_map, h]; rfl), T.v_mk, List.map_set, ih, Int.toNat_natCast]

/-- A row in which one part has turned. -/
theorem perm_set {l : List T} {i : Nat} {y x : T} (h : l[i]? = some y) : ∀ b, b ∈ ((l.set i x).map T.blocks).flatten → b ∈ x.blocks ∨ ∃ j z, j ≠ i ∧ l[j]? = some z ∧ b ∈ z.blocks := by
  intro b hb
  obtain ⟨L, hL, hb⟩ := List.mem_flatten.1 hb
  obtain ⟨z, hz, rfl⟩ := List.mem_map.1 hL
  obtain ⟨j, hj, rfl⟩ := List.mem_iff_getElem.1 hz
  rw [List.getElem_set] at hb
  split at hb
  · exact .inl hb
  · rename_i hne
    rw [List.length_set] at hj
    exact .inr ⟨j, l[j], fun h => hne h.symm, List.getElem?_eq_getElem hj, hb⟩

theorem nodup_set {l : List T} {i : Nat} {y x : T} (h : l[i]? = some y) (hn : (l.map T.blocks).flatten.Nodup) (hx : x.blocks.Nodup) (hd : ∀ b ∈ x.blocks, ∀ j z, j ≠ i → l[j]? = some z → b ∉ z.blocks) : ((l.set i x).map T.blocks).flatten.Nodup := by
  induction l generalizing i with
  | nil => simp at h
  | cons a l ih =>
    rw [List.map_cons, List.flatten_cons, List.nodup_append] at hn
    obtain ⟨n1, n2, n3⟩ := hn
    cases i with
    | zero =>
      rw [List.set_cons_zero, List.map_cons, List.flatten_cons, List.nodup_append]
      refine ⟨hx, n2, fun b hb c hc e => ?_⟩
      subst e
      obtain ⟨L, hL, hc⟩ := List.mem_flatten.1 hc
      obtain ⟨z, hz, rfl⟩ := List.mem_map.1 hL
      obtain ⟨j, hj, rfl⟩ := List.mem_iff_getElem.1 hz
      exact hd b hb (j + 1) l[j] (by omega) (by simp [hj]) hc
    | succ i =>
      simp only [List.getElem?_cons_succ] at h
      rw [List.set_cons_succ, List.map_cons, List.flatten_cons, List.nodup_append]
      refine ⟨n1, ih h n2 (fun b hb j z hj hz => hd b hb (j + 1) z (by omega) (by simpa using hz)), fun b hb c hc e => ?_⟩
      subst e
      rcases perm_set h b hc with h1 | ⟨j, z, hj, hz, h1⟩
      · exact hd b h1 0 a (by omega) rfl hb
      · exact n3 b hb b (List.mem_flatten.2 ⟨_, List.mem_map_of_mem (List.mem_of_getElem? hz), h1⟩) rfl

/-- Five cells written over. -/
def five (w : World) (g o : Nat) (k n : Int) (s : ByteArray) (A : Option Addr) (len cap : Nat) (r : Int) : World :=
  ((((w.setCell ⟨g, o, none⟩ (.int .u8 k)).setCell ⟨g, o + 1, none⟩ (.int .i64 n)).setCell ⟨g, o + 2, none⟩ (.string s)).setCell ⟨g, o + 3, none⟩ (.slice A len cap)).setCell ⟨g, o + 4, none⟩ (.int .i64 r)

theorem five_fr (w : World) (g o : Nat) (k n : Int) (s : ByteArray) (A : Option Addr) (len cap : Nat) (r : Int) : Fr (fun i => i = g) w (five w g o k n s A len cap r) :=
  (Fr.refl (fun i => i = g) w).five (g := g) (fun _ => rfl) o _ _ _ _ _

/-- A part of one's own, stored where a place leads: the tree that is then there. -/
theorem put_store {w : World} {lo hi lo2 hi2 : Nat} {kx nx : Int} {sx : ByteArray} {Ax : Option Addr} {cx : Nat} {lx : List T} {rx : Int} (p : List Nat) :
    ∀ (t : T) (b o : Nat), t.Sp w lo hi → t.blocks.Nodup → b ∉ t.blocks → (∃ y, vAt (p.map fun i : Nat => (i : Int)) t.v = some y) →
      (T.mk kx nx sx Ax cx lx rx).Sp (five w (loc p (b, o) t).1.1 (loc p (b, o) t).1.2 kx nx sx Ax lx.length cx rx) lo2 hi2 → (T.mk kx nx sx Ax cx lx rx).blocks.Nodup → (∀ i ∈ (T.mk kx nx sx Ax cx lx rx).blocks, i ∉ t.blocks) → lo ≤ lo2 → hi ≤ hi2 →
      (T.put p (T.mk kx nx sx Ax cx lx rx) t).Sp (five w (loc p (b, o) t).1.1 (loc p (b, o) t).1.2 kx nx sx Ax lx.length cx rx) lo hi2 ∧ (T.put p (T.mk kx nx sx Ax cx lx rx) t).blocks.Nodup ∧
        (∀ i ∈ (T.put p (T.mk kx nx sx Ax cx lx rx) t).blocks, i ∈ t.blocks ∨ i ∈ (T.mk kx nx sx Ax cx lx rx).blocks) ∧ (p = [] → (loc p (b, o) t).1 = (b, o)) ∧
        (p ≠ [] → (loc p (b, o) t).1.1 ∈ t.blocks ∧ (T.put p (T.mk kx nx sx Ax cx lx rx) t).cells = t.cells) := by
  induction p with
  | nil =>
    intro t b o hsp hnd hb _ hx hxn hxd h0 h1
    exact ⟨T.Sp.more h0 (Nat.le_refl _) _ hx, hxn, fun i hi => .inr hi, fun _ => rfl, fun h => absurd rfl h⟩
  | cons i p ih =>
    intro t b o hsp hnd hb hat hx hxn hxd h0 h1
    cases t with
    | mk k n s A cap l r =>
      rw [T.v_mk, List.map_cons, vAt_cons, if_neg (by omega), Int.toNat_natCast] at hat
      simp only [V.list, List.getElem?_map] at hat
      obtain ⟨fit, h2, h3, h4⟩ := T.sp_mk.1 hsp
      cases hy : l[i]? with
      | none => rw [hy] at hat; obtain ⟨y, hat⟩ := hat; cases hat
      | some y =>
        rw [hy] at hat
        simp only [Option.map_some, Option.bind_some] at hat
        have hmem := List.mem_of_getElem? hy
        have hne : l ≠ [] := by rintro rfl; cases hmem
        obtain ⟨hown, g, rfl, hg⟩ := h3 hne
        have hgl := owns_lt hown g rfl
        rw [loc_cons i p (b, o) k n s ⟨g, 0, none⟩ cap l r y hy] at hx ⊢
        have hgy := sp_child_ne hnd hmem
        have hgb : g ∈ (T.mk k n s (some ⟨g, 0, none⟩) cap l r).blocks := T.mem_blocks hne
        have hyd : ∀ q ∈ (T.mk kx nx sx Ax cx lx rx).blocks, q ∉ y.blocks := fun q hq h => hxd q hq (T.sub_blocks hmem h)
        obtain ⟨e1, e2, e3, e4, e5⟩ := ih y g (i * 5) (h4 y hmem) (sp_child_nodup hnd hmem) hgy hat hx hxn hyd h0 h1
        have hi := (List.getElem?_eq_some_iff.1 hy).1
        have hyi : l[i] = y := (List.getElem?_eq_some_iff.1 hy).2
        rw [T.put_cons hy]
        generalize hL : loc p (g, i * 5) y = L at *
        have F := five_fr w L.1.1 L.1.2 kx nx sx Ax lx.length cx rx
        have hLb : L.1.1 = g ∨ L.1.1 ∈ y.blocks := by
          by_cases hp : p = []
          · rw [e4 hp]; exact .inl rfl
          · exact .inr (e5 hp).1
        have hrow : (five w L.1.1 L.1.2 kx nx sx Ax lx.length cx rx).ownsRow lo 27 5 (.slice (some ⟨g, 0, none⟩) l.length cap) l.length (rowCells (l.set i (T.put p (T.mk kx nx sx Ax cx lx rx) y))) := by
          by_cases hp : p = []
          · subst hp
            rw [e4 rfl]
            exact owns_set5 hown rfl hi kx nx sx Ax cx lx rx
          · rw [row_set_same hy (e5 hp).2]
            refine owns_fr hown F fun g' hg' h => ?_
            simp [Value.ownBlock] at hg'
            subst hg'
            have h' : g = L.1.1 := h
            exact hgy (h' ▸ (e5 hp).1)
        have hsib : ∀ j (hj : j < l.length), j ≠ i → l[j].Sp (five w L.1.1 L.1.2 kx nx sx Ax lx.length cx rx) lo hi2 := fun j hj hji => by
          refine T.Sp.more (Nat.le_refl _) h1 _ (T.Sp.fr F _ (fun q hq h => ?_) (h4 _ (List.getElem_mem hj)))
          have h' : q = L.1.1 := h
          rcases hLb with hb' | hb'
          · rw [h', hb'] at hq
            exact sp_child_ne hnd (List.getElem_mem hj) hq
          · rw [← h', ← hyi] at hb'
            rcases Nat.lt_or_gt_of_ne hji with hlt | hgt
            · exact sp_child_far hnd hj hi hlt hb' hq
            · exact sp_child_far hnd hi hj hgt hq hb'
        have hfl : (l.map T.blocks).flatten.Nodup := by
          rw [T.blocks_mk, List.nodup_append] at hnd
          exact hnd.2.1
        have hpd : ∀ q ∈ (T.put p (T.mk kx nx sx Ax cx lx rx) y).blocks, ∀ j z, j ≠ i → l[j]? = some z → q ∉ z.blocks := fun q hq j z hji hz hqz => by
          obtain ⟨hj, rfl⟩ := List.getElem?_eq_some_iff.1 hz
          rcases e3 q hq with h | h
          · rw [← hyi] at h
            rcases Nat.lt_or_gt_of_ne hji with hlt | hgt
            · exact sp_child_far hnd hj hi hlt h hqz
            · exact sp_child_far hnd hi hj hgt hqz h
          · exact hxd q h (T.sub_blocks (List.getElem_mem hj) hqz)
        have hne2 : l.set i (T.put p (T.mk kx nx sx Ax cx lx rx) y) ≠ [] := by simpa using hne
        have hblk : (T.mk k n s (some ⟨g, 0, none⟩) cap (l.set i (T.put p (T.mk kx nx sx Ax cx lx rx) y)) r).blocks = g :: ((l.set i (T.put p (T.mk kx nx sx Ax cx lx rx) y)).map T.blocks).flatten := by
          rw [T.blocks_mk]
          cases hq : l.set i (T.put p (T.mk kx nx sx Ax cx lx rx) y) with
          | nil => exact absurd hq hne2
          | cons => rfl
        have hin : ∀ q ∈ (T.mk k n s (some ⟨g, 0, none⟩) cap (l.set i (T.put p (T.mk kx nx sx Ax cx lx rx) y)) r).blocks, q ∈ (T.mk k n s (some ⟨g, 0, none⟩) cap l r).blocks ∨ q ∈ (T.mk kx nx sx Ax cx lx rx).blocks := fun q hq => by
          rw [hblk] at hq
          rcases List.mem_cons.1 hq with rfl | hq
          · exact .inl hgb
          · rcases perm_set hy q hq with h | ⟨j, z, _, hz, h⟩
            · rcases e3 q h with h | h
              · exact .inl (T.sub_blocks hmem h)
              · exact .inr h
            · exact .inl (T.sub_blocks (List.mem_of_getElem? hz) h)
        refine ⟨?_, ?_, hin, fun h => (by cases h), fun _ => ⟨?_, ?_⟩⟩
        · refine T.sp_mk.2 ⟨by simpa using fit, fun h => absurd h hne2, fun _ => ⟨by simpa using hrow, g, rfl, by omega⟩, fun z hz => ?_⟩
          obtain ⟨j, hj, rfl⟩ := List.mem_iff_getElem.1 hz
          rw [List.getElem_set]
          split
          · exact e1
          · rename_i hne3
            exact hsib j (by simpa using hj) (fun h => hne3 h.symm)
        · rw [hblk, List.nodup_cons]
          refine ⟨fun h => ?_, nodup_set hy hfl e2 hpd⟩
          rcases perm_set hy g h with h | ⟨j, z, _, hz, h⟩
          · rcases e3 g h with h | h
            · exact hgy h
            · exact hxd g h hgb
          · exact sp_child_ne hnd (List.mem_of_getElem? hz) h
        · rcases hLb with h | h
          · rw [h]; exact hgb
          · exact T.sub_blocks hmem h
        · simp [T.cells]

end Go.Proofs.Ytihjmipmjogpoaa

/- Chapter 2: two values lent in one statement: where the statement stands, whichever operations have come up. -/
namespace Go.Proofs.Ytihjmipmjogpoaa
open Go.RowKit

/-- A block of five cells. -/
def Five5 (w : World) (g : Nat) : Prop := ∃ c0 c1 c2 c3 c4, Blk w g 27 #[c0, c1, c2, c3, c4]

theorem Five5.fr {S : Nat → Prop} {w w' : World} {g : Nat} (h : Five5 w g) (f : Fr S w w') (hs : ¬ S g) : Five5 w' g := by
  obtain ⟨c0, c1, c2, c3, c4, hb⟩ := h
  exact ⟨c0, c1, c2, c3, c4, hb.fr f hs⟩

/-- Lent, in a world behind w3. -/
structure LB (w3 w : World) (t : T) : Prop where
  inn : t.In w w3.heap.size w.heap.size
  mrk : t.Mk w

theorem LB.fr {S : Nat → Prop} {w3 w w' : World} {t : T} (h : LB w3 w t) (f : Fr S w w') (hs : ∀ b ∈ t.blocks, ¬ S b) : LB w3 w' t :=
  ⟨T.In.more (Nat.le_refl _) f.size _ (In.fr_blocks f (Nat.le_refl _) _ hs h.inn), T.Mk.fr f (Nat.le_refl _) _ h.inn hs h.mrk⟩

structure J2 (w3 : World) (v x : T) (f : Nat → Bool) (x7 x8 x31 x32 x33 x34 : Value) (t4 t5 : T) (g7 g8 : Nat) (w : World) : Prop where
  fr : Fr No w3 w
  l31 : f 0 = true → x31 = v.val
  l33 : f 2 = true → x33 = x.val
  c4 : f 1 = true → x32 = t4.val ∧ t4.v = v.v ∧ LB w3 w t4
  c5 : f 3 = true → x34 = t5.val ∧ t5.v = x.v ∧ LB w3 w t5
  a7 : f 4 = true → x7 = .pointer (some ⟨g7, 0, none⟩) ∧ w3.heap.size ≤ g7 ∧ Five5 w g7
  a8 : f 5 = true → x8 = .pointer (some ⟨g8, 0, none⟩) ∧ w3.heap.size ≤ g8 ∧ Five5 w g8
  s7 : f 6 = true → f 4 = true ∧ f 1 = true ∧ Blk w g7 27 t4.cells.toArray
  s8 : f 7 = true → f 5 = true ∧ f 3 = true ∧ Blk w g8 27 t5.cells.toArray
  n74 : f 4 = true → f 1 = true → g7 ∉ t4.blocks
  n75 : f 4 = true → f 3 = true → g7 ∉ t5.blocks
  n84 : f 5 = true → f 1 = true → g8 ∉ t4.blocks
  n85 : f 5 = true → f 3 = true → g8 ∉ t5.blocks
  n78 : f 4 = true → f 5 = true → g7 ≠ g8

theorem J2.begin {w3 : World} {v x : T} {x7 x8 x31 x32 x33 x34 : Value} : J2 w3 v x (fun _ => false) x7 x8 x31 x32 x33 x34 v x 0 0 w3.drew :=
  ⟨(Fr.refl No w3).drew, nofun, nofun, nofun, nofun, nofun, nofun, nofun, nofun, nofun, nofun, nofun, nofun, nofun⟩

theorem Five5.lt {w : World} {g : Nat} (h : Five5 w g) : g < w.heap.size := by
  obtain ⟨c0, c1, c2, c3, c4, hb⟩ := h
  exact hb.lt

section
variable {w3 w : World} {v x : T} {f : Nat → Bool} {x7 x8 x31 x32 x33 x34 : Value} {t4 t5 : T} {g7 g8 : Nat}

theorem J2.load31 (h : J2 w3 v x f x7 x8 x31 x32 x33 x34 t4 t5 g7 g8 w) : J2 w3 v x (upd f 0) x7 x8 v.val x32 x33 x34 t4 t5 g7 g8 w :=
  ⟨h.fr, fun _ => rfl, h.l33, h.c4, h.c5, h.a7, h.a8, h.s7, h.s8, h.n74, h.n75, h.n84, h.n85, h.n78⟩

theorem J2.load33 (h : J2 w3 v x f x7 x8 x31 x32 x33 x34 t4 t5 g7 g8 w) : J2 w3 v x (upd f 2) x7 x8 x31 x32 x.val x34 t4 t5 g7 g8 w :=
  ⟨h.fr, h.l31, fun _ => rfl, h.c4, h.c5, h.a7, h.a8, h.s7, h.s8, h.n74, h.n75, h.n84, h.n85, h.n78⟩

theorem J2.call4 (h : J2 w3 v x f x7 x8 x31 x32 x33 x34 t4 t5 g7 g8 w) (hf : f 1 = false) {t' : T} {w' : World} (hv : t'.v = v.v) (hin : t'.In w' w.heap.size w'.heap.size) (hmk : t'.Mk w') (fr : Fr No w w') :
    J2 w3 v x (upd f 1) x7 x8 x31 t'.val x33 x34 t' t5 g7 g8 w' := by
  have hs := h.fr.size
  have h6 : f 6 = true → False := fun h' => by have := (h.s7 h').2.1; rw [hf] at this; cases this
  refine ⟨h.fr.trans fr, h.l31, h.l33, fun _ => ⟨rfl, hv, T.In.more hs (Nat.le_refl _) _ hin, hmk⟩, fun h' => ⟨(h.c5 h').1, (h.c5 h').2.1, (h.c5 h').2.2.fr fr fun _ _ h => h⟩, fun h' => ⟨(h.a7 h').1, (h.a7 h').2.1, (h.a7 h').2.2.fr fr fun h => h⟩, fun h' => ⟨(h.a8 h').1, (h.a8 h').2.1, (h.a8 h').2.2.fr fr fun h => h⟩,
    fun h' => (h6 h').elim, fun h' => ⟨(h.s8 h').1, (h.s8 h').2.1, (h.s8 h').2.2.fr fr fun h => h⟩, fun h' _ hb => ?_, h.n75, fun h' _ hb => ?_, h.n85, h.n78⟩
  · have := (h.a7 h').2.2.lt
    have := T.In.blocks _ hin _ hb
    omega
  · have := (h.a8 h').2.2.lt
    have := T.In.blocks _ hin _ hb
    omega

theorem J2.call5 (h : J2 w3 v x f x7 x8 x31 x32 x33 x34 t4 t5 g7 g8 w) (hf : f 3 = false) {t' : T} {w' : World} (hv : t'.v = x.v) (hin : t'.In w' w.heap.size w'.heap.size) (hmk : t'.Mk w') (fr : Fr No w w') :
    J2 w3 v x (upd f 3) x7 x8 x31 x32 x33 t'.val t4 t' g7 g8 w' := by
  have hs := h.fr.size
  have h7 : f 7 = true → False := fun h' => by have := (h.s8 h').2.1; rw [hf] at this; cases this
  refine ⟨h.fr.trans fr, h.l31, h.l33, fun h' => ⟨(h.c4 h').1, (h.c4 h').2.1, (h.c4 h').2.2.fr fr fun _ _ h => h⟩, fun _ => ⟨rfl, hv, T.In.more hs (Nat.le_refl _) _ hin, hmk⟩, fun h' => ⟨(h.a7 h').1, (h.a7 h').2.1, (h.a7 h').2.2.fr fr fun h => h⟩, fun h' => ⟨(h.a8 h').1, (h.a8 h').2.1, (h.a8 h').2.2.fr fr fun h => h⟩,
    fun h' => ⟨(h.s7 h').1, (h.s7 h').2.1, (h.s7 h').2.2.fr fr fun h => h⟩, fun h' => (h7 h').elim, h.n74, fun h' _ hb => ?_, h.n84, fun h' _ hb => ?_, h.n78⟩
  · have := (h.a7 h').2.2.lt
    have := T.In.blocks _ hin _ hb
    omega
  · have := (h.a8 h').2.2.lt
    have := T.In.blocks _ hin _ hb
    omega

theorem J2.alloc7 (h : J2 w3 v x f x7 x8 x31 x32 x33 x34 t4 t5 g7 g8 w) (hf : f 4 = false) (c0 c1 c2 c3 c4 : Value) :
    J2 w3 v x (upd f 4) (.pointer (some ⟨w.heap.size, 0, none⟩)) x8 x31 x32 x33 x34 t4 t5 w.heap.size g8 (w.alloc (.cells #[c0, c1, c2, c3, c4] 27)) := by
  have hs := h.fr.size
  have fr := (Fr.refl No w).alloc (.cells #[c0, c1, c2, c3, c4] 27)
  have h6 : f 6 = true → False := fun h' => by have := (h.s7 h').1; rw [hf] at this; cases this
  refine ⟨h.fr.trans fr, h.l31, h.l33, fun h' => ⟨(h.c4 h').1, (h.c4 h').2.1, (h.c4 h').2.2.fr fr fun _ _ h => h⟩, fun h' => ⟨(h.c5 h').1, (h.c5 h').2.1, (h.c5 h').2.2.fr fr fun _ _ h => h⟩, fun _ => ⟨rfl, hs, _, _, _, _, _, Blk.new w 27 _⟩, fun h' => ⟨(h.a8 h').1, (h.a8 h').2.1, (h.a8 h').2.2.fr fr fun h => h⟩,
    fun h' => (h6 h').elim, fun h' => ⟨(h.s8 h').1, (h.s8 h').2.1, (h.s8 h').2.2.fr fr fun h => h⟩, fun _ h' hb => ?_, fun _ h' hb => ?_, h.n84, h.n85, fun _ h' e => ?_⟩
  · have := T.In.blocks _ (h.c4 h').2.2.inn _ hb; omega
  · have := T.In.blocks _ (h.c5 h').2.2.inn _ hb; omega
  · have := (h.a8 h').2.2.lt; omega

theorem J2.alloc8 (h : J2 w3 v x f x7 x8 x31 x32 x33 x34 t4 t5 g7 g8 w) (hf : f 5 = false) (c0 c1 c2 c3 c4 : Value) :
    J2 w3 v x (upd f 5) x7 (.pointer (some ⟨w.heap.size, 0, none⟩)) x31 x32 x33 x34 t4 t5 g7 w.heap.size (w.alloc (.cells #[c0, c1, c2, c3, c4] 27)) := by
  have hs := h.fr.size
  have fr := (Fr.refl No w).alloc (.cells #[c0, c1, c2, c3, c4] 27)
  have h7 : f 7 = true → False := fun h' => by have := (h.s8 h').1; rw [hf] at this; cases this
  refine ⟨h.fr.trans fr, h.l31, h.l33, fun h' => ⟨(h.c4 h').1, (h.c4 h').2.1, (h.c4 h').2.2.fr fr fun _ _ h => h⟩, fun h' => ⟨(h.c5 h').1, (h.c5 h').2.1, (h.c5 h').2.2.fr fr fun _ _ h => h⟩, fun h' => ⟨(h.a7 h').1, (h.a7 h').2.1, (h.a7 h').2.2.fr fr fun h => h⟩, fun _ => ⟨rfl, hs, _, _, _, _, _, Blk.new w 27 _⟩,
    fun h' => ⟨(h.s7 h').1, (h.s7 h').2.1, (h.s7 h').2.2.fr fr fun h => h⟩, fun h' => (h7 h').elim, h.n74, h.n75, fun _ h' hb => ?_, fun _ h' hb => ?_, fun h' _ e => ?_⟩
  · have := T.In.blocks _ (h.c4 h').2.2.inn _ hb; omega
  · have := T.In.blocks _ (h.c5 h').2.2.inn _ hb; omega
  · have := (h.a7 h').2.2.lt; omega

theorem J2.store7 {k n : Int} {s : ByteArray} {A : Option Addr} {cap : Nat} {l : List T} {r : Int} (h : J2 w3 v x f x7 x8 x31 x32 x33 x34 (T.mk k n s A cap l r) t5 g7 g8 w) (h4 : f 4 = true) (h1 : f 1 = true) :
    J2 w3 v x (upd f 6) x7 x8 x31 x32 x33 x34 (T.mk k n s A cap l r) t5 g7 g8 (five w g7 0 k n s A l.length cap r) := by
  have fr := five_fr w g7 0 k n s A l.length cap r
  obtain ⟨e7, h37, c0, c1, c2, c3, c4, hb⟩ := h.a7 h4
  have hb' := (sets5v w g7 27 c0 c1 c2 c3 c4 (.int .u8 k) (.int .i64 n) (.string s) (.slice A l.length cap) (.int .i64 r) hb).1
  have hne : ∀ {t : T}, g7 ∉ t.blocks → ∀ b ∈ t.blocks, ¬ b = g7 := fun h b hb e => h (e ▸ hb)
  refine ⟨h.fr.trans' fr fun i hi e => by have e' : i = g7 := e; omega, h.l31, h.l33, fun h' => ⟨(h.c4 h').1, (h.c4 h').2.1, (h.c4 h').2.2.fr fr (hne (h.n74 h4 h'))⟩, fun h' => ⟨(h.c5 h').1, (h.c5 h').2.1, (h.c5 h').2.2.fr fr (hne (h.n75 h4 h'))⟩,
    fun _ => ⟨e7, h37, _, _, _, _, _, hb'⟩, fun h' => ⟨(h.a8 h').1, (h.a8 h').2.1, (h.a8 h').2.2.fr fr fun e => h.n78 h4 h' e.symm⟩, fun _ => ⟨h4, h1, hb'⟩,
    fun h' => ⟨(h.s8 h').1, (h.s8 h').2.1, (h.s8 h').2.2.fr fr fun e => h.n78 h4 (h.s8 h').1 e.symm⟩, h.n74, h.n75, h.n84, h.n85, h.n78⟩

theorem J2.store8 {k n : Int} {s : ByteArray} {A : Option Addr} {cap : Nat} {l : List T} {r : Int} (h : J2 w3 v x f x7 x8 x31 x32 x33 x34 t4 (T.mk k n s A cap l r) g7 g8 w) (h5 : f 5 = true) (h3 : f 3 = true) :
    J2 w3 v x (upd f 7) x7 x8 x31 x32 x33 x34 t4 (T.mk k n s A cap l r) g7 g8 (five w g8 0 k n s A l.length cap r) := by
  have fr := five_fr w g8 0 k n s A l.length cap r
  obtain ⟨e8, h38, c0, c1, c2, c3, c4, hb⟩ := h.a8 h5
  have hb' := (sets5v w g8 27 c0 c1 c2 c3 c4 (.int .u8 k) (.int .i64 n) (.string s) (.slice A l.length cap) (.int .i64 r) hb).1
  have hne : ∀ {t : T}, g8 ∉ t.blocks → ∀ b ∈ t.blocks, ¬ b = g8 := fun h b hb e => h (e ▸ hb)
  refine ⟨h.fr.trans' fr fun i hi e => by have e' : i = g8 := e; omega, h.l31, h.l33, fun h' => ⟨(h.c4 h').1, (h.c4 h').2.1, (h.c4 h').2.2.fr fr (hne (h.n84 h5 h'))⟩, fun h' => ⟨(h.c5 h').1, (h.c5 h').2.1, (h.c5 h').2.2.fr fr (hne (h.n85 h5 h'))⟩,
    fun h' => ⟨(h.a7 h').1, (h.a7 h').2.1, (h.a7 h').2.2.fr fr (h.n78 h' h5)⟩, fun _ => ⟨e8, h38, _, _, _, _, _, hb'⟩,
    fun h' => ⟨(h.s7 h').1, (h.s7 h').2.1, (h.s7 h').2.2.fr fr (h.n78 (h.s7 h').1 h5)⟩, fun _ => ⟨h5, h3, hb'⟩, h.n74, h.n75, h.n84, h.n85, h.n78⟩
end

end Go.Proofs.Ytihjmipmjogpoaa

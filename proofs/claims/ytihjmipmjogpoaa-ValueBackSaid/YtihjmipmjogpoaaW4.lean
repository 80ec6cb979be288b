/- Chapter 2: value.Bytes. -/
import Derived.Test.YtihjmipmjogpoaaW3
namespace Go.Proofs.Ytihjmipmjogpoaa
open Go.RowKit

theorem enc_length (v : V) : v.ok = true → v.enc.length ≤ 259 * v.size := by
  induction v using V.ind with
  | h k n s l r ih =>
    intro hok
    rw [V.ok_mk, Bool.and_eq_true] at hok
    obtain ⟨hf, hall⟩ := hok
    rw [V.enc_mk, V.size_mk, List.length_cons]
    have hsum : ((l.map V.enc).flatten).length ≤ 259 * (l.map V.size).sum := by
      clear hf
      induction l with
      | nil => simp
      | cons x l ih2 =>
        simp only [List.all_cons, Bool.and_eq_true] at hall
        have h1 := ih x (by simp) hall.1
        have h2 := ih2 (fun y hy => ih y (by simp [hy])) hall.2
        simp only [List.map_cons, List.flatten_cons, List.length_append, List.sum_cons]
        omega
    by_cases h1 : k = 1
    · rw [if_pos h1, hiB_length]; omega
    rw [if_neg h1]
    by_cases h2 : k = 2
    · rw [if_pos h2, List.length_append, hiB_length, strB_length]
      subst h2
      simp [fok] at hf
      omega
    rw [if_neg h2]
    by_cases h3 : k = 3
    · rw [if_pos h3, List.length_append, hiB_length]; omega
    rw [if_neg h3]
    by_cases h4 : k = 4
    · rw [if_pos h4, hiB_length]; omega
    · rw [if_neg h4]; simp; omega

theorem enc_pos (v : V) : 0 < v.enc.length := by
  cases v; rw [V.enc_mk]; simp

theorem conv_owned {w : World} {base : Nat} {A : Option Addr} {cap : Nat} {L : List Nat} (h : w.ownsRow base 5 1 (.slice A L.length cap) L.length (byteCells L)) (hne : 0 < L.length) :
    (convert 151 9 (.slice A L.length cap)).run Try.prog w = .ok (.string (strOfNums (L.map fun (x : Nat) => (x : Int)))) w := by
  obtain ⟨g, rfl, hg, hc⟩ := owns_cells (f := fun (x : Nat) => Value.int .u8 (x : Int)) h hne
  refine run_convert_bytes_arg w 151 5 Try.underlying151 Try.underlying5 g 0 L.length cap (L.map fun (x : Nat) => (x : Int)) (by simp) (fun i hi => ?_) 9 Try.underlying9
  rw [Nat.zero_add, hc i L[i] (List.getElem?_eq_getElem hi)]
  simp [List.getD, List.getElem?_eq_getElem hi]

set_option maxRecDepth 100000 in
set_option maxHeartbeats 4000000 in
theorem Bytes_any (t : T) (w : World) (lo hi : Nat) (ht : t.In w lo hi) (hh : hi ≤ w.heap.size) : Calls Try.prog 46 #[t.val] w (BytesP t.v w) := by
  have hM := fun w' h h' => may_any t w' lo hi h h'
  have hR := fun w' h h' => Refs_any t w' lo hi h h'
  have hWr := write_any t
  cases t with
  | mk k n s A cap l r =>
    rw [T.val_mk] at *
    generalize hu : (T.mk k n s A cap l r).v = u at *
    have fr1 := (Fr.refl No w).alloc (.cells #[.int .u8 k, .int .i64 n, .string s, .slice A l.length cap, .int .i64 r] 27)
    have hK := Blk.new' w 27 #[.int .u8 k, .int .i64 n, .string s, .slice A l.length cap, .int .i64 r] rfl
    have ht1 := ht.no fr1 hh
    have hs1 := Nat.le_trans hh fr1.size
    have HU := hide hu
    clear hu ht
    cases hm : u.may with
    | false =>
      have hP : ∀ w', Fr No w w' → BytesP u w (.returned (.tuple #[.string ⟨#[]⟩, .int .i64 2])) w' := fun w' f => ⟨f, (fun h => absurd h.1 (by rw [hm]; simp)), fun _ => rfl⟩
      have HP := hide hP
      rw [hm] at hM
      clear hm hP hWr hR
      go_enter Try.func46, Try.ntmps46
      go_wp2_with fail
      refine (hM _ ht1 hs1).mono ?_
      rintro e w2 ⟨rfl, fr2⟩
      go_wp2
      go_ret2
      exact HP.out _ (fr1.trans fr2)
    | true =>
      have hok := may_ok hm
      have hsz : u.size ≤ 512 := by simp [V.may, V.fits] at hm; omega
      have hrl : u.refs.length ≤ 1000000 := by
        have h1 := refsOf_length (u.walk [])
        rw [walk_length] at h1
        have : u.refs = refsOf (u.walk []) := by simp [V.refs, hm]
        rw [this]; omega
      have hel := enc_length u hok
      have HMM := hide hm
      rw [hm] at hM
      clear hm
      go_enter Try.func46, Try.ntmps46
      go_wp2_with fail
      generalize World.alloc w _ = W0 at *
      refine (hM _ ht1 hs1).mono ?_
      rintro e w2 ⟨rfl, fr2⟩
      have hK2 := hK.fr fr2 fun h => h
      obtain ⟨c0, c1, c2, c3, c4, cf⟩ := hK2.cells5
      have ht2 := ht1.no fr2 hs1
      have hs2 := Nat.le_trans hs1 fr2.size
      have HF2 := hide (fr1.trans fr2)
      clear fr1 fr2 hK hM
      go_wp2_with fail
      refine (hR _ ht2 hs2).mono ?_
      rintro e w3 ⟨vr, rfl, hor, fr3⟩
      obtain ⟨Ar, cr, rfl⟩ := owns_form hor
      have hC := contains_any Ar cr u.refs w2.heap.size w3 hrl hor
      have hK3 := hK2.fr fr3 fun h => h
      have ht3 := ht2.no fr3 hs2
      have hs3 := Nat.le_trans hs2 fr3.size
      have HF3 := hide (HF2.out.trans fr3)
      clear c0 c1 c2 c3 c4 cf hor fr3 hK2 hR
      go_wp2_with fail
      refine hC.mono ?_
      rintro e w4 ⟨⟨q, rfl, hq⟩, fr4⟩
      have hK4 := hK3.fr fr4 fun h => h
      obtain ⟨c0, c1, c2, c3, c4, cf⟩ := hK4.cells5
      have ht4 := ht3.no fr4 hs3
      have hs4 := Nat.le_trans hs3 fr4.size
      have HF4 := hide (HF3.out.trans fr4)
      have HQ := hide hq
      clear fr4 hq hK3 hC
      cases q with
      | true =>
        have hP : ∀ w', Fr No w w' → BytesP u w (.returned (.tuple #[.string ⟨#[]⟩, .int .i64 2])) w' := fun w' f => ⟨f, (fun h => by
          obtain ⟨r, hr, hb⟩ := HQ.out.1 rfl
          have := h.2 r hr
          omega), fun _ => rfl⟩
        have HP := hide hP
        clear hP
        go_wp2
        go_ret2
        exact HP.out _ HF4.out
      | false =>
        have hhas : u.hasBytes := ⟨HMM.out, fun r hr => by
          rcases Int.lt_or_le 4294967295 r with h | h
          · exact absurd (HQ.out.2 ⟨r, hr, h⟩) (by simp)
          · exact h⟩
        have hw := hWr (.slice none 0 0) [] w4.heap.size w4 lo hi ht4 hs4 (Nat.le_refl _) hok (World.ownsRow_nil _ _ _ _) (by simp; omega)
        have HW := hide hw
        have HH := hide hhas
        clear hw hhas hWr
        go_wp2_with fail
        refine HW.out.mono ?_
        rintro e w5 ⟨v5, rfl, ho5, f5⟩
        rw [List.nil_append] at ho5
        obtain ⟨A5, c5, rfl⟩ := owns_form ho5
        have hcv := conv_owned ho5 (enc_pos u)
        have f6 : Fr No w w5 := HF4.out.trans' f5 fun i hi h => by have := HF4.out.size; have := h.1; omega
        have HF6 := hide f6
        clear ho5 f5 f6 c0 c1 c2 c3 c4 cf hK4
        go_wp2
        go_ret2
        exact ⟨HF6.out, fun _ => rfl, fun h => absurd HH.out h⟩

end Go.Proofs.Ytihjmipmjogpoaa

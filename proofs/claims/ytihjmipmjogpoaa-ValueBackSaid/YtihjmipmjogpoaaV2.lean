/- Plain laws on values: what compares as equal is the same; which values may be. -/
import Derived.Test.YtihjmipmjogpoaaK3
namespace Go.Proofs.Ytihjmipmjogpoaa
open Go.RowKit

theorem bytes_ext {a b : ByteArray} (h : a.toList = b.toList) : a = b := by
  rw [ByteArray.toList_eq, ByteArray.toList_eq] at h
  exact Go.WideShapes.bytes_inj h

theorem fok_kind {k n : Int} {s : ByteArray} {len : Nat} {r : Int} (h : fok k n s len r = true) : k = 0 ∨ k = 1 ∨ k = 2 ∨ k = 3 ∨ k = 4 := by
  unfold fok at h
  by_cases h0 : k = 0
  · simp [h0]
  by_cases h1 : k = 1
  · simp [h1]
  by_cases h2 : k = 2
  · simp [h2]
  by_cases h3 : k = 3
  · simp [h3]
  by_cases h4 : k = 4
  · simp [h4]
  simp [h0, h1, h2, h3, h4] at h

theorem shp_eq {k k' : Int} {a b : Nat} (hk : k = 0 ∨ k = 1 ∨ k = 2 ∨ k = 3 ∨ k = 4) (hk' : k' = 0 ∨ k' = 1 ∨ k' = 2 ∨ k' = 3 ∨ k' = 4) (h : shp k a = shp k' b) : k = k' ∧ (k = 3 → (a = 2 ↔ b = 2)) := by
  unfold shp at h
  by_cases ha : a = 2 <;> by_cases hb : b = 2 <;> rcases hk with rfl | rfl | rfl | rfl | rfl <;> rcases hk' with rfl | rfl | rfl | rfl | rfl <;> simp [ha, hb] at h ⊢

/-- What compares as equal is the same. -/
theorem cmp_eq (u : V) : ∀ v : V, u.ok = true → v.ok = true → u.cmp v = 1 → u = v := by
  induction u using V.ind with
  | h k n s l r ih =>
    intro v hu hv hc
    cases v with
    | mk k' n' s' l' r' =>
      rw [V.ok_mk] at hu hv
      simp only [Bool.and_eq_true] at hu hv
      obtain ⟨fu, au⟩ := hu
      obtain ⟨fv, av⟩ := hv
      rw [V.cmp_mk, cmpOf] at hc
      simp only [List.length_map] at hc
      by_cases hs : shp k l.length = shp k' l'.length
      · rw [if_pos hs] at hc
        obtain ⟨rfl, hl3⟩ := shp_eq (fok_kind fu) (fok_kind fv) hs
        by_cases h3 : k = 3
        · subst h3
          rw [if_pos rfl] at hc
          by_cases hl : l.length = 2
          · obtain ⟨a, b, rfl⟩ := at2 hl
            obtain ⟨a', b', rfl⟩ := at2 ((hl3 rfl).1 hl)
            have hc' : (if a.cmp a' = 1 then b.cmp b' else a.cmp a') = 1 := hc
            by_cases ha : a.cmp a' = 1
            · rw [if_pos ha] at hc'
              simp at au av
              have e1 := ih a (by simp) a' au.1 av.1 ha
              have e2 := ih b (by simp) b' au.2 av.2 hc'
              subst e1 e2
              simp [fok] at fu fv
              have e3 : s = s' := bytes_ext (fu.1.2.trans fv.1.2.symm)
              subst e3
              rw [fu.1.1, fv.1.1, fu.2, fv.2]
            · rw [if_neg ha] at hc'; exact absurd hc' ha
          · exfalso
            have hp : pairCmp (l.map V.cmp) l' = 2 := by
              match l, hl with
              | [], _ => rfl
              | [a], _ => rfl
              | [a, b], hl => simp at hl
              | a :: b :: c :: l, _ => rfl
            rw [hp] at hc; cases hc
        · rw [if_neg h3] at hc
          have hl0 : l = [] := List.eq_nil_of_length_eq_zero (fok_len h3 fu)
          have hl0' : l' = [] := List.eq_nil_of_length_eq_zero (fok_len h3 fv)
          subst hl0 hl0'
          have he : leafEq k n s r n' s' r' = true := by
            cases hq : leafEq k n s r n' s' r' with
            | true => rfl
            | false => rw [hq] at hc; simp at hc
          rcases fok_kind fu with rfl | rfl | rfl | rfl | rfl
          · simp [fok] at fu fv
            have e3 : s = s' := bytes_ext (fu.1.2.trans fv.1.2.symm)
            rw [fu.1.1, fv.1.1, fu.2, fv.2, e3]
          · simp [fok] at fu fv
            simp [leafEq] at he
            have e3 : s = s' := bytes_ext (fu.1.trans fv.1.symm)
            rw [fu.2, fv.2, e3, he]
          · simp [fok] at fu fv
            simp [leafEq] at he
            rw [fu.1.2, fv.1.2, fu.2, fv.2, bytes_ext he]
          · exact absurd rfl h3
          · simp [fok] at fu fv
            simp [leafEq] at he
            have e3 : s = s' := bytes_ext (fu.2.trans fv.2.symm)
            rw [fu.1.2, fv.1.2, e3, he]
      · rw [if_neg hs] at hc; cases hc

theorem may_ok {v : V} (h : v.may = true) : v.ok = true := by
  simp [V.may, V.fits] at h; exact h.1.1

/-- Of two that may be, the first without a row: equal just if the same. -/
theorem cmp_iff {u v : V} (hu : u.may = true) (hv : v.may = true) (hk : u.keys = true) : u.cmp v = 1 ↔ u = v :=
  ⟨cmp_eq u v (may_ok hu) (may_ok hv), fun h => by subst h; rw [cmp_self, if_pos hk]⟩

theorem pos_some {u : V} (hu : u.may = true) (hk : u.keys = true) : ∀ {vs : List V} {i : Nat}, (∀ v ∈ vs, v.may = true) → pos u vs = some i → vs[i]? = some u
  | [], i, _, h => by simp [pos] at h
  | v :: vs, i, hm, h => by
    unfold pos at h
    by_cases hc : u.cmp v = 1
    · rw [if_pos hc] at h; simp at h; subst h
      rw [(cmp_iff hu (hm v (by simp)) hk).1 hc]; rfl
    · rw [if_neg hc] at h
      simp at h
      obtain ⟨j, hj, rfl⟩ := h
      show vs[j]? = some u
      exact pos_some hu hk (fun v hv => hm v (by simp [hv])) hj

theorem pos_none {u : V} (hu : u.may = true) (hk : u.keys = true) : ∀ {vs : List V}, (∀ v ∈ vs, v.may = true) → pos u vs = none → u ∉ vs
  | [], _, _ => by simp
  | v :: vs, hm, h => by
    unfold pos at h
    by_cases hc : u.cmp v = 1
    · rw [if_pos hc] at h; cases h
    · rw [if_neg hc] at h
      simp at h
      intro hm'
      rcases List.mem_cons.1 hm' with rfl | hm'
      · exact hc ((cmp_iff hu hu hk).2 rfl)
      · exact pos_none hu hk (fun v hv => hm v (by simp [hv])) h hm'

end Go.Proofs.Ytihjmipmjogpoaa

/- Texts joined: Wo22, Wo24, Wo30, Wo35, Wo38, Wo39, Wo42, Wo43, Wo46. -/
import Derived.Test.YtnddfiohofnbaaaJn6
import Derived.Deep.Cut
/- world.New, of one side. -/
namespace Go.Proofs.Ytnddfiohofnbaaa
open Go.RowKit

set_option maxRecDepth 100000 in
set_option maxHeartbeats 4000000 in
theorem New_one (W : World) : Calls Try.prog 10 #[.slice none 0 0] W fun e w' => ∃ m : Wm, e = .returned (.tuple #[.pointer (some ⟨m.wb, 0, none⟩), .int .i64 0]) ∧ m.Ok W.heap.size w' ∧ m.th = [] ∧ m.made = [0] ∧ Fr No W w' := by
  have hmm := @run_makeMap Try.prog
  have hC := cloneS_w
  have hb1 := mk1_bool
  have hb2 := mk1_int
  go_enter Try.func10, Try.ntmps10
  go_wp2_with fail
  refine wp_loop_rounds 1 ?_
  rw [rounds_succ]
  go_wp2_with fail
  refine wp_region_inv (I := fun a0 f a wx => ∃ y0 y1 y2 y3 y4 y5 y6 y7 y8 y9 y10 y11 g, a = ((((((((((((a0.put (some 28) y0).put (some 29) y1).put (some 30) y2).put (some 31) y3).put (some 32) y4).put (some 33) y5).put (some 34) y6).put (some 35) y7).put (some 36) y8).put (some 37) y9).put (some 2) y10).put (some 3) y11) ∧ NJ W f [y0, y1, y2, y3, y4, y5, y6, y7, y8, y9, y10, y11] g wx) (by kernel_rfl) (by kernel_rfl) ?st ?step ?en
  case st => exact ⟨_, _, _, _, _, _, _, _, _, _, _, _, _, by simp only [Act.put, List.setIfInBounds_toArray, List.set_cons_zero, List.set_cons_succ] <;> rfl, NJ.begin W _⟩
  case step =>
    rintro i o f a wx ho hf hd ⟨y0, y1, y2, y3, y4, y5, y6, y7, y8, y9, y10, y11, g, rfl, J⟩ K' hK
    have hi := (Array.getElem?_eq_some_iff.1 ho).1
    simp only [List.size_toArray, List.length_cons, List.length_nil] at hi
    have hid : i = 0 ∨ i = 1 ∨ i = 2 ∨ i = 3 ∨ i = 4 ∨ i = 5 ∨ i = 6 ∨ i = 7 ∨ i = 8 ∨ i = 9 ∨ i = 10 ∨ i = 11 := by omega
    simp only [Act.put, List.setIfInBounds_toArray, List.set_cons_zero, List.set_cons_succ]
    rcases hid with rfl | rfl | rfl | rfl | rfl | rfl | rfl | rfl | rfl | rfl | rfl | rfl
    · simp only [List.getElem?_toArray, List.getElem?_cons_zero, Option.some.injEq] at ho; subst ho
      have HJ := hide J
      have HFI := hide hf
      clear J hd hf
      go_simp
      exact hK.out _ _ ⟨_, _, _, _, _, _, _, _, _, _, _, _, _, by simp only [Act.put, List.setIfInBounds_toArray, List.set_cons_zero, List.set_cons_succ] <;> rfl, HJ.out.quiet (i := 0) (by decide) (by simp) (nofun) (nofun)⟩
    · simp only [List.getElem?_toArray, List.getElem?_cons_succ, List.getElem?_cons_zero, Option.some.injEq] at ho; subst ho
      have b0 := hd ⟨0, .data⟩ (by simp) (by rfl)
      obtain rfl : y0 = .slice none 0 0 := J.x 0 b0
      have HJ := hide J
      have B0 := hide b0
      have HFI := hide hf
      clear J hd hf b0
      go_simp
      refine (hC _).mono ?_
      rintro e w' ⟨rfl, rfl⟩
      try go_simp
      exact hK.out _ _ ⟨_, _, _, _, _, _, _, _, _, _, _, _, _, by simp only [Act.put, List.setIfInBounds_toArray, List.set_cons_zero, List.set_cons_succ] <;> rfl, HJ.out.quiet (i := 1) (by decide) (by simp) (nofun) (nofun)⟩
    · simp only [List.getElem?_toArray, List.getElem?_cons_succ, List.getElem?_cons_zero, Option.some.injEq] at ho; subst ho
      have HJ := hide J
      have HFI := hide hf
      clear J hd hf
      go_simp
      exact hK.out _ _ ⟨_, _, _, _, _, _, _, _, _, _, _, _, _, by simp only [Act.put, List.setIfInBounds_toArray, List.set_cons_zero, List.set_cons_succ] <;> rfl, HJ.out.quiet (i := 2) (by decide) (by simp) (nofun) (nofun)⟩
    · simp only [List.getElem?_toArray, List.getElem?_cons_succ, List.getElem?_cons_zero, Option.some.injEq] at ho; subst ho
      have b2 := hd ⟨2, .data⟩ (by simp) (by rfl)
      obtain rfl : y2 = .int .i64 1 := J.x 2 b2
      have HJ := hide J
      have B2 := hide b2
      have HFI := hide hf
      clear J hd hf b2
      go_simp
      exact hK.out _ _ ⟨_, _, _, _, _, _, _, _, _, _, _, _, _, by simp only [Act.put, List.setIfInBounds_toArray, List.set_cons_zero, List.set_cons_succ] <;> rfl, HJ.out.make (i := 3) (by simp) HFI.out (by simp) (by show (World.alloc _ _).heap[gset g 3 wx.heap.size 3]? = _; rw [gset_eq]; exact World.alloc_heap_new _ _)⟩
    · simp only [List.getElem?_toArray, List.getElem?_cons_succ, List.getElem?_cons_zero, Option.some.injEq] at ho; subst ho
      have HJ := hide J
      have HFI := hide hf
      clear J hd hf
      go_simp
      exact hK.out _ _ ⟨_, _, _, _, _, _, _, _, _, _, _, _, _, by simp only [Act.put, List.setIfInBounds_toArray, List.set_cons_zero, List.set_cons_succ] <;> rfl, HJ.out.quiet (i := 4) (by decide) (by simp) (nofun) (nofun)⟩
    · simp only [List.getElem?_toArray, List.getElem?_cons_succ, List.getElem?_cons_zero, Option.some.injEq] at ho; subst ho
      have b4 := hd ⟨4, .data⟩ (by simp) (by rfl)
      obtain rfl : y4 = .int .i64 1 := J.x 4 b4
      have HJ := hide J
      have B4 := hide b4
      have HFI := hide hf
      clear J hd hf b4
      go_simp
      exact hK.out _ _ ⟨_, _, _, _, _, _, _, _, _, _, _, _, _, by simp only [Act.put, List.setIfInBounds_toArray, List.set_cons_zero, List.set_cons_succ] <;> rfl, HJ.out.make (i := 5) (by simp) HFI.out (by simp) (by show (World.alloc _ _).heap[gset g 5 wx.heap.size 5]? = _; rw [gset_eq]; exact World.alloc_heap_new _ _)⟩
    · simp only [List.getElem?_toArray, List.getElem?_cons_succ, List.getElem?_cons_zero, Option.some.injEq] at ho; subst ho
      have HJ := hide J
      have HFI := hide hf
      clear J hd hf
      go_simp
      exact hK.out _ _ ⟨_, _, _, _, _, _, _, _, _, _, _, _, _, by simp only [Act.put, List.setIfInBounds_toArray, List.set_cons_zero, List.set_cons_succ] <;> rfl, HJ.out.make (i := 6) (by simp) HFI.out (by simp) (by show (World.alloc _ _).heap[gset g 6 wx.heap.size 6]? = _; rw [gset_eq]; exact World.alloc_heap_new _ _)⟩
    · simp only [List.getElem?_toArray, List.getElem?_cons_succ, List.getElem?_cons_zero, Option.some.injEq] at ho; subst ho
      have HJ := hide J
      have HFI := hide hf
      clear J hd hf
      go_simp
      exact hK.out _ _ ⟨_, _, _, _, _, _, _, _, _, _, _, _, _, by simp only [Act.put, List.setIfInBounds_toArray, List.set_cons_zero, List.set_cons_succ] <;> rfl, HJ.out.make (i := 7) (by simp) HFI.out (by simp) (by show (World.alloc _ _).heap[gset g 7 wx.heap.size 7]? = _; rw [gset_eq]; exact World.alloc_heap_new _ _)⟩
    · simp only [List.getElem?_toArray, List.getElem?_cons_succ, List.getElem?_cons_zero, Option.some.injEq] at ho; subst ho
      have b1 := hd ⟨1, .data⟩ (by simp) (by rfl)
      obtain rfl : y1 = .slice none 0 0 := J.x 1 b1
      have b3 := hd ⟨3, .data⟩ (by simp) (by rfl)
      obtain rfl : y3 = .slice (some ⟨g 3, 0, none⟩) 1 1 := J.x 3 b3
      have b5 := hd ⟨5, .data⟩ (by simp) (by rfl)
      obtain rfl : y5 = .slice (some ⟨g 5, 0, none⟩) 1 1 := J.x 5 b5
      have b6 := hd ⟨6, .data⟩ (by simp) (by rfl)
      obtain rfl : y6 = .map (some (g 6)) := J.x 6 b6
      have b7 := hd ⟨7, .data⟩ (by simp) (by rfl)
      obtain rfl : y7 = .map (some (g 7)) := J.x 7 b7
      have HJ := hide J
      have B1 := hide b1
      have B3 := hide b3
      have B5 := hide b5
      have B6 := hide b6
      have B7 := hide b7
      have HFI := hide hf
      clear J hd hf b1 b3 b5 b6 b7
      go_simp
      exact hK.out _ _ ⟨_, _, _, _, _, _, _, _, _, _, _, _, _, by simp only [Act.put, List.setIfInBounds_toArray, List.set_cons_zero, List.set_cons_succ] <;> rfl, HJ.out.quiet (i := 8) (by decide) (by simp) (fun _ => ⟨B3.out, B5.out, B6.out, B7.out⟩) (nofun)⟩
    · simp only [List.getElem?_toArray, List.getElem?_cons_succ, List.getElem?_cons_zero, Option.some.injEq] at ho; subst ho
      have b8 := hd ⟨8, .data⟩ (by simp) (by rfl)
      obtain rfl : y8 = .agg #[.slice none 0 0, .slice (some ⟨g 3, 0, none⟩) 1 1, .map (some (g 6)), .map (some (g 7)), .int .i64 0, .slice (some ⟨g 5, 0, none⟩) 1 1] := J.x 8 b8
      have HJ := hide J
      have B8 := hide b8
      have HFI := hide hf
      clear J hd hf b8
      go_simp
      exact hK.out _ _ ⟨_, _, _, _, _, _, _, _, _, _, _, _, _, by simp only [Act.put, List.setIfInBounds_toArray, List.set_cons_zero, List.set_cons_succ] <;> rfl, HJ.out.box B8.out HFI.out (by simp) (by show (World.alloc _ _).heap[gset g 9 wx.heap.size 9]? = _; rw [gset_eq]; exact World.alloc_heap_new _ _)⟩
    · simp only [List.getElem?_toArray, List.getElem?_cons_succ, List.getElem?_cons_zero, Option.some.injEq] at ho; subst ho
      have b9 := hd ⟨9, .data⟩ (by simp) (by rfl)
      obtain rfl : y9 = .pointer (some ⟨g 9, 0, none⟩) := J.x 9 b9
      have HJ := hide J
      have B9 := hide b9
      have HFI := hide hf
      clear J hd hf b9
      go_simp
      exact hK.out _ _ ⟨_, _, _, _, _, _, _, _, _, _, _, _, _, by simp only [Act.put, List.setIfInBounds_toArray, List.set_cons_zero, List.set_cons_succ] <;> rfl, HJ.out.quiet (i := 10) (by decide) (by simp) (nofun) (fun _ => B9.out)⟩
    · simp only [List.getElem?_toArray, List.getElem?_cons_succ, List.getElem?_cons_zero, Option.some.injEq] at ho; subst ho
      have HJ := hide J
      have HFI := hide hf
      clear J hd hf
      go_simp
      exact hK.out _ _ ⟨_, _, _, _, _, _, _, _, _, _, _, _, _, by simp only [Act.put, List.setIfInBounds_toArray, List.set_cons_zero, List.set_cons_succ] <;> rfl, HJ.out.quiet (i := 11) (by decide) (by simp) (nofun) (nofun)⟩
  case en =>
    rintro f a wx hall ⟨y0, y1, y2, y3, y4, y5, y6, y7, y8, y9, y10, y11, g, rfl, J⟩
    simp only [Act.put, List.setIfInBounds_toArray, List.set_cons_zero, List.set_cons_succ]
    have ha : ∀ j, j < 12 → f j = true := fun j hj => hall j (by simpa using hj)
    obtain rfl : y10 = .pointer (some ⟨g 9, 0, none⟩) := J.x 10 (ha 10 (by omega))
    obtain rfl : y11 = .int .i64 0 := J.x 11 (ha 11 (by omega))
    have n3 : wx.heap[g 9]? = _ := J.b 9 (ha 9 (by omega))
    have n5 : wx.heap[g 5]? = _ := J.b 5 (ha 5 (by omega))
    have n6 : wx.heap[g 6]? = _ := J.b 6 (ha 6 (by omega))
    have n7 : wx.heap[g 7]? = _ := J.b 7 (ha 7 (by omega))
    have hne := J.ne (ha 6 (by omega)) (ha 7 (by omega))
    have l9 := J.lo 9 (ha 9 (by omega)) (by simp)
    have l5 := J.lo 5 (ha 5 (by omega)) (by simp)
    have l6 := J.lo 6 (ha 6 (by omega)) (by simp)
    have l7 := J.lo 7 (ha 7 (by omega)) (by simp)
    have hfr := J.fr
    have hok : (⟨g 9, g 6, g 7, none, 0, 0, some ⟨g 3, 0, none⟩, 1, 1, some ⟨g 5, 0, none⟩, 1, [0], [], []⟩ : Wm).Ok W.heap.size wx :=
      ⟨n3, ⟨#[], 0, n6, ⟨rfl, by simp⟩, by simp, by simp⟩, ⟨#[], 0, n7, rfl, by simp⟩, ⟨rfl, .inr ⟨g 5, 1, #[.int .i64 0], rfl, l5.1, n5, by simp, by simp [maxLen], rfl, rfl⟩⟩, by simp, by simp, ⟨l9.1, l6.1, l7.1, by simp⟩, hne, by simp, by simp, by simp, by simp⟩
    have HOK := hide hok
    have HFR := hide hfr
    clear J hall ha n3 n5 n6 n7 hne l9 l5 l6 l7 hok hfr
    go_wp2_with fail
    go_ret2
    exact ⟨_, rfl, HOK.out, rfl, rfl, HFR.out⟩

end Go.Proofs.Ytnddfiohofnbaaa

/- Worlds: a pair more, plain. -/
namespace Go.Proofs.Ytnddfiohofnbaaa
open Go.RowKit

/-- A world with one pair more. -/
def Wm.pair (m : Wm) (g1 g2 : Nat) (t1 t2 : T) (s : Nat) : Wm :=
  (m.add g1 ⟨5, s, t1, 0, 0, 0, 0, 0, false⟩ s).add g2 ⟨6, s, t2, 0, 0, (m.th.length : Int) + 1, 0, 0, false⟩ s

section
variable {m : Wm} {g1 g2 s : Nat} {t1 t2 : T}

theorem pair_len : (m.pair g1 g2 t1 t2 s).th.length = m.th.length + 2 := by unfold Wm.pair; rw [add_len, add_len]
theorem pair_made : (m.pair g1 g2 t1 t2 s).made.length = m.made.length := by unfold Wm.pair; rw [add_made, add_made]
theorem pair_made_at (hs : s < m.made.length) : (m.pair g1 g2 t1 t2 s).made[s]'(by rw [pair_made]; exact hs) = m.made[s] + 2 := by
  unfold Wm.pair
  rw [add_at_made (by rw [add_made]; exact hs), add_at_made hs]
theorem pair_sealer : (m.pair g1 g2 t1 t2 s).get ((m.th.length : Int) + 1) = some (g1, ⟨5, s, t1, 0, 0, 0, 0, 0, false⟩) := by
  unfold Wm.pair
  exact add_get_old (add_get_new _ _ _)
theorem pair_opener : (m.pair g1 g2 t1 t2 s).get ((m.th.length : Int) + 2) = some (g2, ⟨6, s, t2, 0, 0, (m.th.length : Int) + 1, 0, 0, false⟩) := by
  unfold Wm.pair
  have h := add_get_new (m := m.add g1 ⟨5, s, t1, 0, 0, 0, 0, 0, false⟩ s) g2 s ⟨6, s, t2, 0, 0, (m.th.length : Int) + 1, 0, 0, false⟩
  rw [add_len] at h
  rw [← h]
  congr 1
theorem pair_old {r : Int} {y : Nat × Th} (h : m.get r = some y) : (m.pair g1 g2 t1 t2 s).get r = some y := by
  unfold Wm.pair
  exact add_get_old (add_get_old h)
theorem pair_ofr (h : ∀ x ∈ m.th, x.2.ofr ≤ (m.th.length : Int)) : ∀ x ∈ (m.pair g1 g2 t1 t2 s).th, x.2.ofr ≤ ((m.pair g1 g2 t1 t2 s).th.length : Int) := by
  intro x hx
  rw [pair_len]
  unfold Wm.pair Wm.add at hx
  simp only [List.mem_append, List.mem_singleton] at hx
  rcases hx with (hx | rfl) | rfl
  · have := h x hx; omega
  · simp; omega
  · simp
end

end Go.Proofs.Ytnddfiohofnbaaa

/- SealSealed: values whose references are brought into 1 to last, plain; what look finds, plain. -/
namespace Go.Proofs.Ytnddfiohofnbaaa
open Go.RowKit

theorem fr_grown {w w' : World} {row : Option Nat} (h : w.grownBy w' row) : Fr (fun i => some i = row) w w' := (Fr.refl _ w).grown h fun _ hk _ => hk.symm

/-- A value whose references are brought into 1 to last. -/
def V.win (last : Int) : V → V
  | .mk k n s l r => .mk k n s (l.map (V.win last)) (if k = 4 ∧ last < r then r % last + 1 else r)
termination_by v => v

theorem V.win_mk (last k n : Int) (s : ByteArray) (l : List V) (r : Int) : (V.mk k n s l r).win last = .mk k n s (l.map (V.win last)) (if k = 4 ∧ last < r then r % last + 1 else r) := by
  rw [V.win]

theorem walkL_mem {fs : List (List Int → List (List Int × V))} {pl : List Int} {x : List Int × V} : ∀ {i : Nat}, x ∈ walkL fs i pl → ∃ f ∈ fs, ∃ q, x ∈ f q := by
  induction fs with
  | nil => intro i h; simp [walkL] at h
  | cons f fs ih =>
    intro i h
    rw [walkL, List.mem_append] at h
    rcases h with h | h
    · exact ⟨f, by simp, _, h⟩
    · obtain ⟨g, hg, q, hq⟩ := ih h
      exact ⟨g, by simp [hg], q, hq⟩

theorem refsOf_mem {r : Int} : ∀ {L : List (List Int × V)}, r ∈ refsOf L → ∃ p n s l, (p, V.mk 4 n s l r) ∈ L
  | [], h => by simp [refsOf] at h
  | (p, .mk k n s l r') :: L, h => by
    rw [refsOf] at h
    split at h
    · rename_i hk
      rcases List.mem_cons.1 h with rfl | h
      · subst hk; exact ⟨p, n, s, l, by simp⟩
      · obtain ⟨p2, n2, s2, l2, h2⟩ := refsOf_mem h
        exact ⟨p2, n2, s2, l2, by simp [h2]⟩
    · obtain ⟨p2, n2, s2, l2, h2⟩ := refsOf_mem h
      exact ⟨p2, n2, s2, l2, by simp [h2]⟩

theorem refsOf_len : ∀ (L : List (List Int × V)), (refsOf L).length ≤ L.length
  | [] => by simp [refsOf]
  | (p, .mk k n s l r) :: L => by
    have := refsOf_len L
    rw [refsOf]
    split <;> simp <;> omega

theorem refs_length (v : V) : v.refs.length ≤ 512 := by
  unfold V.refs
  split
  · rename_i h
    have h1 := refsOf_len (v.walk [])
    rw [walk_length] at h1
    simp [V.may, V.fits] at h
    omega
  · simp

theorem win_top {last : Int} (h1 : 1 ≤ last) (v : V) : ∀ (p : List Int), ∀ x ∈ (v.win last).walk p, ∀ n s l r, x.2 = V.mk 4 n s l r → r ≤ last := by
  induction v using V.ind with
  | h k n s l r ih =>
    intro p x hx n' s' l' r' e
    rw [V.win_mk, V.walk_mk] at hx
    rcases List.mem_cons.1 hx with rfl | hx
    · simp only [V.mk.injEq] at e
      obtain ⟨rfl, -, -, -, rfl⟩ := e
      have hm : r % last < last := Int.emod_lt_of_pos r (by omega)
      split <;> omega
    · obtain ⟨f, hf, q, hq⟩ := walkL_mem hx
      obtain ⟨y, hy, rfl⟩ := List.mem_map.1 hf
      obtain ⟨z, hz, rfl⟩ := List.mem_map.1 hy
      exact ih z hz q x hq n' s' l' r' e

theorem ok_low (v : V) : v.ok = true → ∀ (p : List Int), ∀ x ∈ v.walk p, ∀ n s l r, x.2 = V.mk 4 n s l r → 1 ≤ r := by
  induction v using V.ind with
  | h k n s l r ih =>
    intro ho p x hx n' s' l' r' e
    rw [V.ok_mk] at ho
    simp only [Bool.and_eq_true, List.all_eq_true] at ho
    obtain ⟨h1, h2⟩ := ho
    rw [V.walk_mk] at hx
    rcases List.mem_cons.1 hx with rfl | hx
    · simp only [V.mk.injEq] at e
      obtain ⟨rfl, rfl, rfl, rfl, rfl⟩ := e
      simp [fok] at h1
      omega
    · obtain ⟨f, hf, q, hq⟩ := walkL_mem hx
      obtain ⟨y, hy, rfl⟩ := List.mem_map.1 hf
      exact ih y hy (h2 y hy) q x hq n' s' l' r' e

theorem win_refs {last : Int} (h1 : 1 ≤ last) (v : V) : ∀ r ∈ (v.win last).refs, 1 ≤ r ∧ r ≤ last := by
  intro r hr
  unfold V.refs at hr
  split at hr
  · rename_i h
    obtain ⟨p, n, s, l, hm⟩ := refsOf_mem hr
    exact ⟨ok_low _ (may_ok h) _ _ hm _ _ _ _ rfl, win_top h1 v _ _ hm _ _ _ _ rfl⟩
  · simp at hr

/-- What look finds: -1, or how much is left. -/
def LookP (v : V) (left deep x : Int) : Prop := -1 ≤ x ∧ x ≤ 1000 ∧ (0 ≤ x → v.ok = true ∧ (v.dep : Int) ≤ deep ∧ x = left - (v.size : Int))

theorem look_may {v : V} {x : Int} (h : LookP v 512 16 x) (h0 : 0 ≤ x) : v.may = true := by
  obtain ⟨a, b, c⟩ := h.2.2 h0
  simp [V.may, V.fits, a]
  omega

/-- Where look's loop stands. -/
def LookI (l : List V) (left deep x : Int) (j : Nat) : Prop := 0 ≤ x ∧ (∀ y ∈ l.take j, y.ok = true ∧ (y.dep : Int) ≤ deep - 1) ∧ x = left - 1 - (sizeTo l j : Int)

theorem looki_step {l : List V} {left deep x y : Int} {j : Nat} (h : LookI l left deep x j) (hj : j < l.length) (hy : LookP l[j] x (deep - 1) y) (h0 : 0 ≤ y) : LookI l left deep y (j + 1) := by
  obtain ⟨a, b, c⟩ := hy.2.2 h0
  obtain ⟨h1, h2, h3⟩ := h
  refine ⟨h0, fun z hz => ?_, ?_⟩
  · rw [List.take_succ_eq_append_getElem hj, List.mem_append] at hz
    rcases hz with hz | hz
    · exact h2 z hz
    · simp at hz; subst hz; exact ⟨a, b⟩
  · rw [sizeTo_succ l j hj]
    omega

theorem looki_end {k n : Int} {s : ByteArray} {l : List V} {r left deep x : Int} (h : LookI l left deep x l.length) (hf : fok k n s l.length r = true) (hd : k = 3 → 1 ≤ deep) (hd0 : 0 ≤ deep) (hl : left ≤ 512) : LookP (.mk k n s l r) left deep x := by
  obtain ⟨h1, h2, h3⟩ := h
  rw [List.take_of_length_le (Nat.le_refl _)] at h2
  rw [sizeTo_all] at h3
  refine ⟨by omega, by omega, fun _ => ⟨?_, ?_, ?_⟩⟩
  · rw [V.ok_mk, hf, Bool.true_and, List.all_eq_true]
    exact fun y hy => (h2 y hy).1
  · rw [V.dep_mk]
    split
    · rename_i hk
      have := hd hk
      have : top (l.map V.dep) ≤ (deep - 1).toNat := top_le fun d hd => by
        obtain ⟨y, hy, rfl⟩ := List.mem_map.1 hd
        have := (h2 y hy).2
        omega
      omega
    · omega
  · rw [V.size_mk]; omega

end Go.Proofs.Ytnddfiohofnbaaa

/- SealSealed: six pairs, then boxes: plain; pairsOf. -/
namespace Go.Proofs.Ytnddfiohofnbaaa
open Go.RowKit

/-- The sealer and the opener of a pair, by its place. -/
def IsPair (m : Wm) (j : Nat) : Prop :=
  (∃ g t, m.get (2 * (j : Int) + 1) = some (g, ⟨5, 0, t, 0, 0, 0, 0, 0, false⟩)) ∧ ∃ g t, t.v.may = true ∧ m.get (2 * (j : Int) + 2) = some (g, ⟨6, 0, t, 0, 0, 2 * (j : Int) + 1, 0, 0, false⟩)

/-- So many pairs in a world of one side. -/
structure PW (m : Wm) (wb k : Nat) : Prop where
  wb : m.wb = wb
  th : m.th.length = 2 * k
  made : m.made = [2 * k]
  pr : ∀ j, j < k → IsPair m j
  ofr : ∀ x ∈ m.th, x.2.ofr ≤ (m.th.length : Int)

theorem PW.zero {m : Wm} (h1 : m.th = []) (h2 : m.made = [0]) : PW m m.wb 0 := ⟨rfl, by simp [h1], by simp [h2], by omega, by simp [h1]⟩

theorem PW.next {m : Wm} {wb k : Nat} (h : PW m wb k) {g1 g2 : Nat} {t1 t2 : T} (hv : t2.v = V.zero) : PW (m.pair g1 g2 t1 t2 0) wb (k + 1) := by
  refine ⟨h.wb, by rw [pair_len, h.th]; omega, by simp [Wm.pair, Wm.add, h.made]; omega, fun j hj => ?_, pair_ofr h.ofr⟩
  rcases Nat.lt_or_ge j k with hjk | hjk
  · obtain ⟨⟨g, t, h1⟩, g', t', hm, h2⟩ := h.pr j hjk
    exact ⟨⟨g, t, pair_old h1⟩, g', t', hm, pair_old h2⟩
  · obtain rfl : j = k := by omega
    have h1 := pair_sealer (m := m) (g1 := g1) (g2 := g2) (t1 := t1) (t2 := t2) (s := 0)
    have h2 := pair_opener (m := m) (g1 := g1) (g2 := g2) (t1 := t1) (t2 := t2) (s := 0)
    rw [h.th] at h1 h2
    have e : ((2 * j : Nat) : Int) = 2 * (j : Int) := by omega
    rw [e] at h1 h2
    exact ⟨⟨g1, t1, h1⟩, g2, t2, by rw [hv]; exact zero_may, h2⟩

/-- The numbers of the sealers, of the openers. -/
def sNums (k : Nat) : List Value := (List.range k).map fun (j : Nat) => Value.int .i64 (2 * (j : Int) + 1)
def oNums (k : Nat) : List Value := (List.range k).map fun (j : Nat) => Value.int .i64 (2 * (j : Int) + 2)
theorem sNums_succ (k : Nat) : sNums (k + 1) = sNums k ++ [.int .i64 (2 * (k : Int) + 1)] := by simp [sNums, List.range_succ]
theorem oNums_succ (k : Nat) : oNums (k + 1) = oNums k ++ [.int .i64 (2 * (k : Int) + 2)] := by simp [oNums, List.range_succ]
theorem sNums_at {k j : Nat} (h : j < k) : (sNums k)[j]? = some (.int .i64 (2 * (j : Int) + 1)) := by simp [sNums, h]
theorem oNums_at {k j : Nat} (h : j < k) : (oNums k)[j]? = some (.int .i64 (2 * (j : Int) + 2)) := by simp [oNums, h]

/-- A row of references is no block of a world. -/
theorem not_row {m : Wm} {lo : Nat} {W : World} (h : m.Ok lo W) {e : TypeId} {g : Nat} {cs : Array Value} (hb : Blk W g e cs) (h1 : e ≠ 76) (h2 : e ≠ 3) (h3 : e ≠ 83) (h4 : e ≠ 37) : ¬ m.B g := by
  obtain ⟨es, cl, hm, -⟩ := h.things
  obtain ⟨ef, cf, hf, -⟩ := h.facets
  rintro (rfl | rfl | rfl | hi | ⟨x, hx, rfl | hi⟩)
  · exact Blk.ne_ hb h.blk h1 rfl
  · exact map_ne_blk hm hb rfl
  · exact map_ne_blk hf hb rfl
  · obtain ⟨cs', hq⟩ := owns_typed h.made hi
    exact Blk.ne_ hb hq h2 rfl
  · exact Blk.ne_ hb (h.box x hx) h3 rfl
  · obtain ⟨cs', hq⟩ := T.Sp.typed _ (h.vals x hx).sp g hi
    exact Blk.ne_ hb hq h4 rfl

/-- A row survives what turns a world's blocks. -/
theorem row_world {m : Wm} {lo : Nat} {W W' : World} (h : m.Ok lo W) (f : Fr m.B W W') {base : Nat} {v : Value} {n : Nat} {xs : List Value} (ho : W.ownsRow base 28 1 v n xs) : W'.ownsRow base 28 1 v n xs :=
  owns_fr ho f fun g hg => by
    obtain ⟨cs, hb⟩ := owns_typed ho hg
    exact not_row h hb (by decide) (by decide) (by decide) (by decide)

/-- Where pairsOf's loop stands. -/
structure PL (W : World) (wb k : Nat) (A1 : Option Addr) (c1 : Nat) (A2 : Option Addr) (c2 : Nat) (m : Wm) (wr : World) : Prop where
  pw : PW m wb k
  ok : m.Ok W.heap.size wr
  fr : Fr No W wr
  s : wr.ownsRow W.heap.size 28 1 (.slice A1 k c1) k (sNums k)
  o : wr.ownsRow W.heap.size 28 1 (.slice A2 k c2) k (oNums k)
  ne : ∀ g, (Value.slice A1 k c1).ownBlock = some g → (Value.slice A2 k c2).ownBlock ≠ some g

/-- What pairsOf answers. -/
def PairsP (k : Nat) (W : World) (e : Ending) (w' : World) : Prop :=
  ∃ wb A1 c1 A2 c2 m, e = .returned (.tuple #[.pointer (some ⟨wb, 0, none⟩), .slice A1 k c1, .slice A2 k c2]) ∧ PL W wb k A1 c1 A2 c2 m w'

theorem pl_pair {W wr : World} {wb k : Nat} {A1 : Option Addr} {c1 : Nat} {A2 : Option Addr} {c2 : Nat} {m : Wm} (h : PL W wb k A1 c1 A2 c2 m wr) (hk : k < 6) :
    Calls Try.prog 11 #[.pointer (some ⟨wb, 0, none⟩), .int .i64 0] wr fun e w' => e = .returned (.tuple #[.int .i64 (2 * (k : Int) + 1), .int .i64 (2 * (k : Int) + 2), .int .i64 0]) ∧ ∃ m', PW m' wb (k + 1) ∧ m'.Ok W.heap.size w' ∧ Fr No W w' ∧
      w'.ownsRow W.heap.size 28 1 (.slice A1 k c1) k (sNums k) ∧ w'.ownsRow W.heap.size 28 1 (.slice A2 k c2) k (oNums k) := by
  obtain rfl := h.pw.wb
  have hs : 0 < m.made.length := by rw [h.pw.made]; simp
  have hm0 : m.made[0] = 2 * k := by simp [h.pw.made]
  refine (Pair_ok h.ok h.fr.size 0 hs (by rw [hm0]; omega) (by rw [h.pw.th]; omega) h.pw.ofr).mono ?_
  rintro e w' ⟨rfl, g1, g2, t1, t2, h1, h2, h3, h4, -⟩
  rw [h.pw.th]
  refine ⟨?_, m.pair g1 g2 t1 t2 0, h.pw.next h2, h3, h.fr.trans' h4 fun i hi hb => by have := (h.ok.lt i hb).1; omega, row_world h.ok h4 h.s, row_world h.ok h4 h.o⟩
  have e1 : ((2 * k : Nat) : Int) + 1 = 2 * (k : Int) + 1 := by omega
  have e2 : ((2 * k : Nat) : Int) + 1 + 1 = 2 * (k : Int) + 2 := by omega
  rw [e2, e1]

theorem side28_info : (Try.prog.info? 28).map (fun i => (i.zero, i.size, i.bytes)) = some (some (.int .i64 0), 1, 8) := by kernel_rfl

/-- A row survives another row's growth. -/
theorem row_grown {W W' : World} {base e size n : Nat} {v v' : Value} {xs : List Value} (h : W.ownsRow base e size v n xs) (f : W.grownBy W' v'.ownBlock) (hn : ∀ g, v.ownBlock = some g → v'.ownBlock ≠ some g) : W'.ownsRow base e size v n xs :=
  owns_fr h (fr_grown f) fun g hg e => hn g hg e.symm

/-- A world survives a row's growth. -/
theorem world_grown {m : Wm} {lo base : Nat} {W W' : World} {v : Value} {n : Nat} {xs : List Value} (h : m.Ok lo W) (ho : W.ownsRow base 28 1 v n xs) (f : W.grownBy W' v.ownBlock) : m.Ok lo W' :=
  h.fr (fr_grown f) fun i hi e => by
    obtain ⟨cs, hb⟩ := owns_typed ho e.symm
    exact not_row h hb (by decide) (by decide) (by decide) (by decide) hi

end Go.Proofs.Ytnddfiohofnbaaa

/- seal.Seal of a value that may not be; an argument that is a row of bytes. -/
namespace Go.Proofs.Ytnddfiohofnbaaa
open Go.Joins Go.ChangeShapes Go.WideShapes Go.RowKit Go.Deep

theorem Seal_arg {m : Wm} {lo : Nat} {W : World} (h : m.Ok lo W) (sr : Int) (t : T) (hi : Nat) (ht : t.In W 0 hi) (hhi : hi ≤ W.heap.size) (hm : t.v.may = false) :
    Calls Try.prog 13 #[.pointer (some ⟨m.wb, 0, none⟩), .int .i64 sr, t.val] W fun e w' => e = .returned (.tuple #[.int .i64 0, .int .i64 2]) ∧ Fr No W w' := by
  have hM := fun W' (f : Fr No W W') => may_any t W' 0 hi (ht.no f hhi) (Nat.le_trans hhi f.size)
  rw [hm] at hM
  obtain ⟨k, n, s, A, cap, l, r⟩ := t
  rw [T.val_mk] at *
  have HTh := hide fun W' (f : Fr No W W') => there_w (h.no f)
  have HM := hide hM
  have hb0 := Blk.new W 37 #[.int .u8 k, .int .i64 n, .string s, .slice A l.length cap, .int .i64 r]
  have hf0 := (Fr.refl No W).alloc (.cells #[.int .u8 k, .int .i64 n, .string s, .slice A l.length cap, .int .i64 r] 37)
  obtain ⟨e0, e1, e2, e3, e4, ef⟩ := hb0.cells5
  have eq_ := hb0.lt
  have HF := hide hf0
  clear hM hb0 hf0 h ht hhi hm
  go_enter Try.func13, Try.ntmps13
  go_wp2_with fail
  generalize World.alloc W _ = W0 at *
  refine (HTh.out W0 HF.out).mono ?_
  rintro e w' ⟨rfl, rfl⟩
  go_wp2_with fail
  refine (HM.out w' HF.out).mono ?_
  rintro e w1 ⟨rfl, ff⟩
  have HF1 := hide (HF.out.trans ff)
  clear ff
  go_wp2
  go_ret2
  exact ⟨rfl, HF1.out⟩

/-- A row of bytes that came in. -/
def Byts (w : World) (A : Option Addr) (cap : Nat) (l : List Int) : Prop :=
  l.length ≤ 140737488351232 ∧ l.length ≤ cap ∧ ∀ i x, l[i]? = some x → ∃ b o, A = some ⟨b, o, none⟩ ∧ b < w.heap.size ∧ w.cell? ⟨b, o + i, none⟩ = some (.int .u8 x) ∧ 0 ≤ x ∧ x < 256

section
variable {H : Type} {enc : TypeId × Value → H}

set_option maxRecDepth 100000 in
theorem open_byts {ty el : TypeId} (hty : Try.prog.underlying ty = some (.slice el)) (hel0 : Try.prog.underlying el = some (.int .u8)) (hcells : Try.prog.cellsOf el = 1) (hbytes : Try.prog.bytesOf el = 1)
    {W : World} {b0 : Nat} {v : Value} {d : DataW H} {p : List MemPlace} (hv : Value.okWide Try.prog W .any b0 ty v) (h : DataW.Trod enc Try.prog W 0 (fun _ => true) true ty v d p) (hw : ∀ m ∈ d.weights Try.prog ty, m ≤ reachBytes) :
    ∃ A cap l, v = .slice A l.length cap ∧ Byts W A cap l := by
  obtain ⟨A, len, cap, rfl⟩ := okWide_slice hty hv
  obtain ⟨fuel, hf⟩ := h
  have hcs : Value.cells (.slice A len cap) = #[.slice A len cap] := rfl
  rw [hcs] at hf
  rcases DataW.trod_slice hty hf with ⟨e3, -⟩ | ⟨a, len', cap', elems, rest, n', rfl, e3, e5, -, hcap, hmax, hel, hat, hsp, -⟩
  · simp at e3
    obtain ⟨rfl, rfl, rfl⟩ := e3
    exact ⟨none, 0, [], rfl, by simp, Nat.le_refl _, by simp⟩
  · simp at e3
    obtain ⟨rfl, rfl, rfl⟩ := e3
    simp only [Prod.mk.injEq] at e5
    obtain ⟨rfl, -⟩ := e5
    have hlen1 : len ≤ 140737488351232 := by
      have := hw ((elems.length + rest.length) * 1) (by rw [DataW.weights, hty]; simp [hbytes])
      rw [reach_eq, hel] at this
      omega
    rw [hcells] at hat
    have hone : ∀ i, i < len → ∃ x : Int, W.cell? (a.add i) = some (.int .u8 x) ∧ 0 ≤ x ∧ x < 256 := by
      intro i hi
      have h1 := hat i hi
      rw [Nat.mul_one] at h1
      have h2 : elems[i]? = some (elems[i]'(by omega)) := List.getElem?_eq_getElem (by omega)
      rw [h2] at h1
      obtain ⟨cs', hc, ht'⟩ := Option.bind_eq_some_iff.1 h1
      obtain ⟨r, rfl, -, wr⟩ := DataW.trod_int hel0 ht'
      obtain ⟨-, -, hcell⟩ := World.cells?_some hc
      have hc0 := hcell 0 (by omega)
      refine ⟨r, ?_, wf_u8 wr⟩
      have e0 : (a.add i).add 0 = a.add i := by unfold Addr.add; split <;> simp_all
      rw [e0] at hc0
      simpa using hc0
    obtain ⟨l, hl, hq⟩ := choose_list len hone
    subst hl
    obtain ⟨b, o, sp⟩ := a
    refine ⟨some ⟨b, o, sp⟩, cap, l, rfl, hlen1, hcap, fun i x hx => ?_⟩
    obtain ⟨hcc, h0, h1⟩ := hq i x hx
    have hlp : 0 < l.length := by
      rcases Nat.eq_zero_or_pos l.length with q | q
      · have : l = [] := List.eq_nil_of_length_eq_zero q
        subst this; simp at hx
      · exact q
    obtain ⟨hc0, -⟩ := hq 0 _ (List.getElem?_eq_getElem hlp)
    have hspot : sp = none := by simpa [Addr.add] using World.cell?_spot hc0
    subst hspot
    have hlt := cell_lt hcc
    rw [add_at] at hcc hlt
    exact ⟨b, o, rfl, hlt, hcc, h0, h1⟩

set_option maxRecDepth 100000 in
theorem open_which {W : World} {b0 : Nat} {v : Value} {d : DataW H} {p : List MemPlace} (hv : Value.okWide Try.prog W .any b0 39 v) (h : DataW.Trod enc Try.prog W 0 (fun _ => true) true 39 v d p) (hw : ∀ m ∈ d.weights Try.prog 39, m ≤ reachBytes) :
    ∃ A cap l, v = .slice A l.length cap ∧ Byts W A cap l :=
  open_byts Try.underlying39 Try.underlying5 (by kernel_rfl) (by kernel_rfl) hv h hw
end

theorem Byts.no {w w' : World} {A : Option Addr} {cap : Nat} {l : List Int} (h : Byts w A cap l) (f : Fr No w w') : Byts w' A cap l :=
  ⟨h.1, h.2.1, fun i x hx => by
    obtain ⟨b, o, rfl, hb, hc, h0, h1⟩ := h.2.2 i x hx
    exact ⟨b, o, rfl, Nat.lt_of_lt_of_le hb f.size, (f.cell hb fun h => h).trans hc, h0, h1⟩⟩

end Go.Proofs.Ytnddfiohofnbaaa

/- SealSealed: three rows, to each of which a part is appended in one region; how the first loop stands. -/
namespace Go.Proofs.Ytnddfiohofnbaaa
open Go.RowKit

/-- A row to which a part is appended: built (bu), appended (ap). -/
structure Chn (wr w : World) (base : Nat) (e : TypeId) (size n : Nat) (v : Value) (xs y : List Value) (bu ap : Bool) (g0 g cp : Nat) : Prop where
  old : ap = false → w.ownsRow base e size v n xs
  new : bu = true → ap = false → Blk w g0 e y.toArray ∧ wr.heap.size ≤ g0
  got : ap = true → w.ownsRow base e size (.slice (some ⟨g, 0, none⟩) (n + 1) cp) (n + 1) (xs ++ y) ∧ (v.ownBlock = some g ∨ wr.heap.size ≤ g)
  lt : ∀ b, v.ownBlock = some b → b < wr.heap.size

section
variable {wr w w' : World} {base : Nat} {e : TypeId} {size n : Nat} {v : Value} {xs y : List Value} {bu ap : Bool} {g0 g cp : Nat}

theorem Chn.start (h : wr.ownsRow base e size v n xs) : Chn wr wr.drew base e size n v xs y false false g0 g cp :=
  ⟨fun _ => owns_fr h (Fr.refl No wr).drew fun _ _ h => h, nofun, nofun, fun b hb => (owns_lt h b hb).2⟩

theorem Chn.fr {S : Nat → Prop} (h : Chn wr w base e size n v xs y bu ap g0 g cp) (f : Fr S w w') (h1 : ∀ b, v.ownBlock = some b → ¬ S b) (h2 : ∀ b, wr.heap.size ≤ b → ¬ S b) : Chn wr w' base e size n v xs y bu ap g0 g cp := by
  refine ⟨fun q => owns_fr (h.old q) f h1, fun q p => ⟨(h.new q p).1.fr f (h2 _ (h.new q p).2), (h.new q p).2⟩, fun q => ⟨owns_fr (h.got q).1 f fun b hb => ?_, (h.got q).2⟩, h.lt⟩
  have hb' : g = b := by simpa [Value.ownBlock] using hb
  subst hb'
  rcases (h.got q).2 with k | k
  · exact h1 _ k
  · exact h2 _ k

theorem Chn.build (h : Chn wr w base e size n v xs y bu false g0 g cp) (hs : wr.heap.size ≤ w.heap.size) : Chn wr (w.alloc (.cells y.toArray e)) base e size n v xs y true false w.heap.size g cp :=
  ⟨fun _ => owns_fr (h.old rfl) ((Fr.refl No w).alloc _) fun _ _ h => h, fun _ _ => ⟨Blk.new w e _, hs⟩, nofun, h.lt⟩

theorem Chn.build' (h : Chn wr w base e size n v xs y false false g0 g cp) (hs : wr.heap.size ≤ w.heap.size) : Chn wr (w.alloc (.cells y.toArray e)) base e size n v xs y true false w.heap.size g cp :=
  ⟨fun _ => owns_fr (h.old rfl) ((Fr.refl No w).alloc _) fun _ _ h => h, fun _ _ => ⟨Blk.new w e _, hs⟩, nofun, h.lt⟩

theorem Chn.app {g' cp' : Nat} (h : Chn wr w base e size n v xs y true false g0 g cp) (hs : wr.heap.size ≤ w.heap.size) (hown : w'.ownsRow base e size (.slice (some ⟨g', 0, none⟩) (n + 1) cp') (n + 1) (xs ++ y)) (hat : v.ownBlock = some g' ∨ g' = w.heap.size) :
    Chn wr w' base e size n v xs y true true g0 g' cp' :=
  ⟨nofun, nofun, fun _ => ⟨hown, hat.imp id fun q => by omega⟩, h.lt⟩
end

/-- What the region is about. -/
structure AC where
  base : Nat
  n : Nat
  v1 : Value
  v2 : Value
  v3 : Value
  xs1 : List Value
  xs2 : List Value
  xs3 : List Value
  y1 : Value
  y2 : Value
  t : T

def AC.E (c : AC) (a1 a2 a3 g1 g2 g3 p1 p2 p3 : Nat) : Nat → Value
  | 0 => c.v1
  | 1 => c.y1
  | 2 => .slice (some ⟨a1, 0, none⟩) 1 1
  | 3 => .slice (some ⟨g1, 0, none⟩) (c.n + 1) p1
  | 4 => c.v2
  | 5 => c.y2
  | 6 => .slice (some ⟨a2, 0, none⟩) 1 1
  | 7 => .slice (some ⟨g2, 0, none⟩) (c.n + 1) p2
  | 8 => c.v3
  | 9 => c.t.val
  | 10 => .slice (some ⟨a3, 0, none⟩) 1 1
  | 11 => .slice (some ⟨g3, 0, none⟩) (c.n + 1) p3
  | 12 => .slice (some ⟨g1, 0, none⟩) (c.n + 1) p1
  | 13 => .slice (some ⟨g2, 0, none⟩) (c.n + 1) p2
  | 14 => .slice (some ⟨g3, 0, none⟩) (c.n + 1) p3
  | _ => undef

/-- The blocks of the three rows. -/
def AC.S (c : AC) (i : Nat) : Prop := c.v1.ownBlock = some i ∨ c.v2.ownBlock = some i ∨ c.v3.ownBlock = some i

/-- Whichever operations have come up. -/
structure AR (c : AC) (wr : World) (f : Nat → Bool) (xs : List Value) (a1 a2 a3 g1 g2 g3 p1 p2 p3 : Nat) (w : World) : Prop where
  x : ∀ i, f i = true → xs.getD i undef = c.E a1 a2 a3 g1 g2 g3 p1 p2 p3 i
  o1 : f 12 = false → xs.getD 12 undef = c.v1
  o2 : f 13 = false → xs.getD 13 undef = c.v2
  o3 : f 14 = false → xs.getD 14 undef = c.v3
  fr : Fr c.S wr w
  k1 : Chn wr w c.base 28 1 c.n c.v1 c.xs1 [c.y1] (f 2) (f 3) a1 g1 p1
  k2 : Chn wr w c.base 3 1 c.n c.v2 c.xs2 [c.y2] (f 6) (f 7) a2 g2 p2
  k3 : Chn wr w c.base 37 5 c.n c.v3 c.xs3 c.t.cells (f 10) (f 11) a3 g3 p3
  c1 : f 12 = true → f 3 = true
  c2 : f 13 = true → f 7 = true
  c3 : f 14 = true → f 11 = true
  d1 : f 3 = true → f 0 = true ∧ f 2 = true
  d2 : f 7 = true → f 4 = true ∧ f 6 = true
  d3 : f 11 = true → f 8 = true ∧ f 10 = true

theorem au_ne {f : Nat → Bool} {i j : Nat} (h : j ≠ i) : upd f i j = f j := by simp [upd, h]
theorem au_eq {f : Nat → Bool} {i : Nat} : upd f i i = true := by simp [upd]
theorem aset_eq {x : List Value} {i : Nat} {u : Value} (h : i < x.length) : (x.set i u).getD i undef = u := by simp [List.getD_eq_getElem?_getD, h]
theorem aset_ne {x : List Value} {i j : Nat} {u : Value} (h : j ≠ i) : (x.set i u).getD j undef = x.getD j undef := by
  rw [List.getD_eq_getElem?_getD, List.getD_eq_getElem?_getD, List.getElem?_set_ne (fun e => h e.symm)]

section
variable {c : AC} {wr w : World} {f : Nat → Bool} {x : List Value} {a1 a2 a3 g1 g2 g3 p1 p2 p3 : Nat}

theorem AR.n1 (h : AR c wr f x a1 a2 a3 g1 g2 g3 p1 p2 p3 w) (h1 : f 0 = false) : f 12 = false := by
  cases q : f 12 with
  | false => rfl
  | true => rw [(h.d1 (h.c1 q)).1] at h1; cases h1
theorem AR.n2 (h : AR c wr f x a1 a2 a3 g1 g2 g3 p1 p2 p3 w) (h1 : f 4 = false) : f 13 = false := by
  cases q : f 13 with
  | false => rfl
  | true => rw [(h.d2 (h.c2 q)).1] at h1; cases h1
theorem AR.n3 (h : AR c wr f x a1 a2 a3 g1 g2 g3 p1 p2 p3 w) (h1 : f 8 = false) : f 14 = false := by
  cases q : f 14 with
  | false => rfl
  | true => rw [(h.d3 (h.c3 q)).1] at h1; cases h1

/-- An operation that turns no memory. -/
theorem AR.quiet (h : AR c wr f x a1 a2 a3 g1 g2 g3 p1 p2 p3 w) {i : Nat} (hi : i ≠ 2 ∧ i ≠ 3 ∧ i ≠ 6 ∧ i ≠ 7 ∧ i ≠ 10 ∧ i ≠ 11) (hx : i < x.length) (q1 : i = 12 → f 3 = true) (q2 : i = 13 → f 7 = true) (q3 : i = 14 → f 11 = true) :
    AR c wr (upd f i) (x.set i (c.E a1 a2 a3 g1 g2 g3 p1 p2 p3 i)) a1 a2 a3 g1 g2 g3 p1 p2 p3 w := by
  have e2 : upd f i 2 = f 2 := au_ne (by omega)
  have e3 : upd f i 3 = f 3 := au_ne (by omega)
  have e6 : upd f i 6 = f 6 := au_ne (by omega)
  have e7 : upd f i 7 = f 7 := au_ne (by omega)
  have e10 : upd f i 10 = f 10 := au_ne (by omega)
  have e11 : upd f i 11 = f 11 := au_ne (by omega)
  have up : ∀ j, f j = true → upd f i j = true := fun j hj => by simp [upd, hj]
  have dn : ∀ j, j ≠ i → upd f i j = true → f j = true := fun j hji hj => by rwa [au_ne hji] at hj
  have dnf : ∀ j, upd f i j = false → j ≠ i ∧ f j = false := fun j hj => by simp [upd] at hj; exact hj
  refine ⟨fun j hj => ?_, fun q => ?_, fun q => ?_, fun q => ?_, h.fr, by rw [e2, e3]; exact h.k1, by rw [e6, e7]; exact h.k2, by rw [e10, e11]; exact h.k3, fun q => ?_, fun q => ?_, fun q => ?_, fun q => ?_, fun q => ?_, fun q => ?_⟩
  · by_cases hji : j = i
    · subst hji; exact aset_eq hx
    · rw [aset_ne hji]; exact h.x j (dn j hji hj)
  · rw [aset_ne (dnf _ q).1]; exact h.o1 (dnf _ q).2
  · rw [aset_ne (dnf _ q).1]; exact h.o2 (dnf _ q).2
  · rw [aset_ne (dnf _ q).1]; exact h.o3 (dnf _ q).2
  · rw [e3]
    by_cases hji : 12 = i
    · exact q1 hji.symm
    · exact h.c1 (dn _ hji q)
  · rw [e7]
    by_cases hji : 13 = i
    · exact q2 hji.symm
    · exact h.c2 (dn _ hji q)
  · rw [e11]
    by_cases hji : 14 = i
    · exact q3 hji.symm
    · exact h.c3 (dn _ hji q)
  · rw [e3] at q; exact ⟨up _ (h.d1 q).1, up _ (h.d1 q).2⟩
  · rw [e7] at q; exact ⟨up _ (h.d2 q).1, up _ (h.d2 q).2⟩
  · rw [e11] at q; exact ⟨up _ (h.d3 q).1, up _ (h.d3 q).2⟩

theorem AR.begin (c : AC) (wr : World) (x : List Value) (h1 : x.getD 12 undef = c.v1) (h2 : x.getD 13 undef = c.v2) (h3 : x.getD 14 undef = c.v3) (o1 : wr.ownsRow c.base 28 1 c.v1 c.n c.xs1) (o2 : wr.ownsRow c.base 3 1 c.v2 c.n c.xs2) (o3 : wr.ownsRow c.base 37 5 c.v3 c.n c.xs3) :
    AR c wr (fun _ => false) x 0 0 0 0 0 0 0 0 0 wr.drew :=
  ⟨nofun, fun _ => h1, fun _ => h2, fun _ => h3, (Fr.refl _ wr).drew, Chn.start o1, Chn.start o2, Chn.start o3, nofun, nofun, nofun, nofun, nofun, nofun⟩

/-- What is common to the six operations that turn memory. -/
theorem AR.turn (h : AR c wr f x a1 a2 a3 g1 g2 g3 p1 p2 p3 w) {i : Nat} (hi : i ≠ 12 ∧ i ≠ 13 ∧ i ≠ 14) {u : Value} (hx : i < x.length) {b1 b2 b3 h1 h2 h3 r1 r2 r3 : Nat} {w' : World} (hE : u = c.E b1 b2 b3 h1 h2 h3 r1 r2 r3 i)
    (hsame : ∀ j, j ≠ i → f j = true → c.E b1 b2 b3 h1 h2 h3 r1 r2 r3 j = c.E a1 a2 a3 g1 g2 g3 p1 p2 p3 j) (fr : Fr c.S wr w')
    (k1 : Chn wr w' c.base 28 1 c.n c.v1 c.xs1 [c.y1] (upd f i 2) (upd f i 3) b1 h1 r1) (k2 : Chn wr w' c.base 3 1 c.n c.v2 c.xs2 [c.y2] (upd f i 6) (upd f i 7) b2 h2 r2) (k3 : Chn wr w' c.base 37 5 c.n c.v3 c.xs3 c.t.cells (upd f i 10) (upd f i 11) b3 h3 r3)
    (d1 : i = 3 → f 0 = true ∧ f 2 = true) (d2 : i = 7 → f 4 = true ∧ f 6 = true) (d3 : i = 11 → f 8 = true ∧ f 10 = true) : AR c wr (upd f i) (x.set i u) b1 b2 b3 h1 h2 h3 r1 r2 r3 w' := by
  have up : ∀ j, f j = true → upd f i j = true := fun j hj => by simp [upd, hj]
  have dn : ∀ j, j ≠ i → upd f i j = true → f j = true := fun j hji hj => by rwa [au_ne hji] at hj
  have dnf : ∀ j, upd f i j = false → j ≠ i ∧ f j = false := fun j hj => by simp [upd] at hj; exact hj
  refine ⟨fun j hj => ?_, fun q => ?_, fun q => ?_, fun q => ?_, fr, k1, k2, k3, fun q => up _ (h.c1 (dn _ (by omega) q)), fun q => up _ (h.c2 (dn _ (by omega) q)), fun q => up _ (h.c3 (dn _ (by omega) q)), fun q => ?_, fun q => ?_, fun q => ?_⟩
  · by_cases hji : j = i
    · subst hji; rw [aset_eq hx]; exact hE
    · rw [aset_ne hji, hsame j hji (dn j hji hj)]; exact h.x j (dn j hji hj)
  · rw [aset_ne (dnf _ q).1]; exact h.o1 (dnf _ q).2
  · rw [aset_ne (dnf _ q).1]; exact h.o2 (dnf _ q).2
  · rw [aset_ne (dnf _ q).1]; exact h.o3 (dnf _ q).2
  · by_cases hji : 3 = i
    · exact ⟨up _ (d1 hji.symm).1, up _ (d1 hji.symm).2⟩
    · exact ⟨up _ (h.d1 (dn _ hji q)).1, up _ (h.d1 (dn _ hji q)).2⟩
  · by_cases hji : 7 = i
    · exact ⟨up _ (d2 hji.symm).1, up _ (d2 hji.symm).2⟩
    · exact ⟨up _ (h.d2 (dn _ hji q)).1, up _ (h.d2 (dn _ hji q)).2⟩
  · by_cases hji : 11 = i
    · exact ⟨up _ (d3 hji.symm).1, up _ (d3 hji.symm).2⟩
    · exact ⟨up _ (h.d3 (dn _ hji q)).1, up _ (h.d3 (dn _ hji q)).2⟩
end

end Go.Proofs.Ytnddfiohofnbaaa

/- SealSealed: the six operations of the region that turn memory. -/
namespace Go.Proofs.Ytnddfiohofnbaaa
open Go.RowKit

section
variable {c : AC} {wr w : World} {f : Nat → Bool} {x : List Value} {a1 a2 a3 g1 g2 g3 p1 p2 p3 : Nat}

theorem AR.build1 (h : AR c wr f x a1 a2 a3 g1 g2 g3 p1 p2 p3 w) (hf : f 2 = false) (hx : 2 < x.length) : AR c wr (upd f 2) (x.set 2 (.slice (some ⟨w.heap.size, 0, none⟩) 1 1)) w.heap.size a2 a3 g1 g2 g3 p1 p2 p3 (w.alloc (.cells ([c.y1] : List Value).toArray 28)) := by
  have ha : f 3 = false := by
    cases q : f 3 with
    | false => rfl
    | true => rw [(h.d1 q).2] at hf; cases hf
  have F := (Fr.refl No w).alloc (.cells ([c.y1] : List Value).toArray 28)
  have hk := h.k1
  rw [ha, hf] at hk
  refine h.turn (by omega) hx rfl (fun j hj _ => ?_) (h.fr.trans F.no) ?_ ?_ ?_ (by omega) (by omega) (by omega)
  · unfold AC.E; split <;> first | rfl | omega
  · rw [au_eq, au_ne (by omega), ha]; exact hk.build' h.fr.size
  · rw [au_ne (by omega), au_ne (by omega)]; exact h.k2.fr F (fun _ _ h => h) fun _ _ h => h
  · rw [au_ne (by omega), au_ne (by omega)]; exact h.k3.fr F (fun _ _ h => h) fun _ _ h => h

theorem AR.build2 (h : AR c wr f x a1 a2 a3 g1 g2 g3 p1 p2 p3 w) (hf : f 6 = false) (hx : 6 < x.length) : AR c wr (upd f 6) (x.set 6 (.slice (some ⟨w.heap.size, 0, none⟩) 1 1)) a1 w.heap.size a3 g1 g2 g3 p1 p2 p3 (w.alloc (.cells ([c.y2] : List Value).toArray 3)) := by
  have ha : f 7 = false := by
    cases q : f 7 with
    | false => rfl
    | true => rw [(h.d2 q).2] at hf; cases hf
  have F := (Fr.refl No w).alloc (.cells ([c.y2] : List Value).toArray 3)
  have hk := h.k2
  rw [ha, hf] at hk
  refine h.turn (by omega) hx rfl (fun j hj _ => ?_) (h.fr.trans F.no) ?_ ?_ ?_ (by omega) (by omega) (by omega)
  · unfold AC.E; split <;> first | rfl | omega
  · rw [au_ne (by omega), au_ne (by omega)]; exact h.k1.fr F (fun _ _ h => h) fun _ _ h => h
  · rw [au_eq, au_ne (by omega), ha]; exact hk.build' h.fr.size
  · rw [au_ne (by omega), au_ne (by omega)]; exact h.k3.fr F (fun _ _ h => h) fun _ _ h => h

theorem AR.build3 (h : AR c wr f x a1 a2 a3 g1 g2 g3 p1 p2 p3 w) (hf : f 10 = false) (hx : 10 < x.length) : AR c wr (upd f 10) (x.set 10 (.slice (some ⟨w.heap.size, 0, none⟩) 1 1)) a1 a2 w.heap.size g1 g2 g3 p1 p2 p3 (w.alloc (.cells (c.t.cells : List Value).toArray 37)) := by
  have ha : f 11 = false := by
    cases q : f 11 with
    | false => rfl
    | true => rw [(h.d3 q).2] at hf; cases hf
  have F := (Fr.refl No w).alloc (.cells (c.t.cells : List Value).toArray 37)
  have hk := h.k3
  rw [ha, hf] at hk
  refine h.turn (by omega) hx rfl (fun j hj _ => ?_) (h.fr.trans F.no) ?_ ?_ ?_ (by omega) (by omega) (by omega)
  · unfold AC.E; split <;> first | rfl | omega
  · rw [au_ne (by omega), au_ne (by omega)]; exact h.k1.fr F (fun _ _ h => h) fun _ _ h => h
  · rw [au_ne (by omega), au_ne (by omega)]; exact h.k2.fr F (fun _ _ h => h) fun _ _ h => h
  · rw [au_eq, au_ne (by omega), ha]; exact hk.build' h.fr.size

theorem AR.app1 {g' p' : Nat} {w' : World} (h : AR c wr f x a1 a2 a3 g1 g2 g3 p1 p2 p3 w) (hf : f 3 = false) (hb : f 2 = true) (h0 : f 0 = true) (hx : 3 < x.length) (hne : ∀ b, c.v1.ownBlock = some b → c.v2.ownBlock ≠ some b ∧ c.v3.ownBlock ≠ some b)
    (hgr : w.grownBy w' c.v1.ownBlock) (hown : w'.ownsRow c.base 28 1 (.slice (some ⟨g', 0, none⟩) (c.n + 1) p') (c.n + 1) (c.xs1 ++ [c.y1])) (hat : c.v1.ownBlock = some g' ∨ g' = w.heap.size) :
    AR c wr (upd f 3) (x.set 3 (.slice (some ⟨g', 0, none⟩) (c.n + 1) p')) a1 a2 a3 g' g2 g3 p' p2 p3 w' := by
  have hz : f 12 = false := by
    cases q : f 12 with
    | false => rfl
    | true => rw [h.c1 q] at hf; cases hf
  have F := fr_grown hgr
  have hk := h.k1
  rw [hf, hb] at hk
  have FS : Fr c.S w w' := F.mono fun i _ q => .inl q.symm
  refine h.turn (by omega) hx rfl (fun j hj hfj => ?_) (h.fr.trans FS) ?_ ?_ ?_ (fun _ => ⟨h0, hb⟩) (by omega) (by omega)
  · have hj2 : j ≠ 12 := fun q => by subst q; rw [hz] at hfj; cases hfj
    unfold AC.E; split <;> first | rfl | omega
  · rw [au_ne (by omega), au_eq, hb]; exact hk.app h.fr.size hown hat
  · rw [au_ne (by omega), au_ne (by omega)]; exact h.k2.fr F (fun b hb' q => (hne b q.symm).1 hb') fun b hb' q => by have := hk.lt b q.symm; omega
  · rw [au_ne (by omega), au_ne (by omega)]; exact h.k3.fr F (fun b hb' q => (hne b q.symm).2 hb') fun b hb' q => by have := hk.lt b q.symm; omega

theorem AR.app2 {g' p' : Nat} {w' : World} (h : AR c wr f x a1 a2 a3 g1 g2 g3 p1 p2 p3 w) (hf : f 7 = false) (hb : f 6 = true) (h0 : f 4 = true) (hx : 7 < x.length) (hne : ∀ b, c.v2.ownBlock = some b → c.v3.ownBlock ≠ some b ∧ c.v1.ownBlock ≠ some b)
    (hgr : w.grownBy w' c.v2.ownBlock) (hown : w'.ownsRow c.base 3 1 (.slice (some ⟨g', 0, none⟩) (c.n + 1) p') (c.n + 1) (c.xs2 ++ [c.y2])) (hat : c.v2.ownBlock = some g' ∨ g' = w.heap.size) :
    AR c wr (upd f 7) (x.set 7 (.slice (some ⟨g', 0, none⟩) (c.n + 1) p')) a1 a2 a3 g1 g' g3 p1 p' p3 w' := by
  have hz : f 13 = false := by
    cases q : f 13 with
    | false => rfl
    | true => rw [h.c2 q] at hf; cases hf
  have F := fr_grown hgr
  have hk := h.k2
  rw [hf, hb] at hk
  have FS : Fr c.S w w' := F.mono fun i _ q => .inr (.inl q.symm)
  refine h.turn (by omega) hx rfl (fun j hj hfj => ?_) (h.fr.trans FS) ?_ ?_ ?_ (by omega) (fun _ => ⟨h0, hb⟩) (by omega)
  · have hj2 : j ≠ 13 := fun q => by subst q; rw [hz] at hfj; cases hfj
    unfold AC.E; split <;> first | rfl | omega
  · rw [au_ne (by omega), au_ne (by omega)]; exact h.k1.fr F (fun b hb' q => (hne b q.symm).2 hb') fun b hb' q => by have := hk.lt b q.symm; omega
  · rw [au_ne (by omega), au_eq, hb]; exact hk.app h.fr.size hown hat
  · rw [au_ne (by omega), au_ne (by omega)]; exact h.k3.fr F (fun b hb' q => (hne b q.symm).1 hb') fun b hb' q => by have := hk.lt b q.symm; omega

theorem AR.app3 {g' p' : Nat} {w' : World} (h : AR c wr f x a1 a2 a3 g1 g2 g3 p1 p2 p3 w) (hf : f 11 = false) (hb : f 10 = true) (h0 : f 8 = true) (hx : 11 < x.length) (hne : ∀ b, c.v3.ownBlock = some b → c.v1.ownBlock ≠ some b ∧ c.v2.ownBlock ≠ some b)
    (hgr : w.grownBy w' c.v3.ownBlock) (hown : w'.ownsRow c.base 37 5 (.slice (some ⟨g', 0, none⟩) (c.n + 1) p') (c.n + 1) (c.xs3 ++ c.t.cells)) (hat : c.v3.ownBlock = some g' ∨ g' = w.heap.size) :
    AR c wr (upd f 11) (x.set 11 (.slice (some ⟨g', 0, none⟩) (c.n + 1) p')) a1 a2 a3 g1 g2 g' p1 p2 p' w' := by
  have hz : f 14 = false := by
    cases q : f 14 with
    | false => rfl
    | true => rw [h.c3 q] at hf; cases hf
  have F := fr_grown hgr
  have hk := h.k3
  rw [hf, hb] at hk
  have FS : Fr c.S w w' := F.mono fun i _ q => .inr (.inr q.symm)
  refine h.turn (by omega) hx rfl (fun j hj hfj => ?_) (h.fr.trans FS) ?_ ?_ ?_ (by omega) (by omega) (fun _ => ⟨h0, hb⟩)
  · have hj2 : j ≠ 14 := fun q => by subst q; rw [hz] at hfj; cases hfj
    unfold AC.E; split <;> first | rfl | omega
  · rw [au_ne (by omega), au_ne (by omega)]; exact h.k1.fr F (fun b hb' q => (hne b q.symm).1 hb') fun b hb' q => by have := hk.lt b q.symm; omega
  · rw [au_ne (by omega), au_ne (by omega)]; exact h.k2.fr F (fun b hb' q => (hne b q.symm).2 hb') fun b hb' q => by have := hk.lt b q.symm; omega
  · rw [au_ne (by omega), au_eq, hb]; exact hk.app h.fr.size hown hat

end

end Go.Proofs.Ytnddfiohofnbaaa

/- SealSealed: how the first loop stands; a seal; the three rows' growth. -/
namespace Go.Proofs.Ytnddfiohofnbaaa
open Go.RowKit

def bNums (k : Nat) : List Value := (List.range k).map fun (j : Nat) => Value.int .i64 (13 + (j : Int))
theorem bNums_succ (k : Nat) : bNums (k + 1) = bNums k ++ [.int .i64 (13 + (k : Int))] := by simp [bNums, List.range_succ]
theorem bNums_at {k j : Nat} (h : j < k) : (bNums k)[j]? = some (.int .i64 (13 + (j : Int))) := by simp [bNums, h]

/-- A box of a world: its pair, what was sealed. -/
def IsBox (m : Wm) (j : Nat) (x : Nat × T) : Prop := x.1 < 6 ∧ x.2.v.may = true ∧ ∃ g t0, t0.v = x.2.v ∧ m.get (13 + (j : Int)) = some (g, ⟨7, 0, t0, 0, 0, 2 * (x.1 : Int) + 1, 0, 0, false⟩)

/-- Where the first loop stands: six pairs, q boxes; rows of the boxes that are written down. -/
structure SL (W : World) (wb q : Nat) (As : Option Addr) (cs : Nat) (Ao : Option Addr) (co : Nat) (A1 : Option Addr) (c1 : Nat) (A2 : Option Addr) (c2 : Nat) (A3 : Option Addr) (c3 : Nat) (bx : List (Nat × T)) (m : Wm) (wr : World) : Prop where
  wb : m.wb = wb
  ok : m.Ok W.heap.size wr
  fr : Fr No W wr
  th : m.th.length = 12 + q
  made : m.made = [12 + q]
  pr : ∀ j, j < 6 → IsPair m j
  bxs : ∀ (j : Nat) (x : Nat × T), bx[j]? = some x → IsBox m j x
  s : wr.ownsRow W.heap.size 28 1 (.slice As 6 cs) 6 (sNums 6)
  o : wr.ownsRow W.heap.size 28 1 (.slice Ao 6 co) 6 (oNums 6)
  r1 : wr.ownsRow W.heap.size 28 1 (.slice A1 bx.length c1) bx.length (bNums bx.length)
  r2 : wr.ownsRow W.heap.size 3 1 (.slice A2 bx.length c2) bx.length (bx.map fun x => Value.int .i64 (x.1 : Int))
  r3 : wr.ownsRow W.heap.size 37 5 (.slice A3 bx.length c3) bx.length (rowCells (bx.map Prod.snd))
  sp : ∀ x ∈ bx, x.2.Sp wr W.heap.size wr.heap.size
  n2 : ∀ g, (Value.slice A2 bx.length c2).ownBlock = some g → ¬ m.B g
  n3 : ∀ g, (Value.slice A3 bx.length c3).ownBlock = some g → ¬ m.B g ∧ ∀ x ∈ bx, g ∉ x.2.blocks
  nt : ∀ x ∈ bx, ∀ b ∈ x.2.blocks, ¬ m.B b
  ns : ∀ g, (Value.slice A1 bx.length c1).ownBlock = some g → (Value.slice As 6 cs).ownBlock ≠ some g ∧ (Value.slice Ao 6 co).ownBlock ≠ some g

section
variable {W : World} {wb q : Nat} {As : Option Addr} {cs : Nat} {Ao : Option Addr} {co : Nat} {A1 : Option Addr} {c1 : Nat} {A2 : Option Addr} {c2 : Nat} {A3 : Option Addr} {c3 : Nat} {bx : List (Nat × T)} {m : Wm} {wr w' : World}

theorem SL.no (h : SL W wb q As cs Ao co A1 c1 A2 c2 A3 c3 bx m wr) (f : Fr No wr w') : SL W wb q As cs Ao co A1 c1 A2 c2 A3 c3 bx m w' :=
  ⟨h.wb, h.ok.no f, h.fr.trans f, h.th, h.made, h.pr, h.bxs, owns_fr h.s f fun _ _ h => h, owns_fr h.o f fun _ _ h => h, owns_fr h.r1 f fun _ _ h => h, owns_fr h.r2 f fun _ _ h => h, owns_fr h.r3 f fun _ _ h => h,
    fun x hx => T.Sp.more (Nat.le_refl _) f.size _ (T.Sp.fr f _ (fun _ _ h => h) (h.sp x hx)), h.n2, h.n3, h.nt, h.ns⟩

theorem SL.begin {wb : Nat} (h : PL W wb 6 As cs Ao co m wr) : SL W wb 0 As cs Ao co none 0 none 0 none 0 [] m wr :=
  ⟨h.pw.wb, h.ok, h.fr, h.pw.th, h.pw.made, h.pw.pr, by simp, h.s, h.o, World.ownsRow_nil _ _ _ _, World.ownsRow_nil _ _ _ _, World.ownsRow_nil _ _ _ _, by simp, by simp [Value.ownBlock], by simp [Value.ownBlock], by simp, by simp [Value.ownBlock]⟩

/-- A box more in the world. -/
theorem SL.seal {g : Nat} {x : Th} (h : SL W wb q As cs Ao co A1 c1 A2 c2 A3 c3 bx m wr) (hok : (m.add g x 0).Ok W.heap.size w') (f : Fr m.B wr w') (hb : ∀ i, (m.add g x 0).B i → i < wr.heap.size → m.B i) :
    SL W wb (q + 1) As cs Ao co A1 c1 A2 c2 A3 c3 bx (m.add g x 0) w' := by
  refine ⟨h.wb, hok, h.fr.trans' f fun i hi hB => by have := (h.ok.lt i hB).1; omega, by rw [add_len, h.th]; omega, by simp [Wm.add, h.made]; omega, fun j hj => ?_, fun j y hy => ?_, row_world h.ok f h.s, row_world h.ok f h.o, row_world h.ok f h.r1,
    owns_fr h.r2 f h.n2, owns_fr h.r3 f fun g hg => (h.n3 g hg).1, fun y hy => T.Sp.more (Nat.le_refl _) f.size _ (T.Sp.fr f _ (h.nt y hy) (h.sp y hy)), fun g hg hB => h.n2 g hg (hb g hB (owns_lt h.r2 g hg).2),
    fun g hg => ⟨fun hB => (h.n3 g hg).1 (hb g hB (owns_lt h.r3 g hg).2), (h.n3 g hg).2⟩, fun y hy b hbb hB => h.nt y hy b hbb (hb b hB (T.In.blocks _ (T.Sp.inn _ (h.sp y hy)) b hbb).2), h.ns⟩
  · obtain ⟨⟨g1, t1, h1⟩, g2, t2, h2, h3⟩ := h.pr j hj
    exact ⟨⟨g1, t1, add_get_old h1⟩, g2, t2, h2, add_get_old h3⟩
  · obtain ⟨k1, k2, g1, t1, k3, k4⟩ := h.bxs j y hy
    exact ⟨k1, k2, g1, t1, k3, add_get_old k4⟩

/-- A box written down. -/
theorem SL.push {k : Nat} {t : T} {g1 g2 g3 p1 p2 p3 : Nat} (h : SL W wb q As cs Ao co A1 c1 A2 c2 A3 c3 bx m wr) (_ : bx.length < q) (hbox : IsBox m bx.length (k, t)) (hsp : t.Sp wr W.heap.size wr.heap.size) (hnt : ∀ b ∈ t.blocks, ¬ m.B b) (hn3 : ∀ g, (Value.slice A3 bx.length c3).ownBlock = some g → g ∉ t.blocks)
    (f : Fr (fun i => (Value.slice A1 bx.length c1).ownBlock = some i ∨ (Value.slice A2 bx.length c2).ownBlock = some i ∨ (Value.slice A3 bx.length c3).ownBlock = some i) wr w')
    (o1 : w'.ownsRow W.heap.size 28 1 (.slice (some ⟨g1, 0, none⟩) (bx.length + 1) p1) (bx.length + 1) (bNums bx.length ++ [.int .i64 (13 + (bx.length : Int))])) (t1 : (Value.slice A1 bx.length c1).ownBlock = some g1 ∨ wr.heap.size ≤ g1)
    (o2 : w'.ownsRow W.heap.size 3 1 (.slice (some ⟨g2, 0, none⟩) (bx.length + 1) p2) (bx.length + 1) ((bx.map fun x => Value.int .i64 (x.1 : Int)) ++ [.int .i64 (k : Int)])) (t2 : (Value.slice A2 bx.length c2).ownBlock = some g2 ∨ wr.heap.size ≤ g2)
    (o3 : w'.ownsRow W.heap.size 37 5 (.slice (some ⟨g3, 0, none⟩) (bx.length + 1) p3) (bx.length + 1) (rowCells (bx.map Prod.snd) ++ t.cells)) (t3 : (Value.slice A3 bx.length c3).ownBlock = some g3 ∨ wr.heap.size ≤ g3) :
    SL W wb q As cs Ao co (some ⟨g1, 0, none⟩) p1 (some ⟨g2, 0, none⟩) p2 (some ⟨g3, 0, none⟩) p3 (bx ++ [(k, t)]) m w' := by
  have hl : (bx ++ [(k, t)]).length = bx.length + 1 := by simp
  have hB : ∀ i, m.B i → ¬ ((Value.slice A1 bx.length c1).ownBlock = some i ∨ (Value.slice A2 bx.length c2).ownBlock = some i ∨ (Value.slice A3 bx.length c3).ownBlock = some i) := fun i hi hh => by
    rcases hh with hh | hh | hh
    · obtain ⟨cs', hb⟩ := owns_typed h.r1 hh
      exact not_row h.ok hb (by decide) (by decide) (by decide) (by decide) hi
    · exact h.n2 i hh hi
    · exact (h.n3 i hh).1 hi
  have hsz := f.size
  have htr : ∀ y ∈ bx, ∀ b ∈ y.2.blocks, ¬ ((Value.slice A1 bx.length c1).ownBlock = some b ∨ (Value.slice A2 bx.length c2).ownBlock = some b ∨ (Value.slice A3 bx.length c3).ownBlock = some b) := fun y hy b hb hh => by
    obtain ⟨cs', hq⟩ := T.Sp.typed _ (h.sp y hy) b hb
    rcases hh with hh | hh | hh
    · obtain ⟨cs2, hb2⟩ := owns_typed h.r1 hh
      exact Blk.ne_ hq hb2 (by decide) rfl
    · obtain ⟨cs2, hb2⟩ := owns_typed h.r2 hh
      exact Blk.ne_ hq hb2 (by decide) rfl
    · exact (h.n3 b hh).2 y hy hb
  have ht0 : ∀ b ∈ t.blocks, ¬ ((Value.slice A1 bx.length c1).ownBlock = some b ∨ (Value.slice A2 bx.length c2).ownBlock = some b ∨ (Value.slice A3 bx.length c3).ownBlock = some b) := fun b hb hh => by
    obtain ⟨cs', hq⟩ := T.Sp.typed _ hsp b hb
    rcases hh with hh | hh | hh
    · obtain ⟨cs2, hb2⟩ := owns_typed h.r1 hh
      exact Blk.ne_ hq hb2 (by decide) rfl
    · obtain ⟨cs2, hb2⟩ := owns_typed h.r2 hh
      exact Blk.ne_ hq hb2 (by decide) rfl
    · exact hn3 b hh hb
  have hso : ∀ (A : Option Addr) (c : Nat) (xs : List Value), wr.ownsRow W.heap.size 28 1 (.slice A 6 c) 6 xs → (∀ g, (Value.slice A1 bx.length c1).ownBlock = some g → (Value.slice A 6 c).ownBlock ≠ some g) → w'.ownsRow W.heap.size 28 1 (.slice A 6 c) 6 xs := fun A c xs ho hne => owns_fr ho f fun g hg hh => by
    obtain ⟨cs', hb⟩ := owns_typed ho hg
    rcases hh with hh | hh | hh
    · exact hne g hh hg
    · obtain ⟨cs2, hb2⟩ := owns_typed h.r2 hh
      exact Blk.ne_ hb hb2 (by decide) rfl
    · obtain ⟨cs2, hb2⟩ := owns_typed h.r3 hh
      exact Blk.ne_ hb hb2 (by decide) rfl
  refine ⟨h.wb, h.ok.fr f hB, h.fr.trans' f (fun i hi hh => ?_), h.th, h.made, h.pr, fun j y hy => ?_, hso _ _ _ h.s fun g hg => (h.ns g hg).1, hso _ _ _ h.o fun g hg => (h.ns g hg).2, ?_, ?_, ?_, fun y hy => ?_, fun g hg => ?_, fun g hg => ?_, fun y hy b hb => ?_, fun g hg => ?_⟩
  · rcases hh with hh | hh | hh
    · have := (owns_lt h.r1 i hh).1; omega
    · have := (owns_lt h.r2 i hh).1; omega
    · have := (owns_lt h.r3 i hh).1; omega
  · rcases Nat.lt_or_ge j bx.length with hj | hj
    · rw [List.getElem?_append_left hj] at hy; exact h.bxs j y hy
    · rw [List.getElem?_append_right hj] at hy
      have : j = bx.length := by
        rcases Nat.eq_or_lt_of_le hj with e | e
        · exact e.symm
        · rw [List.getElem?_eq_none (by simp; omega)] at hy; cases hy
      subst this
      simp at hy
      subst hy
      exact hbox
  · rw [hl, bNums_succ]; exact o1
  · rw [hl, List.map_append]; exact o2
  · rw [hl, List.map_append]
    simp only [List.map_cons, List.map_nil]
    rw [rowCells_snoc]; exact o3
  · rcases List.mem_append.1 hy with hy | hy
    · exact T.Sp.more (Nat.le_refl _) hsz _ (T.Sp.fr f _ (htr y hy) (h.sp y hy))
    · simp at hy; subst hy
      exact T.Sp.more (Nat.le_refl _) hsz _ (T.Sp.fr f _ ht0 hsp)
  · have hg' : g2 = g := by simpa [Value.ownBlock] using hg
    subst hg'
    rcases t2 with k2 | k2
    · exact h.n2 _ k2
    · intro hh; have := (h.ok.lt _ hh).2; omega
  · have hg' : g3 = g := by simpa [Value.ownBlock] using hg
    subst hg'
    rcases t3 with k3 | k3
    · refine ⟨(h.n3 _ k3).1, fun y hy => ?_⟩
      rcases List.mem_append.1 hy with hy | hy
      · exact (h.n3 _ k3).2 y hy
      · simp at hy; subst hy; exact hn3 _ k3
    · refine ⟨fun hh => by have := (h.ok.lt _ hh).2; omega, fun y hy hb => ?_⟩
      rcases List.mem_append.1 hy with hy | hy
      · have := (T.In.blocks _ (T.Sp.inn _ (h.sp y hy)) _ hb).2; omega
      · simp at hy; subst hy
        have := (T.In.blocks _ (T.Sp.inn _ hsp) _ hb).2; omega
  · rcases List.mem_append.1 hy with hy | hy
    · exact h.nt y hy b hb
    · simp at hy; subst hy; exact hnt b hb
  · have hg' : g1 = g := by simpa [Value.ownBlock] using hg
    subst hg'
    rcases t1 with k1 | k1
    · exact h.ns _ k1
    · exact ⟨fun hh => by have := (owns_lt h.s _ hh).2; omega, fun hh => by have := (owns_lt h.o _ hh).2; omega⟩
end

end Go.Proofs.Ytnddfiohofnbaaa

/- SealSealed: a region that asks an opener and lays the answer in a fresh box, whichever operations have come up. -/
namespace Go.Proofs.Ytnddfiohofnbaaa
open Go.RowKit

/-- What the region is about. -/
structure OC where
  wb : Nat
  kk : Nat
  go : Nat
  j : Nat
  gx : Nat
  vO : Value
  vB : Value
  code : Int
  tv : V

def OC.E (c : OC) (t : T) (ga : Nat) : Nat → Value
  | 0 => .pointer (some ⟨c.wb, 0, none⟩)
  | 1 => c.vO
  | 2 => .int .i64 (c.kk : Int)
  | 3 => .pointer (some ⟨c.go, c.kk, none⟩)
  | 4 => .int .i64 (2 * (c.kk : Int) + 2)
  | 5 => c.vB
  | 6 => .int .i64 (c.j : Int)
  | 7 => .pointer (some ⟨c.gx, c.j, none⟩)
  | 8 => .int .i64 (13 + (c.j : Int))
  | 9 => .agg #[.int .u8 4, .int .i64 0, .string ⟨#[]⟩, .slice none 0 0, .int .i64 (13 + (c.j : Int))]
  | 10 => .tuple #[t.val, .int .i64 c.code]
  | 11 => .tuple #[t.val, .int .i64 c.code]
  | 12 => t.val
  | 13 => .int .i64 c.code
  | 14 => .pointer (some ⟨ga, 0, none⟩)
  | 16 => .int .i64 c.code
  | _ => undef

/-- Whichever operations have come up. -/
structure OR (c : OC) (w0 : World) (f : Nat → Bool) (xs : List Value) (t : T) (ga : Nat) (w : World) : Prop where
  x : ∀ i, f i = true → i ≠ 15 → xs.getD i undef = c.E t ga i
  fr : Fr No w0 w
  an : f 10 = true → t.v = c.tv ∧ t.Sh w w0.heap.size w.heap.size
  al : f 14 = true → f 15 = false → Blk w ga 37 T.zero.cells.toArray ∧ w0.heap.size ≤ ga
  st : f 15 = true → Blk w ga 37 t.cells.toArray ∧ w0.heap.size ≤ ga
  ne : f 10 = true → f 14 = true → ga ∉ t.blocks
  d10 : f 11 = true ∨ f 12 = true ∨ f 13 = true ∨ f 15 = true ∨ f 16 = true → f 10 = true
  d14 : f 15 = true → f 14 = true

section
variable {c : OC} {w0 w : World} {f : Nat → Bool} {xs : List Value} {t : T} {ga : Nat}

theorem OR.begin (c : OC) (w0 : World) (xs : List Value) (t : T) : OR c w0 (fun _ => false) xs t 0 w0.drew :=
  ⟨nofun, (Fr.refl _ w0).drew, nofun, nofun, nofun, nofun, by simp, nofun⟩

/-- An operation that turns no memory. -/
theorem OR.quiet (h : OR c w0 f xs t ga w) {i : Nat} (hi : i ≠ 10 ∧ i ≠ 14 ∧ i ≠ 15) (hx : i < xs.length) (q : i = 11 ∨ i = 12 ∨ i = 13 ∨ i = 16 → f 10 = true) : OR c w0 (upd f i) (xs.set i (c.E t ga i)) t ga w := by
  have e10 : upd f i 10 = f 10 := au_ne (by omega)
  have e14 : upd f i 14 = f 14 := au_ne (by omega)
  have e15 : upd f i 15 = f 15 := au_ne (by omega)
  have dn : ∀ j, upd f i j = true → j = i ∨ f j = true := fun j hj => by simp [upd] at hj; exact hj
  refine ⟨fun j hj h15 => ?_, h.fr, by rw [e10]; exact h.an, by rw [e14, e15]; exact h.al, by rw [e15]; exact h.st, by rw [e10, e14]; exact h.ne, fun hq => ?_, by rw [e15, e14]; exact h.d14⟩
  · by_cases hji : j = i
    · subst hji; exact aset_eq hx
    · rw [aset_ne hji]; exact h.x j ((dn j hj).resolve_left hji) h15
  · rw [e10]
    rcases hq with k | k | k | k | k
    · rcases dn _ k with k | k
      · exact q (.inl k.symm)
      · exact h.d10 (.inl k)
    · rcases dn _ k with k | k
      · exact q (.inr (.inl k.symm))
      · exact h.d10 (.inr (.inl k))
    · rcases dn _ k with k | k
      · exact q (.inr (.inr (.inl k.symm)))
      · exact h.d10 (.inr (.inr (.inl k)))
    · rw [e15] at k; exact h.d10 (.inr (.inr (.inr (.inl k))))
    · rcases dn _ k with k | k
      · exact q (.inr (.inr (.inr k.symm)))
      · exact h.d10 (.inr (.inr (.inr (.inr k))))

/-- The box's number held as a value. -/
theorem OR.hold (h : OR c w0 f xs t ga w) {w2 : World} (f2 : Fr No w w2) (hx : 9 < xs.length) : OR c w0 (upd f 9) (xs.set 9 (c.E t ga 9)) t ga w2 := by
  have h1 := h.quiet (i := 9) (by decide) hx (by simp)
  refine ⟨h1.x, h1.fr.trans f2, fun q => ⟨(h1.an q).1, ((h1.an q).2.no f2).more (Nat.le_refl _) f2.size⟩, fun q p => ⟨(h1.al q p).1.fr f2 fun h => h, (h1.al q p).2⟩, fun q => ⟨(h1.st q).1.fr f2 fun h => h, (h1.st q).2⟩, h1.ne, h1.d10, h1.d14⟩

/-- The answer. -/
theorem OR.open_ (h : OR c w0 f xs t ga w) (hf : f 10 = false) {w2 : World} {t2 : T} (f2 : Fr No w w2) (hv : t2.v = c.tv) (hsh : t2.Sh w2 w.heap.size w2.heap.size) (hx : 10 < xs.length) : OR c w0 (upd f 10) (xs.set 10 (.tuple #[t2.val, .int .i64 c.code])) t2 ga w2 := by
  have hn : ∀ j, j = 11 ∨ j = 12 ∨ j = 13 ∨ j = 15 ∨ j = 16 → f j = false := fun j hj => by
    cases q : f j with
    | false => rfl
    | true =>
      have : f 10 = true := h.d10 (by rcases hj with rfl | rfl | rfl | rfl | rfl <;> simp [q])
      rw [this] at hf; cases hf
  have dn : ∀ j, upd f 10 j = true → j = 10 ∨ f j = true := fun j hj => by simp [upd] at hj; exact hj
  have e14 : upd f 10 14 = f 14 := au_ne (by omega)
  have e15 : upd f 10 15 = false := (au_ne (by omega)).trans (hn 15 (by omega))
  refine ⟨fun j hj h15 => ?_, h.fr.trans f2, fun _ => ⟨hv, hsh.more h.fr.size (Nat.le_refl _)⟩, fun q _ => ?_, fun q => (by rw [e15] at q; cases q), fun _ q hb => ?_, fun _ => au_eq, fun q => (by rw [e15] at q; cases q)⟩
  · by_cases hji : j = 10
    · subst hji; rw [aset_eq hx]; rfl
    · have hfj := (dn j hj).resolve_left hji
      rw [aset_ne hji, h.x j hfj h15]
      have n1 : j ≠ 11 := fun e => by subst e; rw [hn 11 (by omega)] at hfj; cases hfj
      have n2 : j ≠ 12 := fun e => by subst e; rw [hn 12 (by omega)] at hfj; cases hfj
      unfold OC.E
      split <;> first | rfl | omega
  · rw [e14] at q
    have := h.al q (hn 15 (by omega))
    exact ⟨this.1.fr f2 fun h => h, this.2⟩
  · rw [e14] at q
    have h1 := (h.al q (hn 15 (by omega))).1.lt
    have h2 := (T.In.blocks _ hsh.inn _ hb).1
    omega

/-- The fresh box. -/
theorem OR.alloc (h : OR c w0 f xs t ga w) (hf : f 14 = false) (hx : 14 < xs.length) : OR c w0 (upd f 14) (xs.set 14 (.pointer (some ⟨w.heap.size, 0, none⟩))) t w.heap.size (w.alloc (.cells T.zero.cells.toArray 37)) := by
  have h15 : f 15 = false := by
    cases q : f 15 with
    | false => rfl
    | true => rw [h.d14 q] at hf; cases hf
  have dn : ∀ j, upd f 14 j = true → j = 14 ∨ f j = true := fun j hj => by simp [upd] at hj; exact hj
  have e15 : upd f 14 15 = false := (au_ne (by omega)).trans h15
  have e10 : upd f 14 10 = f 10 := au_ne (by omega)
  have F := (Fr.refl No w).alloc (.cells T.zero.cells.toArray 37)
  refine ⟨fun j hj hj15 => ?_, h.fr.trans F, fun q => ?_, fun _ _ => ⟨Blk.new w 37 _, h.fr.size⟩, fun q => (by rw [e15] at q; cases q), fun q _ hb => ?_, fun q => ?_, fun q => (by rw [e15] at q; cases q)⟩
  · by_cases hji : j = 14
    · subst hji; rw [aset_eq hx]; rfl
    · rw [aset_ne hji, h.x j ((dn j hj).resolve_left hji) hj15]
      unfold OC.E
      split <;> first | rfl | omega
  · rw [e10] at q
    exact ⟨(h.an q).1, ((h.an q).2.no F).more (Nat.le_refl _) F.size⟩
  · rw [e10] at q
    have := (T.In.blocks _ (h.an q).2.inn _ hb).2
    omega
  · rw [e10]
    have e : ∀ j, j ≠ 14 → upd f 14 j = f j := fun j hj => au_ne hj
    rw [e 11 (by omega), e 12 (by omega), e 13 (by omega), e 15 (by omega), e 16 (by omega)] at q
    exact h.d10 q

/-- The answer laid in it. -/
theorem OR.store (h : OR c w0 f xs t ga w) (hf : f 15 = false) (h10 : f 10 = true) (h14 : f 14 = true) {w2 : World} (f2 : Fr (fun i => i = ga) w w2) (hb : Blk w2 ga 37 t.cells.toArray) : OR c w0 (upd f 15) xs t ga w2 := by
  have dn : ∀ j, upd f 15 j = true → j = 15 ∨ f j = true := fun j hj => by simp [upd] at hj; exact hj
  have e10 : upd f 15 10 = f 10 := au_ne (by omega)
  have e14 : upd f 15 14 = f 14 := au_ne (by omega)
  have hga := (h.al h14 hf).2
  refine ⟨fun j hj hj15 => h.x j ((dn j hj).resolve_left hj15) hj15, h.fr.trans' f2 (fun i hi q => by have q' : i = ga := q; omega), fun _ => ⟨(h.an h10).1, ((h.an h10).2.fr f2 fun b hb' q => by have q' : b = ga := q; subst q'; exact h.ne h10 h14 hb').more (Nat.le_refl _) f2.size⟩, fun _ q => (by rw [au_eq] at q; cases q), fun _ => ⟨hb, hga⟩, by rw [e10, e14]; exact h.ne, fun _ => by rw [e10]; exact h10, fun _ => by rw [e14]; exact h14⟩
end

end Go.Proofs.Ytnddfiohofnbaaa

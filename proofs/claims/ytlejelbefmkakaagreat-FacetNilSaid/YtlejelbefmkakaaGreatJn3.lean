/- Texts joined: Wo1. -/
import Derived.Test.YtlejelbefmkakaaGreatJn2
/- Worlds: none, Sides, side, Is, Kind, Home, Made. -/
namespace Go.Proofs.YtlejelbefmkakaaGreat
open Go.RowKit

section
variable {m : Wm} {lo : Nat} {W : World}

/-- Where a number stands. -/
def Wm.at_ (m : Wm) (r : Int) : Option Nat := if 1 ≤ r ∧ r ≤ (m.th.length : Int) then some (r - 1).toNat else none

/-- The thing of a number. -/
def Wm.get (m : Wm) (r : Int) : Option (Nat × Th) := (m.at_ r).bind fun i => m.th[i]?

/-- Its kind; 0: there is none. -/
def Wm.kind (m : Wm) (r : Int) : Int := ((m.get r).map fun x => x.2.kind).getD 0

theorem Wm.get_is {m : Wm} {r : Int} : (m.get r).isSome = decide (1 ≤ r ∧ r ≤ (m.th.length : Int)) := by
  unfold Wm.get Wm.at_
  by_cases h : 1 ≤ r ∧ r ≤ (m.th.length : Int)
  · rw [if_pos h]
    have : (r - 1).toNat < m.th.length := by omega
    simp [h]
    omega
  · rw [if_neg h]
    simp [h]

theorem Wm.get_mem {m : Wm} {r : Int} {x : Nat × Th} (h : m.get r = some x) : x ∈ m.th := by
  unfold Wm.get at h
  obtain ⟨i, -, hi⟩ := Option.bind_eq_some_iff.1 h
  exact List.mem_of_getElem? hi

theorem map_neq_nil (w : World) (M : Nat) : (binOp .eql 34 (.map (some M)) (.map none)).run Tryz.prog w = .ok (.bool false) w := by
  have h := run_eql_map_nil (P := Tryz.prog) w 34 _ _ (some M) Tryz.underlying34
  simpa using h

set_option maxRecDepth 100000 in
/-- What a look-up of a thing answers. -/
theorem look_thing (h : m.Ok lo W) (r : Int) : (Instr.lookup 34 (.map (some m.M)) (.int .i64 r) false).run Tryz.prog W = .ok (.pointer ((m.get r).map fun x => ⟨x.1, 0, none⟩)) W := by
  obtain ⟨es, cl, hm, he, hst⟩ := h.things
  have hkeys : ∀ e ∈ es.toList, ∃ c : Int, e.key = .int .i64 c := fun e hm => by
    obtain ⟨i, hi, rfl⟩ := List.mem_iff_getElem.1 hm
    have hi' : i < m.th.length := by rw [← he.1]; exact hi
    exact ⟨_, (he.2 i _ _ (List.getElem?_eq_getElem hi) (List.getElem?_eq_getElem hi')).1⟩
  have hz : (zeroValue 185).run Tryz.prog W = .ok (.pointer none) W := by rfl
  have hl := (look_num (o := m.at_ r) Tryz.underlying22 Tryz.underlying34 hz r hm (fun ho e hm => by
    obtain ⟨i, hi, rfl⟩ := List.mem_iff_getElem.1 hm
    have hi' : i < m.th.length := by rw [← he.1]; exact hi
    refine ⟨_, (he.2 i _ _ (List.getElem?_eq_getElem hi) (List.getElem?_eq_getElem hi')).1, fun hr => ?_⟩
    unfold Wm.at_ at ho
    rw [if_pos (by omega)] at ho
    cases ho) (fun j hj => by
    unfold Wm.at_ at hj
    split at hj
    · rename_i hr
      simp only [Option.some.injEq] at hj
      subst hj
      have hi' : (r - 1).toNat < m.th.length := by omega
      have hi : (r - 1).toNat < es.toList.length := by rw [he.1]; exact hi'
      refine ⟨_, List.getElem?_eq_getElem hi, ?_, hkeys, fun k e' hk hek hkey => ?_⟩
      · rw [(he.2 _ _ _ (List.getElem?_eq_getElem hi) (List.getElem?_eq_getElem hi')).1]
        congr 1
        omega
      · have hk' : k < m.th.length := by omega
        rw [(he.2 k e' _ hek (List.getElem?_eq_getElem hk')).1] at hkey
        simp only [Value.int.injEq, true_and] at hkey
        omega
    · cases hj)).2
  rw [hl]
  unfold Wm.get
  cases ho : m.at_ r with
  | none => rfl
  | some j =>
    unfold Wm.at_ at ho
    split at ho
    · rename_i hr
      simp only [Option.some.injEq] at ho
      subst ho
      have hi' : (r - 1).toNat < m.th.length := by omega
      have hi : (r - 1).toNat < es.toList.length := by rw [he.1]; exact hi'
      have hv := (he.2 _ _ _ (List.getElem?_eq_getElem hi) (List.getElem?_eq_getElem hi')).2
      simp only [Option.bind_some, List.getElem?_eq_getElem hi, List.getElem?_eq_getElem hi', Option.map_some, hv]
    · cases ho

theorem none_w (h : m.Ok lo W) : Calls Tryz.prog 127 #[.pointer (some ⟨m.wb, 0, none⟩)] W fun e w' => e = .returned (.bool false) ∧ w' = W := by
  have c0 := h.blk.cell 2
  simp only [Wm.cells, List.getElem?_toArray, List.getElem?_cons_zero, List.getElem?_cons_succ] at c0
  have hq := map_neq_nil
  clear h
  go_enter Tryz.func127, Tryz.ntmps127
  go_wp2
  go_ret
  exact ⟨rfl, rfl⟩

theorem Sides_w (h : m.Ok lo W) : Calls Tryz.prog 84 #[.pointer (some ⟨m.wb, 0, none⟩)] W fun e w' => e = .returned (.int .i64 (m.made.length : Int)) ∧ w' = W := by
  have hN := none_w h
  have c0 := h.blk.cell 5
  simp only [Wm.cells, List.getElem?_toArray, List.getElem?_cons_zero, List.getElem?_cons_succ] at c0
  clear h
  go_enter Tryz.func84, Tryz.ntmps84
  go_wp2_with fail
  refine hN.mono ?_
  rintro e w' ⟨rfl, rfl⟩
  go_wp2
  go_ret
  exact ⟨rfl, rfl⟩

theorem side_w (h : m.Ok lo W) (s : Int) : Calls Tryz.prog 133 #[.pointer (some ⟨m.wb, 0, none⟩), .int .i64 s] W fun e w' => e = .returned (.bool (decide (0 ≤ s ∧ s < (m.made.length : Int)))) ∧ w' = W := by
  have hN := Sides_w h
  clear h
  by_cases h0 : 0 ≤ s
  · by_cases h1 : s < (m.made.length : Int)
    · have hd : decide (0 ≤ s ∧ s < (m.made.length : Int)) = true := by simp [h0, h1]
      rw [hd]
      go_enter Tryz.func133, Tryz.ntmps133
      go_wp2_with fail
      refine hN.mono ?_
      rintro e w' ⟨rfl, rfl⟩
      go_wp2
      go_ret
      exact ⟨rfl, rfl⟩
    · have hd : decide (0 ≤ s ∧ s < (m.made.length : Int)) = false := by simp [h0, h1]
      have h2 : decide (s < (m.made.length : Int)) = false := by simp [h1]
      rw [hd]
      clear h1
      go_enter Tryz.func133, Tryz.ntmps133
      go_wp2_with fail
      refine hN.mono ?_
      rintro e w' ⟨rfl, rfl⟩
      go_wp2
      go_ret
      exact ⟨rfl, rfl⟩
  · have hd : decide (0 ≤ s ∧ s < (m.made.length : Int)) = false := by simp [h0]
    rw [hd]
    go_enter Tryz.func133, Tryz.ntmps133
    go_wp2
    go_ret
    exact ⟨rfl, rfl⟩

theorem Is_w (h : m.Ok lo W) (r : Int) : Calls Tryz.prog 58 #[.pointer (some ⟨m.wb, 0, none⟩), .int .i64 r] W fun e w' => e = .returned (.bool (m.get r).isSome) ∧ w' = W := by
  have hN := none_w h
  have hl := look_thing h r
  have c0 := h.blk.cell 2
  simp only [Wm.cells, List.getElem?_toArray, List.getElem?_cons_zero, List.getElem?_cons_succ] at c0
  clear h
  go_enter Tryz.func58, Tryz.ntmps58
  go_wp2_with fail
  refine hN.mono ?_
  rintro e w' ⟨rfl, rfl⟩
  cases hg : m.get r with
  | none =>
    rw [hg] at hl
    simp only [Option.map_none] at hl
    go_wp2
    go_ret
    exact ⟨by rw [hg]; rfl, rfl⟩
  | some x =>
    rw [hg] at hl
    simp only [Option.map_some] at hl
    go_wp2
    go_ret
    exact ⟨by rw [hg]; rfl, rfl⟩
theorem Kind_w (h : m.Ok lo W) (r : Int) : Calls Tryz.prog 44 #[.pointer (some ⟨m.wb, 0, none⟩), .int .i64 r] W fun e w' => e = .returned (.int .u8 (m.kind r)) ∧ w' = W := by
  have hI := Is_w h r
  have hl := look_thing h r
  have c0 := h.blk.cell 2
  simp only [Wm.cells, List.getElem?_toArray, List.getElem?_cons_zero, List.getElem?_cons_succ] at c0
  unfold Wm.kind
  cases hg : m.get r with
  | none =>
    rw [hg] at hI hl
    clear h hg
    go_enter Tryz.func44, Tryz.ntmps44
    go_wp2_with fail
    refine hI.mono ?_
    rintro e w' ⟨rfl, rfl⟩
    go_wp2
    go_ret
    exact ⟨rfl, rfl⟩
  | some x =>
    have hx := Wm.get_mem hg
    have d0 : W.cell? ⟨x.1, 0, none⟩ = some (.int .u8 x.2.kind) := (h.box x hx).cell 0
    rw [hg] at hI hl
    simp only [Option.map_some] at hl
    clear h hg hx
    go_enter Tryz.func44, Tryz.ntmps44
    go_wp2_with fail
    refine hI.mono ?_
    rintro e w' ⟨rfl, rfl⟩
    go_wp2
    go_ret
    exact ⟨rfl, rfl⟩

/-- The home of a thing that is no facet. -/
theorem Home_w (h : m.Ok lo W) {r : Int} {x : Nat × Th} (hg : m.get r = some x) (hk : x.2.kind ≠ 14) : Calls Tryz.prog 88 #[.pointer (some ⟨m.wb, 0, none⟩), .int .i64 r] W fun e w' => e = .returned (.tuple #[.int .i64 x.2.home, .bool true]) ∧ w' = W := by
  have hI := Is_w h r
  have hl := look_thing h r
  have c0 := h.blk.cell 2
  simp only [Wm.cells, List.getElem?_toArray, List.getElem?_cons_zero, List.getElem?_cons_succ] at c0
  have hx := Wm.get_mem hg
  have d0 : W.cell? ⟨x.1, 0, none⟩ = some (.int .u8 x.2.kind) := (h.box x hx).cell 0
  have d1 : W.cell? ⟨x.1, 1, none⟩ = some (.int .i64 x.2.home) := (h.box x hx).cell 1
  have hk' : (x.2.kind == 14) = false := by simpa using hk
  rw [hg] at hI hl
  simp only [Option.map_some] at hl
  clear h hg hx hk
  go_enter Tryz.func88, Tryz.ntmps88
  go_wp2_with fail
  refine hI.mono ?_
  rintro e w' ⟨rfl, rfl⟩
  go_wp2
  go_ret2
  exact ⟨rfl, rfl⟩

theorem Made_w (h : m.Ok lo W) {s : Nat} (hs : s < m.made.length) : Calls Tryz.prog 59 #[.pointer (some ⟨m.wb, 0, none⟩), .int .i64 (s : Int)] W fun e w' => e = .returned (.int .i64 (m.made[s] : Int)) ∧ w' = W := by
  have hI := side_w h (s : Int)
  have hd : decide (0 ≤ (s : Int) ∧ (s : Int) < (m.made.length : Int)) = true := by simp; omega
  rw [hd] at hI
  have c0 := h.blk.cell 5
  simp only [Wm.cells, List.getElem?_toArray, List.getElem?_cons_zero, List.getElem?_cons_succ] at c0
  obtain ⟨A, c, hA⟩ := owns_form h.made
  simp only [Value.slice.injEq, true_and] at hA
  have hz : 0 < m.made.length := by omega
  obtain ⟨g, c, hA2, hg0, hg1⟩ := h.made.form hz
  simp only [Value.slice.injEq, true_and] at hA2
  have d1 : W.cell? ⟨g, s, none⟩ = some (.int .i64 (m.made[s] : Int)) := by
    have := World.ownsRow.cells h.made (g := g) (by rw [hA2.1]; rfl) s (.int .i64 (m.made[s] : Int)) (by simp [hs])
    rwa [add_at, Nat.zero_add] at this
  rw [hA2.1, hA2.2] at c0
  generalize m.made[s] = v at *
  have hb : m.wb < W.heap.size := h.blk.lt
  clear h hA hA2 hd
  go_enter Tryz.func59, Tryz.ntmps59
  go_wp2_with fail
  refine hI.mono ?_
  rintro e w' ⟨rfl, rfl⟩
  go_wp2
  go_ret
  exact ⟨rfl, rfl⟩

theorem there_w (h : m.Ok lo W) : Calls Tryz.prog 83 #[.pointer (some ⟨m.wb, 0, none⟩)] W fun e w' => e = .returned (.bool true) ∧ w' = W := by
  have hS := Sides_w h
  have h1 : decide (0 < m.made.length) = true := by have := h.sides; simp; omega
  clear h
  go_enter Tryz.func83, Tryz.ntmps83
  go_wp2_with fail
  refine hS.mono ?_
  rintro e w' ⟨rfl, rfl⟩
  go_wp2
  go_ret
  exact ⟨rfl, rfl⟩
end

end Go.Proofs.YtlejelbefmkakaaGreat

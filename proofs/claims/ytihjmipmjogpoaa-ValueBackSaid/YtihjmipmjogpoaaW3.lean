/- Chapter 2: Bytes. -/
import Derived.Test.YtihjmipmjogpoaaW2
import Derived.Test.YtihjmipmjogpoaaE9
import Derived.Laws.BytesArg
namespace Go.Proofs.Ytihjmipmjogpoaa
open Go.RowKit

/-- The cells of a row that the call owns. -/
theorem owns_cells {α : Type} {f : α → Value} {w : World} {base : Nat} {e : TypeId} {A : Option Addr} {cap : Nat} {L : List α} (h : w.ownsRow base e 1 (.slice A L.length cap) L.length (L.map f)) (hne : 0 < L.length) :
    ∃ g, A = some ⟨g, 0, none⟩ ∧ g < w.heap.size ∧ ∀ i x, L[i]? = some x → w.cell? ⟨g, i, none⟩ = some (f x) := by
  rcases h.2 with ⟨_, h0⟩ | ⟨g, cap', cur, hs, hb, hg, hc, hm, hsz, hx⟩
  · omega
  · simp at hs
    obtain ⟨rfl, rfl⟩ := hs
    refine ⟨g, rfl, ?_, fun i x hi => ?_⟩
    · rcases Nat.lt_or_ge g w.heap.size with hlt | hge
      · exact hlt
      · rw [Array.getElem?_eq_none hge] at hg; cases hg
    · have hcell : w.cell? ⟨g, i, none⟩ = cur[i]? := cell_of_row w g _ cur e (0, 0) hg
      rw [hcell]
      have h1 : (L.map f)[i]? = some (f x) := by rw [List.getElem?_map, hi]; rfl
      rw [← hx, List.getElem?_take] at h1
      split at h1
      · simpa using h1
      · cases h1

theorem big1_any (r : Int) (w : World) : Calls Try.prog 112 #[.int .i64 r] w fun e w' => e = .returned (.bool (decide (4294967295 < r))) ∧ w' = w := by
  go_enter Try.func112, Try.ntmps112
  go_wp2
  go_ret
  exact ⟨rfl, rfl⟩

set_option maxRecDepth 100000 in
set_option maxHeartbeats 2000000 in
theorem index_any (A : Option Addr) (cap : Nat) (L : List Int) (base : Nat) (w : World) (hL : L.length ≤ 1000000) (h : w.ownsRow base 25 1 (.slice A L.length cap) L.length (L.map fun r => Value.int .i64 r)) :
    Calls Try.prog 138 #[.slice A L.length cap, .func (.func 112) #[] #[]] w fun e w' => (∃ z : Int, e = .returned (.int .i64 z) ∧ ((0 ≤ z ∧ ∃ r ∈ L, 4294967295 < r) ∨ (z = -1 ∧ ∀ r ∈ L, r ≤ 4294967295))) ∧ Fr No w w' := by
  have hB := big1_any
  go_enter Try.func138, Try.ntmps138
  go_wp2_with fail
  go_loopw [8] (fun i wr => ∃ j : Nat, j ≤ L.length ∧ i = .int .i64 j ∧ Fr No w wr ∧ ∀ r ∈ L.take j, r ≤ 4294967295) (fun i _ => L.length - (intOf i).toNat)
  case atStart => exact ⟨0, Nat.zero_le _, rfl, Fr.refl _ _, by simp⟩
  case round =>
    obtain ⟨j, hj, rfl, fr, hall⟩ := hrel
    have HA := hide hall
    clear hall
    by_cases hlt : j < L.length
    · obtain ⟨g, rfl, hg, hc⟩ := owns_cells (owns_fr h fr fun _ _ h => h) (by omega)
      have hcj := hc j L[j] (List.getElem?_eq_getElem hlt)
      have hmem := List.getElem_mem hlt
      have htk : L.take (j + 1) = L.take j ++ [L[j]] := List.take_succ_eq_append_getElem hlt
      generalize L[j] = x at *
      have HM := hide hmem
      have HT := hide htk
      have HF := hide fr
      clear hc hmem htk fr
      by_cases hx : 4294967295 < x
      · have hd : decide ((4294967295 : Int) < x) = true := by simpa using hx
        have hB1 := hB x wr
        rw [hd] at hB1
        clear hd hB h
        go_wp2_with fail
        refine hB1.mono ?_
        rintro e w' ⟨rfl, rfl⟩
        go_wp2
        go_ret
        exact ⟨⟨_, rfl, .inl ⟨by omega, x, HM.out, hx⟩⟩, HF.out⟩
      · have hd : decide ((4294967295 : Int) < x) = false := by simpa using hx
        have hB1 := hB x wr
        rw [hd] at hB1
        clear hd hB h
        go_wp2_with fail
        refine hB1.mono ?_
        rintro e w' ⟨rfl, rfl⟩
        go_wp2
        go_roundw
        case rel =>
          refine ⟨j + 1, hlt, by go_num, HF.out, fun r hr => ?_⟩
          rw [HT.out] at hr
          rcases List.mem_append.1 hr with hr | hr
          · exact HA.out r hr
          · simp at hr; subst hr; omega
        case measure => simp [intOf]; omega
    · obtain rfl : j = L.length := by omega
      have HF := hide fr
      clear fr h
      go_wp2
      go_ret
      exact ⟨⟨-1, rfl, .inr ⟨rfl, by simpa using HA.out⟩⟩, HF.out⟩

theorem contains_any (A : Option Addr) (cap : Nat) (L : List Int) (base : Nat) (w : World) (hL : L.length ≤ 1000000) (h : w.ownsRow base 25 1 (.slice A L.length cap) L.length (L.map fun r => Value.int .i64 r)) :
    Calls Try.prog 111 #[.slice A L.length cap, .func (.func 112) #[] #[]] w fun e w' => (∃ q : Bool, e = .returned (.bool q) ∧ (q = true ↔ ∃ r ∈ L, 4294967295 < r)) ∧ Fr No w w' := by
  have hI := index_any A cap L base w hL h
  clear h
  go_enter Try.func111, Try.ntmps111
  go_wp2_with fail
  refine hI.mono ?_
  rintro e w2 ⟨⟨z, rfl, hz⟩, fr2⟩
  rcases hz with ⟨h0, hr⟩ | ⟨rfl, hr⟩
  · have h1 : decide ((0 : Int) ≤ z) = true := by simpa using h0
    have HR := hide hr
    clear hr
    go_wp2
    go_ret
    exact ⟨⟨true, rfl, by simpa using HR.out⟩, fr2⟩
  · have HR := hide hr
    clear hr
    go_wp2
    go_ret
    refine ⟨⟨false, rfl, ?_⟩, fr2⟩
    simp
    exact fun r h => HR.out r h

/-- Whether a value has bytes. -/
def V.hasBytes (v : V) : Prop := v.may = true ∧ ∀ r ∈ v.refs, r ≤ 4294967295

/-- Its bytes, as a string. -/
def V.encS (v : V) : ByteArray := strOfNums (v.enc.map fun (x : Nat) => (x : Int))

def BytesP (v : V) (w : World) (e : Ending) (w' : World) : Prop :=
  Fr No w w' ∧ (v.hasBytes → e = .returned (.tuple #[.string v.encS, .int .i64 0])) ∧ (¬ v.hasBytes → e = .returned (.tuple #[.string ⟨#[]⟩, .int .i64 2]))

end Go.Proofs.Ytihjmipmjogpoaa

/- Chapter 2: the law's own smallAll. -/
import Derived.Test.YtihjmipmjogpoaaA2
import Derived.Test.YtihjmipmjogpoaaU1
namespace Go.Proofs.Ytihjmipmjogpoaa
open Go.RowKit

/-- What smallAll says of some values. -/
def SmallAll (l : List V) : Prop := l.length ≤ 600 ∧ (∀ v ∈ l, v.size ≤ 1200 ∧ v.ht ≤ 40) ∧ (l.map V.size).sum ≤ 3600

def SmallAllP (l : List V) (w : World) (e : Ending) (w' : World) : Prop := (∃ b : Bool, e = .returned (.bool b) ∧ (b = true → SmallAll l)) ∧ Fr No w w'

set_option maxRecDepth 100000 in
set_option maxHeartbeats 4000000 in
theorem smallAll_any (A : Option Addr) (cap : Nat) (l : List T) (w : World) (lo hi : Nat) (ht : (T.row A cap l).In w lo hi) (hh : hi ≤ w.heap.size) :
    Calls Try.prog 53 #[.slice A l.length cap] w (SmallAllP (l.map T.v) w) := by
  have hlen := (T.in_mk.1 ht).1.len1
  by_cases hbig : (600 : Int) < (l.length : Int)
  · go_enter Try.func53, Try.ntmps53
    go_wp2
    go_ret
    exact ⟨⟨false, rfl, (fun h => by cases h)⟩, Fr.refl _ _⟩
  · have hbig' : l.length ≤ 600 := by omega
    go_enter Try.func53, Try.ntmps53
    go_wp2_with fail
    go_loopw [3, 4, 5] (fun v i _ wr => ∃ j m : Nat, j ≤ l.length ∧ i = .int .i64 (j : Int) ∧ v = .int .i64 (m : Int) ∧ m = (((l.map T.v).take j).map V.size).sum ∧ m ≤ 3600 ∧ (∀ x ∈ (l.map T.v).take j, x.size ≤ 1200 ∧ x.ht ≤ 40) ∧ Fr No w wr) (fun _ i _ _ => l.length - (intOf i).toNat)
    case atStart => exact ⟨0, 0, Nat.zero_le _, rfl, rfl, by simp, by omega, by simp, Fr.refl _ _⟩
    case round =>
      obtain ⟨j, m, hj, rfl, rfl, hm, hmr, hall, fr⟩ := hrel
      have HM := hide hm
      have HA := hide hall
      clear hm hall
      by_cases hlt : j < l.length
      · obtain ⟨b, o, k1, n1, s1, A1, cap1, l1, r1, rfl, hb0, hb1', hx, hin, e0, e1, e2, e3, e4⟩ := T.elem (ht.no fr hh) hlt
        have hc := small_any l[j] 1200 40 wr lo hi (by rw [hx]; exact hin) (by have := fr.size; omega) (by omega) (by omega) (by omega) (by omega)
        have hj' : j < (l.map T.v).length := by simpa using hlt
        have hxv : (l.map T.v)[j] = (T.mk k1 n1 s1 A1 cap1 l1 r1).v := by rw [List.getElem_map, hx]
        rw [hx, T.val_mk] at hc
        generalize (T.mk k1 n1 s1 A1 cap1 l1 r1).v = u at *
        have g0 : b < wr.heap.size := by have := fr.size; omega
        have HF := hide fr
        have HX := hide hxv
        have hup := u.size_pos
        by_cases hfit : (u.size : Int) ≤ 1200 ∧ (u.ht : Int) ≤ 40
        · rw [smallOf_yes hfit] at hc
          have HC := hide hc
          obtain ⟨hf1, hf2⟩ := hfit
          have hnn : decide ((u.size : Int) < 0) = false := by simp
          clear hxv hx fr hc hin
          generalize hq : u.size = q at *
          have HQ := hide hq
          clear hq
          by_cases h24 : (2400 : Int) < (m : Int)
          · go_wp2_with fail
            refine HC.out.mono ?_
            rintro e w2 ⟨rfl, fr2⟩
            have HF2 := hide (HF.out.trans fr2)
            clear fr2
            go_wp2
            go_ret
            exact ⟨⟨false, rfl, (fun h => by cases h)⟩, HF2.out⟩
          · go_wp2_with fail
            refine HC.out.mono ?_
            rintro e w2 ⟨rfl, fr2⟩
            have HF2 := hide (HF.out.trans fr2)
            clear fr2
            go_wp2
            go_roundw
            case rel =>
              have ht2 : (l.map T.v).take (j + 1) = (l.map T.v).take j ++ [u] := by rw [List.take_succ_eq_append_getElem hj', HX.out]
              refine ⟨j + 1, m + q, hlt, by go_num, by go_num, ?_, by omega, ?_, HF2.out⟩
              · rw [ht2, List.map_append, List.sum_append_nat, ← HM.out, ← HQ.out]; simp
              · intro x hx2
                rw [ht2, List.mem_append] at hx2
                rcases hx2 with h | h
                · exact HA.out x h
                · simp at h; subst h; exact ⟨by rw [HQ.out]; omega, by omega⟩
            case measure => simp [intOf]; omega
        · rw [smallOf_no hfit] at hc
          have HC := hide hc
          clear hxv hx fr hc hin hfit
          go_wp2_with fail
          refine HC.out.mono ?_
          rintro e w2 ⟨rfl, fr2⟩
          have HF2 := hide (HF.out.trans fr2)
          clear fr2
          go_wp2
          go_ret
          exact ⟨⟨false, rfl, (fun h => by cases h)⟩, HF2.out⟩
      · obtain rfl : l.length = j := by omega
        have HW := hide fr
        clear fr
        go_wp2
        go_ret
        have ht2 : (l.map T.v).take l.length = l.map T.v := List.take_of_length_le (by simp)
        have h1 := HM.out
        have h2 := HA.out
        rw [ht2] at h1 h2
        exact ⟨⟨true, rfl, fun _ => ⟨by simpa using hbig', h2, by omega⟩⟩, HW.out⟩

end Go.Proofs.Ytihjmipmjogpoaa

/- Chapter 2: the law's own small: is a value small enough to be copied whole? -/
import Derived.Test.YtihjmipmjogpoaaE1
import Derived.Test.YtihjmipmjogpoaaR0
namespace Go.Proofs.Ytihjmipmjogpoaa
open Go.RowKit

/-- What small answers. -/
def smallOf (v : V) (room deep : Int) : Int := if (v.size : Int) ≤ room ∧ (v.ht : Int) ≤ deep then v.size else -1

theorem smallOf_no {v : V} {room deep : Int} (h : ¬ ((v.size : Int) ≤ room ∧ (v.ht : Int) ≤ deep)) : smallOf v room deep = -1 := if_neg h
theorem smallOf_yes {v : V} {room deep : Int} (h : (v.size : Int) ≤ room ∧ (v.ht : Int) ≤ deep) : smallOf v room deep = v.size := if_pos h

theorem sum_len (l : List V) : l.length ≤ (l.map V.size).sum := by
  induction l with
  | nil => simp
  | cons x l ih => have := x.size_pos; simp; omega

/-- A part that does not fit. -/
theorem small_stop {k n : Int} {s : ByteArray} {l : List V} {r room deep : Int} {j : Nat} (hj : j < l.length) (h : ¬ ((l[j].size : Int) ≤ room - (1 + sizeTo l j : Nat) ∧ (l[j].ht : Int) ≤ deep - 1)) : smallOf (.mk k n s l r) room deep = -1 := by
  refine smallOf_no fun ⟨h1, h2⟩ => h ⟨?_, ?_⟩
  · rw [V.size_mk] at h1
    have := sizeTo_succ l j hj
    have := sizeTo_le l (j + 1)
    omega
  · have := ht_child (k := k) (n := n) (s := s) (r := r) (List.getElem_mem hj)
    omega

theorem small_done {k n : Int} {s : ByteArray} {l : List V} {r room deep : Int} (h1 : ((1 + sizeTo l l.length : Nat) : Int) ≤ room) (h0 : 0 ≤ deep) (h2 : ∀ x ∈ l, (x.ht : Int) ≤ deep - 1) : smallOf (.mk k n s l r) room deep = ((1 + sizeTo l l.length : Nat) : Int) := by
  have e : (V.mk k n s l r).size = 1 + sizeTo l l.length := by rw [V.size_mk, sizeTo_all]
  rw [smallOf_yes ⟨by rw [e]; exact h1, ?_⟩, e]
  have : (V.mk k n s l r).ht ≤ deep.toNat := by
    rw [V.ht_mk]
    refine top1_le fun y hy => ?_
    obtain ⟨x, hx, rfl⟩ := List.mem_map.1 hy
    have := h2 x hx
    omega
  omega

set_option maxRecDepth 100000 in
set_option maxHeartbeats 4000000 in
theorem small_any (t : T) : ∀ (room deep : Int) (w : World) (lo hi : Nat), t.In w lo hi → hi ≤ w.heap.size → -10000 ≤ room → room ≤ 10000 → -1 ≤ deep → deep ≤ 100 →
    Calls Try.prog 39 #[t.val, .int .i64 room, .int .i64 deep] w fun e w' => e = .returned (.int .i64 (smallOf t.v room deep)) ∧ Fr No w w' := by
  induction t using T.ind with
  | h k n s A cap l r ih =>
    intro room deep w lo hi ht hh hr0 hr1 hd0 hd1
    rw [T.val_mk]
    have hlen := (T.in_mk.1 ht).1.len1
    have fr1 := (Fr.refl No w).alloc (.cells #[.int .u8 k, .int .i64 n, .string s, .slice A l.length cap, .int .i64 r] 27)
    have hK := Blk.new' w 27 #[.int .u8 k, .int .i64 n, .string s, .slice A l.length cap, .int .i64 r] rfl
    have hsz : (T.mk k n s A cap l r).v.size = 1 + (((l.map T.v).map V.size).sum) := by rw [T.v_mk, V.size_mk]
    have hls := sum_len (l.map T.v)
    rw [List.length_map] at hls
    by_cases hb : deep < 0 ∨ room < 1 ∨ room ≤ (l.length : Int)
    · have e : smallOf (T.mk k n s A cap l r).v room deep = -1 := smallOf_no fun ⟨h1, h2⟩ => by omega
      rw [e]
      clear ih hsz
      by_cases hb1 : deep < 0
      · go_enter Try.func39, Try.ntmps39
        go_wp2
        go_ret
        exact ⟨rfl, fr1⟩
      have hb1' : decide (deep < 0) = false := by simpa using hb1
      by_cases hb2 : room < 1
      · go_enter Try.func39, Try.ntmps39
        go_wp2
        go_ret
        exact ⟨rfl, fr1⟩
      have hb2' : decide (room < 1) = false := by simpa using hb2
      have hb3 : room ≤ (l.length : Int) := by omega
      go_enter Try.func39, Try.ntmps39
      go_wp2
      go_ret
      exact ⟨rfl, fr1⟩
    · have hb1 : decide (deep < 0) = false := by simp; omega
      have hb2 : decide (room < 1) = false := by simp; omega
      have hb3 : ¬ room ≤ (l.length : Int) := by omega
      have hd2 : 0 ≤ deep := by omega
      have hr2 : 1 ≤ room := by omega
      have HSZ := hide hsz
      clear hb hsz
      obtain ⟨c0, c1, c2, c3, c4, cf⟩ := hK.cells5
      have q0 := hK.lt
      go_enter Try.func39, Try.ntmps39
      go_wp2_with fail
      go_loopw [7, 8, 9] (fun v i _ wr => ∃ j m : Nat, j ≤ l.length ∧ i = .int .i64 (j : Int) ∧ v = .int .i64 (m : Int) ∧ m = 1 + sizeTo (l.map T.v) j ∧ (m : Int) ≤ room ∧ (∀ x ∈ (l.map T.v).take j, (x.ht : Int) ≤ deep - 1) ∧ Fr No (w.alloc (.cells #[.int .u8 k, .int .i64 n, .string s, .slice A l.length cap, .int .i64 r] 27)) wr) (fun _ i _ _ => l.length - (intOf i).toNat)
      case atStart => exact ⟨0, 1, Nat.zero_le _, rfl, rfl, by simp [sizeTo_zero], by omega, by simp, Fr.refl _ _⟩
      case round =>
        obtain ⟨j, m, hj, rfl, rfl, hm, hmr, hall, fr⟩ := hrel
        obtain ⟨d0, d1, d2, d3, d4, df⟩ := (hK.fr fr fun h => h).cells5
        have frw := fr1.trans fr
        have HM := hide hm
        have HA := hide hall
        clear hm hall c0 c1 c2 c3 c4 cf
        by_cases hlt : j < l.length
        · obtain ⟨b, o, k1, n1, s1, A1, cap1, l1, r1, rfl, hb0, hb1', hx, hin, e0, e1, e2, e3, e4⟩ := T.elem (ht.no frw hh) hlt
          have hIH := fun room deep => ih l[j] (List.getElem_mem hlt) room deep wr lo hi (by rw [hx]; exact hin) (by have := frw.size; omega)
          have hj' : j < (l.map T.v).length := by simpa using hlt
          have hxv : (l.map T.v)[j] = (T.mk k1 n1 s1 A1 cap1 l1 r1).v := by rw [List.getElem_map, hx]
          have hto := sizeTo_succ (l.map T.v) j hj'
          have hst := fun h => small_stop (k := k) (n := n) (s := s) (r := r) (room := room) (deep := deep) hj' h
          rw [hxv] at hto hst
          rw [hx, T.val_mk] at hIH
          generalize (T.mk k1 n1 s1 A1 cap1 l1 r1).v = u at *
          have g0 : b < wr.heap.size := by have := frw.size; omega
          have hle : m ≤ 10000 := by omega
          have HF := hide fr
          have HW := hide frw
          have hup := u.size_pos
          by_cases hfit : (u.size : Int) ≤ room - (m : Int) ∧ (u.ht : Int) ≤ deep - 1
          · have hc := hIH (room - (m : Int)) (deep - 1) (by omega) (by omega) (by omega) (by omega)
            rw [smallOf_yes hfit] at hc
            have HC := hide hc
            have HT := hide hto
            have HX := hide hxv
            obtain ⟨hf1, hf2⟩ := hfit
            have hnn : ¬ ((u.size : Int) < 0) := by omega
            clear hIH hst hto hxv hx ih fr frw fr1 hc hin hls
            generalize hq : u.size = q at *
            have HQ := hide hq
            clear hq
            go_wp2_with fail
            refine HC.out.mono ?_
            rintro e w2 ⟨rfl, fr2⟩
            have HF2 := hide fr2
            clear fr2
            go_wp2
            go_roundw
            case rel =>
              refine ⟨j + 1, m + q, hlt, by go_num, by go_num, ?_, by omega, ?_, HF.out.trans HF2.out⟩
              · rw [HT.out, HM.out]; omega
              · intro x hx2
                rw [List.take_succ_eq_append_getElem hj', List.mem_append, HX.out] at hx2
                rcases hx2 with h | h
                · exact HA.out x h
                · simp at h; subst h; exact hf2
            case measure => simp [intOf]; omega
          · have hc := hIH (room - (m : Int)) (deep - 1) (by omega) (by omega) (by omega) (by omega)
            rw [smallOf_no hfit] at hc
            have hno : smallOf (T.mk k n s (some ⟨b, o, none⟩) cap l r).v room deep = -1 := by rw [T.v_mk]; exact hst (by rw [← HM.out]; exact hfit)
            have HC := hide hc
            have HNO := hide hno
            clear hIH hst hto hxv hx ih fr frw fr1 hc hin hls hfit hno
            go_wp2_with fail
            refine HC.out.mono ?_
            rintro e w2 ⟨rfl, fr2⟩
            have HF2 := hide (HW.out.trans fr2)
            clear fr2
            go_wp2
            go_ret
            exact ⟨by rw [HNO.out]; rfl, HF2.out⟩
        · obtain rfl : l.length = j := by omega
          have hdone : smallOf (T.mk k n s A cap l r).v room deep = (m : Int) := by
            rw [T.v_mk, HM.out]
            have h1 : (l.map T.v).length = l.length := by simp
            have := small_done (k := k) (n := n) (s := s) (l := l.map T.v) (r := r) (room := room) (deep := deep) (by rw [h1, ← HM.out]; exact hmr) hd2 (fun x hx => HA.out x (by rw [List.take_of_length_le (by simp)]; exact hx))
            rw [this, h1]
          have HD := hide hdone
          have HW := hide frw
          clear hdone ih fr frw fr1 hls
          go_wp2
          go_ret
          exact ⟨by rw [HD.out]; rfl, HW.out⟩

end Go.Proofs.Ytihjmipmjogpoaa

/- The document's answer: field, fields, May of a value. -/
import Derived.Test.YtihjmipmjogpoaaR1
namespace Go.Proofs.Ytihjmipmjogpoaa
open Go.RowKit

theorem int_beq (r : Int) : (r == 0) = decide (r = 0) := by rw [Bool.eq_iff_iff]; simp

theorem toListE : (⟨#[]⟩ : ByteArray).toList = [] := by rw [ByteArray.toList_eq]

set_option maxRecDepth 100000 in
set_option maxHeartbeats 4000000 in
theorem field_any (k n : Int) (s : ByteArray) (A : Option Addr) (cap len : Nat) (r : Int) (w : World) (hk0 : 0 ≤ k) (hk1 : k < 256) :
    Calls Try.prog 134 #[.agg #[.int .u8 k, .int .i64 n, .string s, .slice A len cap, .int .i64 r]] w fun e w' => e = .returned (.bool (fok k n s len r)) ∧ Fr No w w' := by
  by_cases h0 : k = 0
  · subst h0
    go_enter Try.func134, Try.ntmps134
    go_wp2
    all_goals
      go_ret
      refine ⟨congrArg (fun b => Ending.returned (.bool b)) ?_, (Fr.refl No w).alloc _⟩
      (first | (simp [fok, len_beq, toListE, int_beq, *]; done) | (simp [fok, len_beq, toListE, int_beq, *]; omega) | (simp [fok, len_beq, toListE, int_beq, *]; intros; omega))
  · have k0 : (k == 0) = false := by simp; exact h0
    by_cases h1 : k = 1
    · subst h1
      go_enter Try.func134, Try.ntmps134
      go_wp2
      all_goals
        go_ret
        refine ⟨congrArg (fun b => Ending.returned (.bool b)) ?_, (Fr.refl No w).alloc _⟩
        (first | (simp [fok, len_beq, toListE, int_beq, *]; done) | (simp [fok, len_beq, toListE, int_beq, *]; omega) | (simp [fok, len_beq, toListE, int_beq, *]; intros; omega))
    · have k1 : (k == 1) = false := by simp; exact h1
      by_cases h2 : k = 2
      · subst h2
        by_cases hs : s.size ≤ 256
        · have hs' : (s.size : Int) ≤ 256 := by omega
          go_enter Try.func134, Try.ntmps134
          go_wp2
          all_goals
            go_ret
            refine ⟨congrArg (fun b => Ending.returned (.bool b)) ?_, (Fr.refl No w).alloc _⟩
            (first | (simp [fok, len_beq, toListE, int_beq, *]; done) | (simp [fok, len_beq, toListE, int_beq, *]; omega) | (simp [fok, len_beq, toListE, int_beq, *]; intros; omega))
        · have hs' : ¬ (s.size : Int) ≤ 256 := by omega
          go_enter Try.func134, Try.ntmps134
          go_wp2
          all_goals
            go_ret
            refine ⟨congrArg (fun b => Ending.returned (.bool b)) ?_, (Fr.refl No w).alloc _⟩
            (first | (simp [fok, len_beq, toListE, int_beq, *]; done) | (simp [fok, len_beq, toListE, int_beq, *]; omega) | (simp [fok, len_beq, toListE, int_beq, *]; intros; omega))
      · have k2 : (k == 2) = false := by simp; exact h2
        by_cases h3 : k = 3
        · subst h3
          go_enter Try.func134, Try.ntmps134
          go_wp2
          all_goals
            go_ret
            refine ⟨congrArg (fun b => Ending.returned (.bool b)) ?_, (Fr.refl No w).alloc _⟩
            (first | (simp [fok, len_beq, toListE, int_beq, *]; done) | (simp [fok, len_beq, toListE, int_beq, *]; omega) | (simp [fok, len_beq, toListE, int_beq, *]; intros; omega))
        · have k3 : (k == 3) = false := by simp; exact h3
          by_cases h4 : k = 4
          · subst h4
            by_cases hr : 1 ≤ r
            · go_enter Try.func134, Try.ntmps134
              go_wp2
              all_goals
                go_ret
                refine ⟨congrArg (fun b => Ending.returned (.bool b)) ?_, (Fr.refl No w).alloc _⟩
                (first | (simp [fok, len_beq, toListE, int_beq, *]; done) | (simp [fok, len_beq, toListE, int_beq, *]; omega) | (simp [fok, len_beq, toListE, int_beq, *]; intros; omega))
            · go_enter Try.func134, Try.ntmps134
              go_wp2
              all_goals
                go_ret
                refine ⟨congrArg (fun b => Ending.returned (.bool b)) ?_, (Fr.refl No w).alloc _⟩
                (first | (simp [fok, len_beq, toListE, int_beq, *]; done) | (simp [fok, len_beq, toListE, int_beq, *]; omega) | (simp [fok, len_beq, toListE, int_beq, *]; intros; omega))
          · have k4 : (k == 4) = false := by simp; exact h4
            go_enter Try.func134, Try.ntmps134
            go_wp2
            all_goals
              go_ret
              refine ⟨congrArg (fun b => Ending.returned (.bool b)) ?_, (Fr.refl No w).alloc _⟩
              (first | (simp [fok, len_beq, toListE, int_beq, *]; done) | (simp [fok, len_beq, toListE, int_beq, *]; omega) | (simp [fok, len_beq, toListE, int_beq, *]; intros; omega))

theorem take_all_ok {l : List V} {j : Nat} (h : ∀ i (hi : i < l.length), i < j → l[i].ok = true) (hj : j = l.length) : l.all V.ok = true := by
  rw [List.all_eq_true]
  intro x hx
  obtain ⟨i, hi, rfl⟩ := List.mem_iff_getElem.1 hx
  exact h i hi (by omega)

set_option maxRecDepth 100000 in
set_option maxHeartbeats 2000000 in
theorem fields_any (t : T) : ∀ (w : World) (lo hi : Nat), t.In w lo hi → hi ≤ w.heap.size → Calls Try.prog 87 #[t.val] w fun e w' => e = .returned (.bool t.v.ok) ∧ Fr No w w' := by
  induction t using T.ind with
  | h k n s A cap l r ih =>
    intro w lo hi ht hh
    rw [T.val_mk]
    have fit := (T.in_mk.1 ht).1
    have hlen := fit.len1
    have hk0 := fit.k0
    have hk1 := fit.k1
    have hF := fun w' => field_any k n s A cap l.length r w' hk0 hk1
    have fr1 := (Fr.refl No w).alloc (.cells #[.int .u8 k, .int .i64 n, .string s, .slice A l.length cap, .int .i64 r] 27)
    go_enter Try.func87, Try.ntmps87
    go_wp2_with fail
    go_loopw [3] (fun i wr => ∃ j : Nat, j ≤ l.length ∧ i = .int .i64 j ∧ (∀ i (hi : i < l.length), i < j → l[i].v.ok = true) ∧ Fr No (w.alloc (.cells #[.int .u8 k, .int .i64 n, .string s, .slice A l.length cap, .int .i64 r] 27)) wr) (fun i _ => l.length - (intOf i).toNat)
    case atStart =>
      exact ⟨0, Nat.zero_le _, rfl, fun i h hi => absurd hi (by omega), Fr.refl _ _⟩
    case round =>
      obtain ⟨j, hj, rfl, hall, fr⟩ := hrel
      have hK := (Blk.new' w 27 #[.int .u8 k, .int .i64 n, .string s, .slice A l.length cap, .int .i64 r] rfl).fr fr (fun h => h)
      obtain ⟨c0, c1, c2, c3, c4, cf⟩ := hK.cells5
      have frw := fr1.trans fr
      have hszr := hK.lt
      have HA := hide hall
      clear hall
      by_cases hlt : j < l.length
      · obtain ⟨b, o, k1, n1, s1, A1, cap1, l1, r1, rfl, hb0, hb1, hx, hin, e0, e1, e2, e3, e4⟩ := T.elem (ht.no frw hh) hlt
        have IH := ih l[j] (List.getElem_mem hlt)
        rw [hx, T.val_mk] at IH
        have g0 : b < wr.heap.size := by have := frw.size; omega
        have HX := hide hx
        have HF := hide fr
        have HW := hide frw
        clear hx ih fr frw fr1 hF
        go_wp2_with fail
        refine (IH wr lo hi hin (by have := HW.out.size; omega)).mono ?_
        rintro e w2 ⟨rfl, fr2⟩
        have HF2 := hide fr2
        clear fr2
        cases hq : (T.mk k1 n1 s1 A1 cap1 l1 r1).v.ok with
        | false =>
          go_wp2
          go_ret
          refine ⟨?_, HW.out.trans HF2.out⟩
          rw [T.v_mk, V.ok_mk]
          have hz : (l.map T.v).all V.ok = false := by
            rw [List.all_eq_false]
            exact ⟨l[j].v, List.mem_map_of_mem (List.getElem_mem hlt), by rw [HX.out, hq]; simp⟩
          rw [hz]; simp
        | true =>
          have HQ := hide hq
          clear hq
          go_wp2
          go_roundw
          case rel =>
            refine ⟨j + 1, hlt, by go_num, fun i hi hij => ?_, HF.out.trans HF2.out⟩
            rcases Nat.lt_or_ge i j with h | h
            · exact HA.out i hi h
            · obtain rfl : i = j := by omega
              rw [HX.out]; exact HQ.out
          case measure => simp [intOf]; omega
      · obtain rfl : l.length = j := by omega
        have HW := hide frw
        clear ih
        go_wp2_with fail
        refine (hF wr).mono ?_
        rintro e w2 ⟨rfl, fr2⟩
        go_wp2
        go_ret
        refine ⟨?_, HW.out.trans fr2⟩
        rw [T.v_mk, V.ok_mk, take_all_ok (j := l.length) (fun i hi hij => by rw [List.getElem_map]; exact HA.out i (by simpa using hi) hij) (by simp)]
        simp

set_option maxRecDepth 100000 in
set_option maxHeartbeats 2000000 in
theorem rmay_any (t : T) (w : World) (lo hi : Nat) (ht : t.In w lo hi) (hh : hi ≤ w.heap.size) :
    Calls Try.prog 21 #[t.val] w fun e w' => e = .returned (.bool t.v.may) ∧ Fr No w w' := by
  have hP := fun w' h h' => rparts_any t w' 0 lo hi h h' (by omega)
  have hD := fun w' h h' => rdeep_any t w' lo hi h h'
  have hO := fun w' h h' => fields_any t w' lo hi h h'
  cases t with
  | mk k n s A cap l r =>
    rw [T.val_mk] at *
    generalize hv : (T.mk k n s A cap l r).v = u at *
    have HV := hide hv
    clear hv
    have fr1 := (Fr.refl No w).alloc (.cells #[.int .u8 k, .int .i64 n, .string s, .slice A l.length cap, .int .i64 r] 27)
    have hK : Blk (w.alloc (.cells #[.int .u8 k, .int .i64 n, .string s, .slice A l.length cap, .int .i64 r] 27)) w.heap.size 27 _ := Blk.new _ _ _
    go_enter Try.func21, Try.ntmps21
    go_wp2_with fail
    generalize World.alloc w _ = W0 at *
    have hs0 := fr1.size
    refine (hP W0 (ht.no fr1 hh) (by omega)).mono ?_
    rintro e w2 ⟨z, rfl, hz, fr2⟩
    have hm := may_iff hz
    have h3 := hz.2.2.1
    have hz2 := hz.2.1
    have hK2 := hK.fr fr2 (fun h => h)
    have fr12 := fr1.trans fr2
    have ht2 := ht.no fr12 hh
    have hs2 := fr12.size
    clear hz hP hK fr1 fr2
    by_cases h5 : z ≤ 512
    · have h5' : (z : Int) ≤ 512 := by omega
      obtain ⟨-, hht⟩ := h3 h5
      obtain ⟨c0, c1, c2, c3, c4, cf⟩ := hK2.cells5
      have hlt := hK2.lt
      have HM := hide hm
      have HF := hide fr12
      have HK := hide hK2
      clear hm fr12 hK2 h3
      go_wp2_with fail
      refine (hD w2 ht2 (by omega) (by omega)).mono ?_
      rintro e w3 ⟨rfl, fr3⟩
      have hdep := dep_le_ht u
      obtain ⟨d0, d1, d2, d3, d4, df⟩ := (HK.out.fr fr3 (fun h => h)).cells5
      have hlt3 := (HK.out.fr fr3 (fun h => h)).lt
      have ht3 := ht2.no fr3 (by omega)
      have hs3 := fr3.size
      have HF3 := hide (HF.out.trans fr3)
      clear fr3 c0 c1 c2 c3 c4 cf
      by_cases h16 : u.dep ≤ 16
      · have h16' : (u.dep : Int) ≤ 16 := by omega
        go_wp2_with fail
        refine (hO w3 ht3 (by omega)).mono ?_
        rintro e w4 ⟨rfl, fr4⟩
        have e1 : u.may = u.ok := by rw [HM.out]; simp [h5, h16]
        have E1 := hide e1
        clear e1
        go_wp2
        go_ret
        exact ⟨by rw [E1.out]; rfl, HF3.out.trans fr4⟩
      · have h16' : ¬ (u.dep : Int) ≤ 16 := by omega
        have e1 : u.may = false := by rw [HM.out]; simp [h16]
        have E1 := hide e1
        clear e1
        go_wp2
        go_ret
        exact ⟨by rw [E1.out]; rfl, HF3.out⟩
    · have h5' : ¬ (z : Int) ≤ 512 := by omega
      have e1 : u.may = false := by rw [hm]; simp [h5]
      have E1 := hide e1
      have HF := hide fr12
      clear e1 hm fr12
      go_wp2
      go_ret
      exact ⟨by rw [E1.out]; rfl, HF.out⟩

end Go.Proofs.Ytihjmipmjogpoaa

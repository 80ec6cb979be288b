/- Keys: the document's answer; brand's. -/
import Derived.Test.YtihjmipmjogpoaaR3
import Derived.Test.YtihjmipmjogpoaaK3
import Derived.Test.YtihjmipmjogpoaaB5
namespace Go.Proofs.Ytihjmipmjogpoaa
open Go.RowKit

set_option maxRecDepth 100000 in
set_option maxHeartbeats 2000000 in
theorem rkeys_any (t : T) : ∀ (w : World) (lo hi : Nat), t.In w lo hi → hi ≤ w.heap.size → t.v.ok = true → Calls Try.prog 24 #[t.val] w fun e w' => e = .returned (.bool t.v.keys) ∧ Fr No w w' := by
  induction t using T.ind with
  | h k n s A cap l r ih =>
    intro w lo hi ht hh hok
    rw [T.val_mk]
    have fit := (T.in_mk.1 ht).1
    have hlen := fit.len1
    have hA := fun w' => shape_any k n s A cap l.length r w' fit.k0 fit.k1 fit.len1
    have hok1 := hok
    rw [T.v_mk, V.ok_mk, Bool.and_eq_true] at hok1
    have hkk := fok_kind hok1.1
    have hkeys : (T.mk k n s A cap l r).v.keys = if k = 3 then decide (l.length = 2) && (l.map T.v).all V.keys else true := by
      rw [T.v_mk, V.keys_mk, List.length_map]
    have fr1 := (Fr.refl No w).alloc (.cells #[.int .u8 k, .int .i64 n, .string s, .slice A l.length cap, .int .i64 r] 27)
    have hK0 := (Blk.new' w 27 #[.int .u8 k, .int .i64 n, .string s, .slice A l.length cap, .int .i64 r] rfl)
    have hmax : rshape k l.length ≤ 255 ∧ 0 ≤ rshape k l.length := by
      unfold rshape; have := fit.k0; have := fit.k1; split <;> omega
    generalize hsa : rshape k l.length = sa at *
    have HOK := hide hok1
    have HKE := hide hkeys
    have HSA := hide hsa
    clear hok hok1 hkeys hsa
    go_enter Try.func24, Try.ntmps24
    go_wp2_with fail
    generalize hW0 : World.alloc w _ = W0 at *
    clear hW0
    refine (hA W0).mono ?_
    rintro e w1 ⟨rfl, frs⟩
    have hK1 := hK0.fr frs (fun h => h)
    have frw1 := fr1.trans frs
    clear fr1 frs hK0
    obtain ⟨c0, c1, c2, c3, c4, cf⟩ := hK1.cells5
    have q0 := hK1.lt
    by_cases h5 : sa = 5
    · have h5' : (sa == 5) = true := by simpa using h5
      obtain ⟨hk3, hl2⟩ := rshape5 hkk (HSA.out.trans h5)
      have e1 : (T.mk k n s A cap l r).v.keys = false := by rw [HKE.out, if_pos hk3]; simp [hl2]
      have E1 := hide e1
      clear e1 hk3 hl2 h5 ih
      go_wp2
      go_ret
      exact ⟨by rw [E1.out]; rfl, frw1⟩
    · have h5' : (sa == 5) = false := by simpa using h5
      have hkeys : (T.mk k n s A cap l r).v.keys = (l.map T.v).all V.keys := by
        rw [HKE.out]
        by_cases hk3 : k = 3
        · have : l.length = 2 := by
            have h := HSA.out
            unfold rshape at h
            split at h
            · exact absurd h.symm h5
            · omega
          rw [if_pos hk3, this]; simp
        · rw [if_neg hk3]
          have := fok_len hk3 HOK.out.1
          simp only [List.length_map] at this
          rw [List.eq_nil_of_length_eq_zero this]; rfl
      have HKY := hide hkeys
      clear hkeys h5
      go_wp2_with fail
      go_loopw [3] (fun i wr => ∃ j : Nat, j ≤ l.length ∧ i = .int .i64 j ∧ (∀ i (hi : i < l.length), i < j → l[i].v.keys = true) ∧ Fr No w1 wr) (fun i _ => l.length - (intOf i).toNat)
      case atStart =>
        exact ⟨0, Nat.zero_le _, rfl, fun i h hi => absurd hi (by omega), Fr.refl _ _⟩
      case round =>
        obtain ⟨j, hj, rfl, hall, fr⟩ := hrel
        have hK := hK1.fr fr (fun h => h)
        clear c0 c1 c2 c3 c4 cf q0
        obtain ⟨c0, c1, c2, c3, c4, cf⟩ := hK.cells5
        have frw := frw1.trans fr
        have hszr := hK.lt
        have HA := hide hall
        clear hall
        by_cases hlt : j < l.length
        · obtain ⟨b, o, k1, n1, s1, A1, cap1, l1, r1, rfl, hb0, hb1, hx, hin, e0, e1, e2, e3, e4⟩ := T.elem (ht.no frw hh) hlt
          have hokx : l[j].v.ok = true := List.all_eq_true.1 HOK.out.2 _ (List.mem_map_of_mem (List.getElem_mem hlt))
          have IH := ih l[j] (List.getElem_mem hlt)
          rw [hx] at hokx
          rw [hx, T.val_mk] at IH
          have g0 : b < wr.heap.size := by have := frw.size; omega
          have HX := hide hx
          have HF := hide fr
          have HW := hide frw
          clear hx ih fr frw frw1
          go_wp2_with fail
          refine (IH wr lo hi hin (by have := HW.out.size; omega) hokx).mono ?_
          rintro e w2 ⟨rfl, fr2⟩
          have HF2 := hide fr2
          clear fr2
          cases hq : (T.mk k1 n1 s1 A1 cap1 l1 r1).v.keys with
          | false =>
            have e1 : (T.mk k n s (some ⟨b, o, none⟩) cap l r).v.keys = false := by
              rw [HKY.out, List.all_eq_false]
              exact ⟨l[j].v, List.mem_map_of_mem (List.getElem_mem hlt), by rw [HX.out, hq]; simp⟩
            have E1 := hide e1
            clear e1
            go_wp2
            go_ret
            exact ⟨by rw [E1.out]; rfl, HW.out.trans HF2.out⟩
          | true =>
            have HQ := hide hq
            clear hq
            go_wp2
            go_roundw
            case rel =>
              refine ⟨j + 1, hlt, by go_num, fun i hi hij => ?_, HF.out.trans HF2.out⟩
              rcases Nat.lt_or_ge i j with h | h
              · exact HA.out i hi h
              · obtain rfl : i = j := by omega
                rw [HX.out]; exact HQ.out
            case measure => simp [intOf]; omega
        · obtain rfl : l.length = j := by omega
          have e1 : (T.mk k n s A cap l r).v.keys = true := by
            rw [HKY.out, List.all_eq_true]
            intro x hx
            obtain ⟨y, hy, rfl⟩ := List.mem_map.1 hx
            obtain ⟨i, hi, rfl⟩ := List.mem_iff_getElem.1 hy
            exact HA.out i hi hi
          have E1 := hide e1
          have HW := hide frw
          clear e1 ih
          go_wp2
          go_ret
          exact ⟨by rw [E1.out]; rfl, HW.out⟩

set_option maxRecDepth 100000 in
set_option maxHeartbeats 2000000 in
theorem bkeys_any (t : T) (w : World) (lo hi : Nat) (ht : t.In w lo hi) (hh : hi ≤ w.heap.size) :
    Calls Try.prog 23 #[t.val] w fun e w' => e = .returned (.tuple #[.bool (t.v.may && t.v.keys), .int .i64 (if t.v.may = true then 0 else 2)]) ∧ Fr No w w' := by
  have hO := fun w' h h' => Of_any t w' lo hi h h'
  cases t with
  | mk k n s A cap l r =>
    rw [T.val_mk] at *
    generalize hv : (T.mk k n s A cap l r).v = u at *
    have fr1 := (Fr.refl No w).alloc (.cells #[.int .u8 k, .int .i64 n, .string s, .slice A l.length cap, .int .i64 r] 27)
    cases hm : u.may with
    | false =>
      go_enter Try.func23, Try.ntmps23
      go_wp2_with fail
      refine (hO _ (ht.no fr1 hh) (by simp; omega)).mono ?_
      rintro e w2 ⟨-, h⟩
      obtain ⟨rfl, fr2⟩ := h hm
      go_wp2
      refine bodyPost_ret (v := .tuple #[.bool false, .int .i64 2]) (by simp [results, Try.results23, go_sem, *]) rfl ?_
      exact ⟨rfl, fr1.trans fr2⟩
    | true =>
      have hd := may_dep hm
      have HM := hide hm
      go_enter Try.func23, Try.ntmps23
      go_wp2_with fail
      refine (hO _ (ht.no fr1 hh) (by simp; omega)).mono ?_
      rintro e w2 ⟨h, -⟩
      obtain ⟨m, rfl, hmk, fr2⟩ := h HM.out
      obtain ⟨ty, y, rfl⟩ := hmk.iface
      clear h hm
      go_wp2_with fail
      refine (key_any u ty y hmk hd w2).mono ?_
      rintro e w3 ⟨rfl, fr3⟩
      go_wp2
      refine bodyPost_ret (v := .tuple #[.bool u.keys, .int .i64 0]) (by simp [results, Try.results23, go_sem, *]) rfl ?_
      exact ⟨by simp, (fr1.trans fr2).trans fr3⟩

end Go.Proofs.Ytihjmipmjogpoaa

/- Texts joined: J16, J17, P6, J18, J19. -/
import Derived.Test.YtihjmipmjogpoaaJn8
import Derived.Laws.OwnMore
import Derived.OwnWalk
import Derived.Deep.Cut
/- Chapter 2: the document's answer: Write. -/
namespace Go.Proofs.Ytihjmipmjogpoaa
open Go.RowKit

set_option maxRecDepth 100000 in
set_option maxHeartbeats 4000000 in
theorem refWrite_any (t : T) (w : World) (lo hi : Nat) (ht : t.In w lo hi) (hh : hi ≤ w.heap.size) : Calls Try.prog 47 #[t.val] w (BytesP t.v w) := by
  have hM := fun w' h h' => refMay_any t w' lo hi h h'
  have hR := fun w' h h' h2 => refRefs_any t w' lo hi h h' h2
  have hWr := fun w' h h' h2 h3 => bytes_any t w' lo hi h h' h2 h3
  cases t with
  | mk k n s A cap l r =>
    rw [T.val_mk] at *
    generalize hu : (T.mk k n s A cap l r).v = u at *
    have fr1 := (Fr.refl No w).alloc (.cells #[.int .u8 k, .int .i64 n, .string s, .slice A l.length cap, .int .i64 r] 27)
    have hK := Blk.new' w 27 #[.int .u8 k, .int .i64 n, .string s, .slice A l.length cap, .int .i64 r] rfl
    have ht1 := ht.no fr1 hh
    have hs1 := Nat.le_trans hh fr1.size
    have HU := hide hu
    clear hu ht
    cases hm : u.may with
    | false =>
      have hP : ∀ w', Fr No w w' → BytesP u w (.returned (.tuple #[.string ⟨#[]⟩, .int .i64 2])) w' := fun w' f => ⟨f, (fun h => absurd h.1 (by rw [hm]; simp)), fun _ => rfl⟩
      have HP := hide hP
      rw [hm] at hM
      clear hm hP hWr hR
      go_enter Try.func47, Try.ntmps47
      go_wp2_with fail
      refine (hM _ ht1 hs1).mono ?_
      rintro e w2 ⟨rfl, fr2⟩
      go_wp2
      go_ret2
      exact HP.out _ (fr1.trans fr2)
    | true =>
      have hok := may_ok hm
      have hsz : u.size ≤ 512 := by simp [V.may, V.fits] at hm; omega
      have hrf := refs_rf hm
      have hrl : u.rf.length ≤ 1000000 := by have := rf_length u; omega
      have hel := enc_length u hok
      have HMM := hide hm
      have HRF := hide hrf
      rw [hm] at hM
      have HWR := hide (fun w' h h' => hWr w' h h' hok (by omega))
      clear hm hrf hWr
      go_enter Try.func47, Try.ntmps47
      go_wp2_with fail
      generalize World.alloc w _ = W0 at *
      refine (hM _ ht1 hs1).mono ?_
      rintro e w2 ⟨rfl, fr2⟩
      have hK2 := hK.fr fr2 fun h => h
      obtain ⟨c0, c1, c2, c3, c4, cf⟩ := hK2.cells5
      have q0 := hK2.lt
      have ht2 := ht1.no fr2 hs1
      have hs2 := Nat.le_trans hs1 fr2.size
      have HF2 := hide (fr1.trans fr2)
      clear fr1 fr2 hK hM
      go_wp2_with fail
      refine (hR _ ht2 hs2 (by omega)).mono ?_
      rintro e w3 ⟨vr, rfl, hor, -, fr3⟩
      obtain ⟨Ar, cr, rfl⟩ := owns_form hor
      have hK3 := hK2.fr fr3 fun h => h
      have ht3 := ht2.no fr3 hs2
      have hs3 := Nat.le_trans hs2 fr3.size
      have HF3 := hide (HF2.out.trans fr3)
      have HOR := hide hor
      have HK3 := hide hK3
      have HT3 := hide ht3
      generalize hLL : u.rf = R at *
      have HLL := hide hLL
      clear c0 c1 c2 c3 c4 cf q0 hor fr3 hK2 hR hK3 ht3 ht2 hLL
      go_wp2_with fail
      go_loopw [5] (fun i wr => ∃ j : Nat, j ≤ R.length ∧ i = .int .i64 j ∧ Fr No w3 wr ∧ ∀ r ∈ R.take j, r ≤ 4294967295) (fun i _ => R.length - (intOf i).toNat)
      case atStart => exact ⟨0, Nat.zero_le _, rfl, Fr.refl _ _, by simp⟩
      case round =>
        obtain ⟨j, hj, rfl, fr, hall⟩ := hrel
        have HALL := hide hall
        clear hall
        by_cases hlt : j < R.length
        · have hown := owns_fr HOR.out fr fun _ _ h => h
          obtain ⟨g, c, hA, -, hgl⟩ := hown.form (by omega)
          simp only [Value.slice.injEq, true_and] at hA
          obtain ⟨rfl, rfl⟩ := hA
          have e1 := hown.cellAt j (by omega)
          have e2 : (refCells R)[j]? = some (.int .i64 R[j]) := by simp [refCells, hlt]
          rw [e2] at e1
          have htk : R.take (j + 1) = R.take j ++ [R[j]] := List.take_succ_eq_append_getElem hlt
          have hmem := List.getElem_mem hlt
          generalize R[j] = y at *
          have HTK := hide htk
          have HF := hide fr
          have HMEM := hide hmem
          clear htk hown e2 fr hmem
          by_cases hy : 4294967295 < y
          · have hP : ∀ w', Fr No w w' → BytesP u w (.returned (.tuple #[.string ⟨#[]⟩, .int .i64 2])) w' := fun w' f => ⟨f, (fun h => by
              have := h.2 y (by rw [HRF.out]; exact HMEM.out)
              omega), fun _ => rfl⟩
            have HP := hide hP
            clear hP
            go_wp2
            go_ret2
            exact HP.out _ (HF3.out.trans HF.out)
          · go_wp2
            go_roundw
            case rel =>
              refine ⟨j + 1, hlt, by go_num, HF.out, fun r hr => ?_⟩
              rw [HTK.out] at hr
              rcases List.mem_append.1 hr with hr | hr
              · exact HALL.out r hr
              · simp at hr; subst hr; omega
            case measure => simp [intOf]; omega
        · obtain rfl : j = R.length := by omega
          have hhas : u.hasBytes := ⟨HMM.out, fun r hr => by
            rw [HRF.out] at hr
            exact HALL.out r (by rw [List.take_length]; exact hr)⟩
          have HH := hide hhas
          have hKr := HK3.out.fr fr fun h => h
          obtain ⟨c0, c1, c2, c3, c4, cf⟩ := hKr.cells5
          have q0 := hKr.lt
          have hw := HWR.out wr (HT3.out.no fr hs3) (Nat.le_trans hs3 fr.size)
          have HW := hide hw
          have HFR := hide (HF3.out.trans fr)
          clear hw hhas hKr fr hj hlt
          go_wp2_with fail
          refine HW.out.mono ?_
          rintro e w5 ⟨v5, rfl, ho5, f5⟩
          rw [List.nil_append] at ho5
          obtain ⟨A5, c5, rfl⟩ := owns_form ho5
          have hcv := conv_owned ho5 (enc_pos u)
          have f6 : Fr No w w5 := HFR.out.trans' f5 fun i hi h => by have := HFR.out.size; have := h.1; omega
          have HF6 := hide f6
          clear ho5 f5 f6 c0 c1 c2 c3 c4 cf
          go_wp2
          go_ret2
          exact ⟨HF6.out, fun _ => rfl, fun h => absurd HH.out h⟩

end Go.Proofs.Ytihjmipmjogpoaa

/- Chapter 2: the document's answer: number. -/
namespace Go.Proofs.Ytihjmipmjogpoaa
open Go.RowKit

/-- What number answers. -/
def numR (s : ByteArray) (len : Nat) : Value :=
  match cutN s len with
  | none => .tuple #[.int .u64 0, .string s, .bool false]
  | some q => .tuple #[.int .u64 (q.1 : Int), .string q.2, .bool true]

theorem numR_no {s : ByteArray} {len : Nat} (h : s.size < len) : numR s len = .tuple #[.int .u64 0, .string s, .bool false] := by
  unfold numR; rw [cutN_none h]
theorem numR_yes {s : ByteArray} {len : Nat} (h : len ≤ s.size) : numR s len = .tuple #[.int .u64 (bigN (strB (s.extract 0 len)) : Int), .string (s.extract len s.size), .bool true] := by
  unfold numR; rw [cutN_some h]

theorem strB_extract (s : ByteArray) (len : Nat) : strB (s.extract 0 len) = (strB s).take len := by
  simp [strB, ByteArray.data_extract, List.map_take]

set_option maxRecDepth 100000 in
set_option maxHeartbeats 4000000 in
theorem refNumber_any (s : ByteArray) (len : Nat) (w : World) (hlen : len ≤ 8) (hs : s.size ≤ 4000000) : Calls Try.prog 144 #[.string s, .int .i64 (len : Int)] w fun e w' => e = .returned (numR s len) ∧ Fr No w w' := by
  by_cases h : s.size < len
  · have hN := hide (numR_no h)
    have h' : (s.size : Int) < (len : Int) := by omega
    clear h
    go_enter Try.func144, Try.ntmps144
    go_wp2
    go_ret3
    exact ⟨by rw [hN.out]; rfl, Fr.refl _ _⟩
  · have hle : len ≤ s.size := by omega
    have hN := hide (numR_yes hle)
    have h' : ¬ (s.size : Int) < (len : Int) := by omega
    have hl8 : (len : Int) ≤ 8 := by omega
    clear h
    go_enter Try.func144, Try.ntmps144
    go_wp2_with fail
    go_loopw [7, 8] (fun x i wr => ∃ j : Nat, j ≤ len ∧ i = .int .i64 j ∧ x = .int .u64 (bigN ((strB s).take j) : Int) ∧ Fr No w wr) (fun _ i _ => len - (intOf i).toNat)
    case atStart => exact ⟨0, Nat.zero_le _, rfl, rfl, Fr.refl _ _⟩
    case round =>
      obtain ⟨j, hj, rfl, rfl, fr⟩ := hrel
      by_cases hlt : j < len
      · have hjs : j < s.size := by omega
        have hjl : j < (strB s).length := by rw [strB_length]; exact hjs
        have htk : (strB s).take (j + 1) = (strB s).take j ++ [(strB s)[j]] := List.take_succ_eq_append_getElem hjl
        have hx : (strB s)[j] < 256 := strB_lt s _ (List.getElem_mem hjl)
        have hbl : bigN ((strB s).take j) < 256 ^ j := by
          have := bigN_lt ((strB s).take j) (fun x hx => strB_lt s x (List.mem_of_mem_take hx))
          rwa [List.length_take, Nat.min_eq_left (by omega)] at this
        have hcx : IntKind.u64.wrap ((s[j]'hjs).toNat : Int) = (((strB s)[j] : Nat) : Int) := by
          have e : (s[j]'hjs).toNat = (strB s)[j] := by simp [strB]; rfl
          rw [e, IntKind.wrap_u64]; omega
        have hb2 : bigN ((strB s).take j) < 72057594037927936 := Nat.lt_of_lt_of_le hbl (by have : (256 : Nat) ^ j ≤ 256 ^ 7 := Nat.pow_le_pow_right (by omega) (by omega); simpa using this)
        have HF := hide fr
        have HCX := hide hcx
        have HTK := hide htk
        clear fr hbl hcx htk
        go_wp2_with fail
        go_roundw
        case rel => exact ⟨j + 1, hlt, by go_num, by rw [HCX.out, HTK.out, bigN_snoc, or_shift _ _ hb2 hx]; simp, HF.out⟩
        case measure => simp [intOf]; omega
      · obtain rfl : j = len := by omega
        have hz : (s.size : Int) ≤ 4000000 := by omega
        have hl3 : (j : Int) ≤ (s.size : Int) := by omega
        have HF := hide fr
        clear fr
        go_wp2_with fail
        go_quiet (fail)
        go_wp2
        go_ret3
        exact ⟨by rw [hN.out, strB_extract]; rfl, HF.out.drewN _⟩

end Go.Proofs.Ytihjmipmjogpoaa

/- Chapter 2: Own, At: their answers lie in rows of their own. -/
namespace Go.Proofs.Ytihjmipmjogpoaa
open Go.RowKit

theorem T.zero_sh (w : World) (lo hi : Nat) : T.zero.Sh w lo hi := T.sh_leaf ⟨by decide, by decide, by decide, by decide, by decide, by decide, by decide, by decide, by decide⟩

def OwnE2 (v : V) (n : Int) (w : World) (e : Ending) (w' : World) : Prop :=
  ∃ t' : T, e = .returned (.tuple #[t'.val, .int .i64 n]) ∧ t'.v = v ∧ t'.Sh w' w.heap.size w'.heap.size ∧ Fr No w w'

set_option maxHeartbeats 1000000 in
theorem Own2_any (t : T) (w : World) (lo hi : Nat) (ht : t.In w lo hi) (hh : hi ≤ w.heap.size) :
    Calls Try.prog 61 #[t.val] w (OwnE2 (if t.v.may = true then t.v else V.zero) (if t.v.may = true then 0 else 2) w) := by
  have hM := fun w' h h' => may_any t w' lo hi h h'
  have hO := fun w' h h' => own2_any t w' lo hi h h'
  cases t with
  | mk k n s A cap l r =>
    rw [T.val_mk] at *
    cases hm : (T.mk k n s A cap l r).v.may
    · rw [hm] at hM
      go_enter Try.func61, Try.ntmps61
      go_wp2_with fail
      refine (hM _ (ht.no (((Fr.refl No w).alloc _).alloc _) hh) (by simp; omega)).mono ?_
      rintro e w2 ⟨rfl, fr2⟩
      have hsz := fr2.size
      simp only [World.size_alloc] at hsz
      have hs0 : w.heap.size + 1 < w2.heap.size := by omega
      have b1 := (Blk.new' (w.alloc (.cells #[.int .u8 k, .int .i64 n, .string s, .slice A l.length cap, .int .i64 r] 27)) 27 #[.int .u8 0, .int .i64 0, .string ⟨#[]⟩, .slice none 0 0, .int .i64 0] (g := w.heap.size + 1) (by simp)).fr fr2 (fun h => h)
      obtain ⟨d0, d1, d2, d3, d4, df⟩ := b1.cells5
      have hF2 : Fr No w w2 := (((Fr.refl No w).alloc _).alloc _).trans fr2
      have HF := hide hF2
      clear b1 hO hF2
      go_wp2
      refine bodyPost_ret (v := .tuple #[.agg #[.int .u8 0, .int .i64 0, .string ⟨#[]⟩, .slice none 0 0, .int .i64 0], .int .i64 2]) (by simp [results, Try.results61, go_sem, *]) rfl ?_
      have hF2 := HF.out
      exact ⟨T.zero, rfl, T.zero_v, T.zero_sh _ _ _, (by repeat (first | with_reducible exact hF2 | with_reducible refine Fr.setNew ?_ (by simp) _ | with_reducible refine Fr.alloc ?_ _))⟩
    · rw [hm] at hM
      go_enter Try.func61, Try.ntmps61
      go_wp2_with fail
      refine (hM _ (ht.no (((Fr.refl No w).alloc _).alloc _) hh) (by simp; omega)).mono ?_
      rintro e w2 ⟨rfl, fr2⟩
      have hsz := fr2.size
      simp only [World.size_alloc] at hsz
      have hs0 : w.heap.size + 1 < w2.heap.size := by omega
      have b0 := ((Blk.new' w 27 #[.int .u8 k, .int .i64 n, .string s, .slice A l.length cap, .int .i64 r] (g := w.heap.size) rfl).alloc (.cells #[.int .u8 0, .int .i64 0, .string ⟨#[]⟩, .slice none 0 0, .int .i64 0] 27)).fr fr2 (fun h => h)
      have b1 := (Blk.new' (w.alloc (.cells #[.int .u8 k, .int .i64 n, .string s, .slice A l.length cap, .int .i64 r] 27)) 27 #[.int .u8 0, .int .i64 0, .string ⟨#[]⟩, .slice none 0 0, .int .i64 0] (g := w.heap.size + 1) (by simp)).fr fr2 (fun h => h)
      obtain ⟨c0, c1, c2, c3, c4, cf⟩ := b0.cells5
      obtain ⟨d0, d1, d2, d3, d4, df⟩ := b1.cells5
      have hF2 : Fr No w w2 := (((Fr.refl No w).alloc _).alloc _).trans fr2
      have HT := hide (ht.no hF2 hh)
      clear ht
      have HF := hide hF2
      have HB := hide b1
      clear b1 b0 hF2
      go_wp2_with fail
      refine (hO _ HT.out (by omega)).mono ?_
      rintro e w3 ⟨t', rfl, hv, ow, fr3⟩
      have b1 := HB.out.fr fr3 (fun h => h)
      obtain ⟨d0, d1, d2, d3, d4, df⟩ := b1.cells5
      have hF2 := HF.out.trans fr3
      have HF2 := hide hF2
      have HV := hide hv
      have HO := hide ow
      have hsz3 := fr3.size
      clear hv ow hF2 b1
      cases t' with
      | mk k2 n2 s2 A2 cap2 l2 r2 =>
        rw [T.val_mk]
        go_wp2
        refine bodyPost_ret (v := .tuple #[.agg #[.int .u8 k2, .int .i64 n2, .string s2, .slice A2 l2.length cap2, .int .i64 r2], .int .i64 0]) (by simp [results, Try.results61, go_sem, *]) rfl ?_
        have hF2 := HF2.out
        refine ⟨T.mk k2 n2 s2 A2 cap2 l2 r2, rfl, HV.out, ?_, (by repeat (first | with_reducible exact hF2 | with_reducible refine Fr.setNew ?_ (by simp) _ | with_reducible refine Fr.alloc ?_ _))⟩
        refine (HO.out.fr' (S := (· = w.heap.size + 1)) ?_ (fun i h0 h1 h2 => by have h' : i = w.heap.size + 1 := h2; omega)).more (by omega) (by simp)
        repeat (first | with_reducible exact Fr.refl _ w3 | with_reducible refine Fr.set ?_ (by simp) _)

set_option maxRecDepth 100000 in
set_option maxHeartbeats 4000000 in
theorem At2_any (t : T) (w : World) (lo hi : Nat) (ht : t.In w lo hi) (hh : hi ≤ w.heap.size) (A : Option Addr) (cap : Nat) (p : List Int) (lo' hi' : Nat) (hp : Ints w lo' hi' A cap p) (hh' : hi' ≤ w.heap.size) :
    Calls Try.prog 68 #[t.val, .slice A p.length cap] w (OwnE2 (atOf t.v p).1 (atOf t.v p).2 w) := by
  have hM := fun w' h h' => may_any t w' lo hi h h'
  have hF := fun w' h h' h1 h2 => find2_any t w' lo hi h h' A cap p lo' hi' h1 h2
  have hO := own2_any
  cases t with
  | mk k n s A1 cap1 l r =>
    rw [T.val_mk] at *
    generalize hu : (T.mk k n s A1 cap1 l r).v = u at *
    have fr1 : Fr No w ((w.alloc (.cells #[.int .u8 k, .int .i64 n, .string s, .slice A1 l.length cap1, .int .i64 r] 27)).alloc (.cells #[.int .u8 0, .int .i64 0, .string ⟨#[]⟩, .slice none 0 0, .int .i64 0] 27)) := ((Fr.refl No w).alloc _).alloc _
    have hK : Blk ((w.alloc (.cells #[.int .u8 k, .int .i64 n, .string s, .slice A1 l.length cap1, .int .i64 r] 27)).alloc (.cells #[.int .u8 0, .int .i64 0, .string ⟨#[]⟩, .slice none 0 0, .int .i64 0] 27)) w.heap.size 27 #[.int .u8 k, .int .i64 n, .string s, .slice A1 l.length cap1, .int .i64 r] := (Blk.new' w 27 _ rfl).alloc _
    have hZ : Blk ((w.alloc (.cells #[.int .u8 k, .int .i64 n, .string s, .slice A1 l.length cap1, .int .i64 r] 27)).alloc (.cells #[.int .u8 0, .int .i64 0, .string ⟨#[]⟩, .slice none 0 0, .int .i64 0] 27)) (w.heap.size + 1) 27 #[.int .u8 0, .int .i64 0, .string ⟨#[]⟩, .slice none 0 0, .int .i64 0] := Blk.new' (w.alloc _) 27 _ (by simp)
    have ht1 := ht.no fr1 hh
    have hp1 := hp.no fr1 hh'
    have hs0 : w.heap.size + 2 ≤ ((w.alloc (.cells #[.int .u8 k, .int .i64 n, .string s, .slice A1 l.length cap1, .int .i64 r] 27)).alloc (.cells #[.int .u8 0, .int .i64 0, .string ⟨#[]⟩, .slice none 0 0, .int .i64 0] 27)).heap.size := by simp
    have HU := hide hu
    clear hu ht hp
    cases hm : u.may with
    | false =>
      have e1 : atOf u p = (V.zero, 2) := by simp [atOf, hm]
      rw [e1]
      rw [hm] at hM
      clear hm e1 hF
      go_enter Try.func68, Try.ntmps68
      go_wp2_with fail
      generalize World.alloc _ (.cells #[.int .u8 0, .int .i64 0, .string ⟨#[]⟩, .slice none 0 0, .int .i64 0] 27) = W0 at *
      refine (hM _ ht1 (by omega)).mono ?_
      rintro e w2 ⟨rfl, fr2⟩
      have hZ2 := hZ.fr fr2 fun h => h
      obtain ⟨d0, d1, d2, d3, d4, df⟩ := hZ2.cells5
      have q0 := hZ2.lt
      have HF := hide (fr1.trans fr2)
      clear fr1 fr2 hK hZ hZ2 hM
      go_wp2
      refine bodyPost_ret (v := .tuple #[.agg #[.int .u8 0, .int .i64 0, .string ⟨#[]⟩, .slice none 0 0, .int .i64 0], .int .i64 2]) (by simp [results, Try.results68, go_sem, *]) rfl ?_
      have hF2 := HF.out
      refine ⟨T.zero, rfl, T.zero_v, T.zero_sh _ _ _, ?_⟩
      repeat (first | with_reducible exact hF2 | with_reducible refine Fr.setNew ?_ (by first | (simp; done) | (simp; omega)) _)
    | true =>
      have e1 : atOf u p = (match vAt p u with | some x => (x, 0) | none => (V.zero, 22)) := by unfold atOf; rw [if_pos hm]; rfl
      have E1 := hide e1
      rw [hm] at hM
      clear hm e1
      go_enter Try.func68, Try.ntmps68
      go_wp2_with fail
      generalize World.alloc _ (.cells #[.int .u8 0, .int .i64 0, .string ⟨#[]⟩, .slice none 0 0, .int .i64 0] 27) = W0 at *
      refine (hM _ ht1 (by omega)).mono ?_
      rintro e w2 ⟨rfl, fr2⟩
      have hZ2 := hZ.fr fr2 fun h => h
      obtain ⟨c0, c1, c2, c3, c4, cf⟩ := (hK.fr fr2 fun h => h).cells5
      have ht2 := ht1.no fr2 (by omega)
      have hp2 := hp1.no fr2 (by omega)
      have hs2 := fr2.size
      have HF := hide (fr1.trans fr2)
      clear fr1 fr2 hK hZ hM
      go_wp2_with fail
      refine (hF _ ht2 (by omega) hp2 (by omega)).mono ?_
      rintro e w3 ⟨fr3, hP⟩
      have hZ3 := hZ2.fr fr3 fun h => h
      have hs3 := fr3.size
      have HF3 := hide (HF.out.trans fr3)
      clear c0 c1 c2 c3 c4 cf hF hZ2 fr3
      rcases hP with ⟨⟨k2, n2, s2, A2, cap2, l2, r2⟩, rfl, hv, hin⟩ | ⟨rfl, hv⟩
      · have e2 : atOf u p = ((T.mk k2 n2 s2 A2 cap2 l2 r2).v, 0) := by rw [E1.out, hv]
        have E2 := hide e2
        rw [T.val_mk]
        have frB := (Fr.refl No w3).alloc (.cells #[.int .u8 k2, .int .i64 n2, .string s2, .slice A2 l2.length cap2, .int .i64 r2] 27)
        have hinB := hin.no frB (by omega)
        have hO1 := hO (T.mk k2 n2 s2 A2 cap2 l2 r2) (w3.alloc (.cells #[.int .u8 k2, .int .i64 n2, .string s2, .slice A2 l2.length cap2, .int .i64 r2] 27)) lo hi hinB (Nat.le_trans (by omega) frB.size)
        rw [T.val_mk] at hO1
        have HO := hide hO1
        have HZB := hide (hZ3.alloc (.cells #[.int .u8 k2, .int .i64 n2, .string s2, .slice A2 l2.length cap2, .int .i64 r2] 27))
        have HFB := hide (HF3.out.alloc (.cells #[.int .u8 k2, .int .i64 n2, .string s2, .slice A2 l2.length cap2, .int .i64 r2] 27))
        have hsB : w.heap.size + 2 ≤ (w3.alloc (.cells #[.int .u8 k2, .int .i64 n2, .string s2, .slice A2 l2.length cap2, .int .i64 r2] 27)).heap.size := by simp; omega
        have HSB := hide hsB
        clear e2 hv hin frB hinB hO1 hZ3 hO hsB
        go_wp2_with fail
        refine HO.out.mono ?_
        rintro e w4 ⟨⟨k3, n3, s3, A3, cap3, l3, r3⟩, rfl, hv3, how, fr4⟩
        rw [T.val_mk]
        have hZ4 := HZB.out.fr fr4 fun h => h
        obtain ⟨d0, d1, d2, d3, d4, df⟩ := hZ4.cells5
        have q0 := hZ4.lt
        have HF4 := hide (HFB.out.trans fr4)
        have HV3 := hide hv3
        have HOW := hide how
        have hs5 := HSB.out
        have hs6 := fr4.size
        clear hZ4 fr4 hv3 how
        go_wp2
        refine bodyPost_ret (v := .tuple #[.agg #[.int .u8 k3, .int .i64 n3, .string s3, .slice A3 l3.length cap3, .int .i64 r3], .int .i64 0]) (by simp [results, Try.results68, go_sem, *]) rfl ?_
        have hF2 := HF4.out
        have hO2 := HOW.out
        refine ⟨T.mk k3 n3 s3 A3 cap3 l3 r3, by rw [E2.out]; rfl, by rw [E2.out]; exact HV3.out, ?_, ?_⟩
        · refine ((hO2.fr' (S := (· = w.heap.size + 1)) ?_ (fun i h0 h1 h2 => by have h' : i = w.heap.size + 1 := h2; omega)).more (by omega) (by simp))
          repeat (first | with_reducible exact Fr.refl _ w4 | with_reducible refine Fr.set ?_ (by simp) _)
        · repeat (first | with_reducible exact hF2 | with_reducible refine Fr.setNew ?_ (by first | (simp; done) | (simp; omega)) _)
      · have e2 : atOf u p = (V.zero, 22) := by rw [E1.out, hv]
        have E2 := hide e2
        clear e2 hv hO
        have HZ3 := hide (hZ3.alloc (.cells #[.int .u8 0, .int .i64 0, .string ⟨#[]⟩, .slice none 0 0, .int .i64 0] 27))
        obtain ⟨d0, d1, d2, d3, d4, df⟩ := hZ3.cells5
        have q0 := hZ3.lt
        clear hZ3
        go_wp2
        refine bodyPost_ret (v := .tuple #[.agg #[.int .u8 0, .int .i64 0, .string ⟨#[]⟩, .slice none 0 0, .int .i64 0], .int .i64 22]) (by simp [results, Try.results68, go_sem, *]) rfl ?_
        have hF2 := HF3.out
        refine ⟨T.zero, by rw [E2.out]; rfl, by rw [E2.out]; exact T.zero_v, T.zero_sh _ _ _, ?_⟩
        repeat (first | with_reducible exact hF2 | with_reducible refine Fr.setNew ?_ (by first | (simp; done) | (simp; omega)) _ | with_reducible refine Fr.alloc ?_ _)

end Go.Proofs.Ytihjmipmjogpoaa

/- Chapter 2: the document's answer: front. -/
namespace Go.Proofs.Ytihjmipmjogpoaa
open Go.RowKit

/-- What the document's front leaves. -/
structure RFr (g : Got) (n : Nat) (w : World) (e : Ending) (w' : World) : Prop where
  fr : Fr No w w'
  no : g = none → e = .returned (.tuple #[zeroVal, .string ⟨#[]⟩, .int .i64 (-1)])
  yes : ∀ u s' n', g = some (u, s', n') → ∃ t : T, t.v = u ∧ e = .returned (.tuple #[t.val, .string s', .int .i64 ((n : Int) - n')]) ∧ t.In w' w.heap.size w'.heap.size

theorem size_zero {s : ByteArray} (h : s.size = 0) : s = ⟨#[]⟩ := by
  cases s with
  | mk a =>
    have h' : a.size = 0 := h
    rw [Array.eq_empty_of_size_eq_zero h']

theorem num_back (x : Nat) (h : x < 18446744073709551616) : IntKind.i64.wrap (bits .xor .u64 (x : Int) 9223372036854775808) = (x : Int) - 9223372036854775808 := by
  have hw : ∃ y : Nat, bits .xor .u64 (x : Int) 9223372036854775808 = (y : Int) ∧ y < 18446744073709551616 ∧ y = (x ^^^ 9223372036854775808 : Nat) := by
    have hlt : (x ^^^ 9223372036854775808 : Nat) < 18446744073709551616 := by
      have := Nat.xor_lt_two_pow (x := x) (y := 9223372036854775808) (n := 64) (by omega) (by decide)
      omega
    refine ⟨_, ?_, hlt, rfl⟩
    show IntKind.u64.wrap ((BitVec.ofInt 64 (x : Int) ^^^ BitVec.ofInt 64 9223372036854775808).toNat : Int) = _
    rw [show (9223372036854775808 : Int) = ((9223372036854775808 : Nat) : Int) from rfl, BitVec.ofInt_natCast, BitVec.ofInt_natCast, BitVec.toNat_xor, BitVec.toNat_ofNat, BitVec.toNat_ofNat, Nat.mod_eq_of_lt (by omega), Nat.mod_eq_of_lt (by omega), IntKind.wrap_u64]
    omega
  obtain ⟨y, hy, hlt, hx⟩ := hw
  rw [hy, IntKind.wrap_i64]
  rcases Nat.lt_or_ge x 9223372036854775808 with h1 | h1
  · rw [xor63 x h1] at hx; omega
  · have e : x = (x - 9223372036854775808) ^^^ 9223372036854775808 := by rw [xor63 _ (by omega)]; omega
    rw [e, Nat.xor_assoc, Nat.xor_self, Nat.xor_zero] at hx
    omega

theorem cutN_lt {s s' : ByteArray} {k x : Nat} (h : cutN s k = some (x, s')) : x < 256 ^ k ∧ s'.size ≤ s.size := by
  have h2 := cutN_le h
  unfold cutN at h
  split at h
  · rename_i hk
    injection h with h
    injection h with h _
    subst h
    have h3 := bigN_lt (strB (s.extract 0 k)) (strB_lt _)
    rw [strB_length, ByteArray.size_extract] at h3
    rw [show min k s.size - 0 = k by omega] at h3
    exact ⟨h3, h2⟩
  · cases h

theorem numR_none {s : ByteArray} {k : Nat} (h : cutN s k = none) : numR s k = .tuple #[.int .u64 0, .string s, .bool false] := by unfold numR; rw [h]
theorem numR_some {s s' : ByteArray} {k x : Nat} (h : cutN s k = some (x, s')) : numR s k = .tuple #[.int .u64 (x : Int), .string s', .bool true] := by unfold numR; rw [h]

/-- Where the reading of a list's parts stands. -/
structure FL (W : World) (c m j : Nat) (g : ByteArray → Nat → Got) (s0 : ByteArray) (n0 : Nat) (A : Option Addr) (cap : Nat) (l : List T) (s3 : ByteArray) (n3 : Nat) (wr : World) : Prop where
  fr : Fr (fun i => i = c) W wr
  len : l.length = j
  box : Blk wr c 27 #[.int .u8 3, .int .i64 0, .string ⟨#[]⟩, .slice A j cap, .int .i64 0]
  row : wr.ownsRow W.heap.size 27 5 (.slice A j cap) j (rowCells l)
  ins : ∀ x ∈ l, x.In wr W.heap.size wr.heap.size
  sep : ∀ x ∈ l, ∀ b ∈ x.blocks, (Value.slice A j cap).ownBlock ≠ some b
  n : n3 ≤ n0
  s : s3.size ≤ 4000000
  says : parseL g m s0 n0 = (parseL g (m - j) s3 n3).map fun y => (l.map T.v ++ y.1, y.2)

theorem FL.push {W wr w6 w7 : World} {c m j : Nat} {g : ByteArray → Nat → Got} {s0 : ByteArray} {n0 : Nat} {A : Option Addr} {cap : Nat} {l : List T} {s3 : ByteArray} {n3 : Nat} (h : FL W c m j g s0 n0 A cap l s3 n3 wr) (hc : c < W.heap.size) (hj : j < m) {t : T} {s4 : ByteArray} {n4 : Nat} (hg : g s3 n3 = some (t.v, s4, n4)) (hle : s4.size ≤ s3.size ∧ n4 ≤ n3)
    (f6 : Fr No wr w6) (ht : t.In w6 wr.heap.size w6.heap.size) {o1 o2 : Obj} {g' cap' : Nat} (hgrow : ((w6.alloc o1).alloc o2).grownBy w7 (Value.slice A j cap).ownBlock) (hown : w7.ownsRow W.heap.size 27 5 (.slice (some ⟨g', 0, none⟩) (j + 1) cap') (j + 1) (rowCells l ++ t.cells))
    (hat : (Value.slice A j cap).ownBlock = some g' ∨ g' = w6.heap.size + 2) :
    FL W c m (j + 1) g s0 n0 (some ⟨g', 0, none⟩) cap' (l ++ [t]) s4 n4 (w7.setCell ⟨c, 3, none⟩ (.slice (some ⟨g', 0, none⟩) (j + 1) cap')) := by
  have hol := owns_lt h.row
  have hs5 := h.fr.size
  have hs6 := f6.size
  have f7 : Fr (fun i => (Value.slice A j cap).ownBlock = some i) w6 w7 := (((Fr.refl _ w6).alloc o1).alloc o2).grown hgrow (fun k hk _ => hk)
  have hs7 := f7.size
  have hnb : ∀ i, i < W.heap.size → ¬ (Value.slice A j cap).ownBlock = some i := fun i hi hk => by have := hol i hk; omega
  have f67 : Fr (fun i => i = c) W w7 := (h.fr.thenNo f6).trans' f7 (fun i hi hk => (hnb i hi hk).elim)
  have fc : Fr (fun i => i = c) w7 (w7.setCell ⟨c, 3, none⟩ (.slice (some ⟨g', 0, none⟩) (j + 1) cap')) := (Fr.refl (fun i => i = c) w7).set (p := ⟨c, 3, none⟩) (fun _ => rfl) _
  have hgc : c < g' := by
    rcases hat with h' | h'
    · have := hol _ h'; omega
    · omega
  refine ⟨f67.trans fc, by simp [h.len], ?_, ?_, ?_, ?_, by have := h.n; omega, by have := h.s; omega, ?_⟩
  · have hx := ((h.box.fr f6 (fun h => h)).fr f7 (hnb c hc)).set_ 3 (.slice (some ⟨g', 0, none⟩) (j + 1) cap')
    simpa using hx
  · rw [rowCells_snoc]
    exact owns_fr hown fc (fun q hq hc' => by
      simp [Value.ownBlock] at hq
      have h' : q = c := hc'
      omega)
  · intro x hx
    have hss : (w7.setCell ⟨c, 3, none⟩ (.slice (some ⟨g', 0, none⟩) (j + 1) cap')).heap.size = w7.heap.size := by simp
    rw [hss]
    rcases List.mem_append.1 hx with hx | hx
    · have h1 := (h.ins x hx).no f6 (Nat.le_refl _)
      have h2 := In.fr_blocks f7 (by omega) x (fun b hb hk => h.sep x hx b hb hk) h1
      have h3 := In.fr_blocks fc (by omega) x (fun b hb hk => by have h' : b = c := hk; have := T.In.blocks x h2 b hb; omega) h2
      exact T.In.more (Nat.le_refl _) (by omega) x h3
    · simp at hx; subst hx
      have h2 := In.fr_blocks f7 (Nat.le_refl _) x (fun b hb hk => by have := hol b hk; have := T.In.blocks x ht b hb; omega) ht
      have h3 := In.fr_blocks fc (by omega) x (fun b hb hk => by have h' : b = c := hk; have := T.In.blocks x h2 b hb; omega) h2
      exact T.In.more (by omega) (by omega) x h3
  · intro x hx b hb hk
    simp [Value.ownBlock] at hk
    subst hk
    rcases List.mem_append.1 hx with hx | hx
    · rcases hat with h' | h'
      · exact h.sep x hx _ hb h'
      · have := T.In.blocks x (h.ins x hx) _ hb; omega
    · simp at hx; subst hx
      have h3 := T.In.blocks x ht _ hb
      rcases hat with h' | h'
      · have := hol _ h'; omega
      · omega
  · rw [h.says, show m - j = (m - (j + 1)) + 1 by omega, parseL_step g _ s3 n3 _ hg, Option.map_map]
    congr 1
    funext y
    simp

set_option maxRecDepth 100000 in
set_option maxHeartbeats 8000000 in
theorem front_step (g : Option (ByteArray → Nat → Got)) (d : Nat) (hd : d ≤ 16) (hg : (g = none ∧ d = 0) ∨ ∃ g' d', g = some g' ∧ d = d' + 1 ∧ (∀ (s : ByteArray) (n : Nat) (w : World), n ≤ 512 → s.size ≤ 4000000 → Calls Try.prog 117 #[.string s, .int .i64 (n : Int), .int .i64 (d' : Int)] w (RFr (g' s n) n w)) ∧ (∀ (s : ByteArray) (n : Nat) u s' n', g' s n = some (u, s', n') → s'.size ≤ s.size ∧ n' ≤ n))
    (s : ByteArray) (n : Nat) (w : World) (hn : n ≤ 512) (hs : s.size ≤ 4000000) : Calls Try.prog 117 #[.string s, .int .i64 (n : Int), .int .i64 (d : Int)] w (RFr (parseG g s n) n w) := by
  have hn2 : (n : Int) ≤ 512 := by omega
  have hd2 : (d : Int) ≤ 16 := by omega
  have fr1 := (Fr.refl No w).alloc (.cells #[.int .u8 0, .int .i64 0, .string ⟨#[]⟩, .slice none 0 0, .int .i64 0] 27)
  by_cases h0 : s.size < 1 ∨ n = 0
  · have hN : parseG g s n = none := by unfold parseG; rw [if_pos h0]
    rw [hN]
    have HF := hide fr1
    clear hN hg fr1
    by_cases hse : s.size < 1
    · obtain rfl := size_zero (s := s) (by omega)
      clear h0 hse hs
      go_enter Try.func117, Try.ntmps117
      go_wp2
      refine bodyPost_ret (v := .tuple #[zeroVal, .string ⟨#[]⟩, .int .i64 (-1)]) (by simp [results, Try.results117, go_sem, *]) rfl ?_
      exact ⟨HF.out, fun _ => rfl, fun _ _ _ h => by cases h⟩
    · obtain rfl : n = 0 := by omega
      have hne : s.toList.isEmpty = false := notEmpty (by rintro rfl; exact hse (by decide))
      clear h0 hse
      go_enter Try.func117, Try.ntmps117
      go_wp2
      refine bodyPost_ret (v := .tuple #[zeroVal, .string ⟨#[]⟩, .int .i64 (-1)]) (by simp [results, Try.results117, go_sem, *]) rfl ?_
      exact ⟨HF.out, fun _ => rfl, fun _ _ _ h => by cases h⟩
  have hne : s.toList.isEmpty = false := notEmpty (by rintro rfl; exact h0 (.inl (by decide)))
  have hn0 : ¬ (n : Int) < 1 := by omega
  have hsp : (1 : Int) ≤ (s.size : Int) := by omega
  have hs0 : 0 < s.size := by omega
  rw [parseG_eq g s n h0]
  clear fr1
  go_enter Try.func117, Try.ntmps117
  go_upto_region 9 with (fail)
  have hb : ((s[0]'hs0).toNat : Int) = ((hdB s : Nat) : Int) := by
    have e : (s[0]'hs0).toNat = hdB s := by
      have h9 : 0 < s.data.size := hs0
      simp [hdB, Array.getElem?_eq_getElem h9]
      rfl
    rw [e]
  simp only [hb]
  have hs1 : (s.extract 1 s.size).size ≤ 4000000 := by rw [ByteArray.size_extract]; omega
  have hkl := hdB_lt s
  have B6 : Blk ((w.alloc (.cells #[.int .u8 0, .int .i64 0, .string ⟨#[]⟩, .slice none 0 0, .int .i64 0] 27)).alloc (.cells #[.int .u8 ((hdB s : Nat) : Int), .int .i64 0, .string ⟨#[]⟩, .slice none 0 0, .int .i64 0] 27)) w.heap.size 27 #[.int .u8 0, .int .i64 0, .string ⟨#[]⟩, .slice none 0 0, .int .i64 0] := (Blk.new' w 27 _ rfl).alloc _
  have B9 : Blk ((w.alloc (.cells #[.int .u8 0, .int .i64 0, .string ⟨#[]⟩, .slice none 0 0, .int .i64 0] 27)).alloc (.cells #[.int .u8 ((hdB s : Nat) : Int), .int .i64 0, .string ⟨#[]⟩, .slice none 0 0, .int .i64 0] 27)) (w.heap.size + 1) 27 #[.int .u8 ((hdB s : Nat) : Int), .int .i64 0, .string ⟨#[]⟩, .slice none 0 0, .int .i64 0] := Blk.new' (w.alloc _) 27 _ (by simp)
  have FW : Fr No w ((w.alloc (.cells #[.int .u8 0, .int .i64 0, .string ⟨#[]⟩, .slice none 0 0, .int .i64 0] 27)).alloc (.cells #[.int .u8 ((hdB s : Nat) : Int), .int .i64 0, .string ⟨#[]⟩, .slice none 0 0, .int .i64 0] 27)) := ((Fr.refl No w).alloc _).alloc _
  generalize World.alloc (World.alloc w _) _ = W at *
  generalize hdB s = kk at *
  generalize s.extract 1 s.size = s1 at *
  have hn1 : ∃ n1, n = n1 + 1 := ⟨n - 1, by omega⟩
  obtain ⟨n1, rfl⟩ := hn1
  rw [show n1 + 1 - 1 = n1 by omega]
  have hone : (1 : Int) = ((n1 + 1 : Nat) : Int) - (n1 : Int) := by omega
  have hbad : ∀ W' : World, Fr No w W' → parseK g kk s1 n1 = none → RFr (parseK g kk s1 n1) (n1 + 1) w (.returned (.tuple #[zeroVal, .string ⟨#[]⟩, .int .i64 (-1)])) W' := fun W' f e => ⟨f, fun _ => rfl, fun _ _ _ h => by rw [e] at h; cases h⟩
  have hyes : ∀ (W' : World) (t : T) (s2 : ByteArray), Fr No w W' → parseK g kk s1 n1 = some (t.v, s2, n1) → t.In W' w.heap.size W'.heap.size → RFr (parseK g kk s1 n1) (n1 + 1) w (.returned (.tuple #[t.val, .string s2, .int .i64 1])) W' := fun W' t s2 f e hin => ⟨f, fun h => (by rw [e] at h; cases h), fun u s' n' h => by
    rw [e] at h
    injection h with h
    injection h with h1 h2
    injection h2 with h2 h3
    subst h1 h2 h3
    exact ⟨t, rfl, by rw [← hone], hin⟩⟩
  have HBAD := hide hbad
  have HYES := hide hyes
  have HB6 := hide B6
  have HB9 := hide B9
  have HFW := hide FW
  obtain ⟨z0, z1, z2, z3, z4, zf⟩ := B6.cells5
  obtain ⟨y0, y1, y2, y3, y4, yf⟩ := B9.cells5
  have zq := B6.lt
  have yq := B9.lt
  clear hbad hyes B6 B9 FW hb hone h0 hne hsp hs0 hs
  by_cases k0 : kk = 0
  · subst k0
    have HPN := hide (show parseK g 0 s1 n1 = some (V.mk 0 0 ⟨#[]⟩ [] 0, s1, n1) by simp [parseK])
    clear hg
    go_wp2
    refine bodyPost_ret (v := .tuple #[zeroVal, .string s1, .int .i64 1]) (by simp [results, Try.results117, go_sem, *]) rfl ?_
    have hF2 := HFW.out
    refine HYES.out _ T.zero s1 ?_ (by rw [HPN.out, T.zero_v]; rfl) (T.zero_sh _ _ _).inn
    repeat (first | with_reducible exact hF2 | with_reducible refine Fr.setNew ?_ (by first | (simp; done) | (simp; omega)) _)
  by_cases k1 : kk = 1
  · subst k1
    cases hc : cutN s1 8 with
    | none =>
      have HPN := hide (show parseK g 1 s1 n1 = none by simp [parseK, hc])
      have HNR := hide (numR_none hc)
      clear hc hg
      go_wp2_with fail
      refine (refNumber_any s1 8 W (by omega) hs1).mono ?_
      rintro e w3 ⟨rfl, f3⟩
      rw [HNR.out]
      have B6 := HB6.out.fr f3 fun h => h
      have B9 := HB9.out.fr f3 fun h => h
      obtain ⟨z0, z1, z2, z3, z4, zf⟩ := B6.cells5
      obtain ⟨y0, y1, y2, y3, y4, yf⟩ := B9.cells5
      have zq := B6.lt
      have yq := B9.lt
      have HF := hide (HFW.out.trans f3)
      clear B6 B9 f3
      go_wp2
      refine bodyPost_ret (v := .tuple #[zeroVal, .string ⟨#[]⟩, .int .i64 (-1)]) (by simp [results, Try.results117, go_sem, *]) rfl ?_
      have hF2 := HF.out
      refine HBAD.out _ ?_ HPN.out
      repeat (first | with_reducible exact hF2 | with_reducible refine Fr.setNew ?_ (by first | (simp; done) | (simp; omega)) _)
    | some q =>
      obtain ⟨x, s2⟩ := q
      obtain ⟨hxl, hs2⟩ := cutN_lt hc
      have HNR := hide (numR_some hc)
      have hnb := num_back x (by have : (256:Nat)^8 = 18446744073709551616 := by decide
                                 omega)
      have HPN := hide (show parseK g 1 s1 n1 = some (V.mk 1 ((x : Int) - 9223372036854775808) ⟨#[]⟩ [] 0, s2, n1) by simp [parseK, hc])
      have hxl2 : x < 18446744073709551616 := by have : (256:Nat)^8 = 18446744073709551616 := by decide
                                                 omega
      clear hc hg hxl
      go_wp2_with fail
      refine (refNumber_any s1 8 W (by omega) hs1).mono ?_
      rintro e w3 ⟨rfl, f3⟩
      rw [HNR.out]
      have B6 := HB6.out.fr f3 fun h => h
      have B9 := HB9.out.fr f3 fun h => h
      obtain ⟨z0, z1, z2, z3, z4, zf⟩ := B6.cells5
      obtain ⟨y0, y1, y2, y3, y4, yf⟩ := B9.cells5
      have zq := B6.lt
      have yq := B9.lt
      have HF := hide (HFW.out.trans f3)
      clear B6 B9 f3
      go_wp2
      refine bodyPost_ret (v := .tuple #[.agg #[.int .u8 1, .int .i64 ((x : Int) - 9223372036854775808), .string ⟨#[]⟩, .slice none 0 0, .int .i64 0], .string s2, .int .i64 1]) (by simp [results, Try.results117, go_sem, *]) rfl ?_
      have hF2 := HF.out
      refine HYES.out _ (T.mk 1 ((x : Int) - 9223372036854775808) ⟨#[]⟩ none 0 [] 0) s2 ?_ (by rw [HPN.out, T.v_mk]; rfl) (T.sh_leaf ⟨by decide, by decide, by omega, by omega, by decide, by decide, by decide, by decide, by decide⟩).inn
      repeat (first | with_reducible exact hF2 | with_reducible refine Fr.setNew ?_ (by first | (simp; done) | (simp; omega)) _)
  by_cases k4 : kk = 4
  · subst k4
    cases hc : cutN s1 4 with
    | none =>
      have HPN := hide (show parseK g 4 s1 n1 = none by simp [parseK, hc])
      have HNR := hide (numR_none hc)
      clear hc hg
      go_wp2_with fail
      refine (refNumber_any s1 4 W (by omega) hs1).mono ?_
      rintro e w3 ⟨rfl, f3⟩
      rw [HNR.out]
      have B6 := HB6.out.fr f3 fun h => h
      have B9 := HB9.out.fr f3 fun h => h
      obtain ⟨z0, z1, z2, z3, z4, zf⟩ := B6.cells5
      obtain ⟨y0, y1, y2, y3, y4, yf⟩ := B9.cells5
      have zq := B6.lt
      have yq := B9.lt
      have HF := hide (HFW.out.trans f3)
      clear B6 B9 f3
      go_wp2
      refine bodyPost_ret (v := .tuple #[zeroVal, .string ⟨#[]⟩, .int .i64 (-1)]) (by simp [results, Try.results117, go_sem, *]) rfl ?_
      have hF2 := HF.out
      refine HBAD.out _ ?_ HPN.out
      repeat (first | with_reducible exact hF2 | with_reducible refine Fr.setNew ?_ (by first | (simp; done) | (simp; omega)) _)
    | some q =>
      obtain ⟨x, s2⟩ := q
      obtain ⟨hxl, hs2⟩ := cutN_lt hc
      have HNR := hide (numR_some hc)
      have hxl2 : x < 4294967296 := by have : (256:Nat)^4 = 4294967296 := by decide
                                       omega
      have hxw : IntKind.i64.wrap (x : Int) = (x : Int) := by rw [IntKind.wrap_i64]; omega
      by_cases hx0 : 0 < x
      · have HPN := hide (show parseK g 4 s1 n1 = some (V.mk 4 0 ⟨#[]⟩ [] (x : Int), s2, n1) by simp [parseK, hc, hx0])
        have hx1 : decide ((0 : Int) < (x : Int)) = true := by simp; omega
        clear hc hg hxl
        go_wp2_with fail
        refine (refNumber_any s1 4 W (by omega) hs1).mono ?_
        rintro e w3 ⟨rfl, f3⟩
        rw [HNR.out]
        have B6 := HB6.out.fr f3 fun h => h
        have B9 := HB9.out.fr f3 fun h => h
        obtain ⟨z0, z1, z2, z3, z4, zf⟩ := B6.cells5
        obtain ⟨y0, y1, y2, y3, y4, yf⟩ := B9.cells5
        have zq := B6.lt
        have yq := B9.lt
        have HF := hide (HFW.out.trans f3)
        clear B6 B9 f3
        go_wp2
        refine bodyPost_ret (v := .tuple #[.agg #[.int .u8 4, .int .i64 0, .string ⟨#[]⟩, .slice none 0 0, .int .i64 (x : Int)], .string s2, .int .i64 1]) (by simp [results, Try.results117, go_sem, *]) rfl ?_
        have hF2 := HF.out
        refine HYES.out _ (T.mk 4 0 ⟨#[]⟩ none 0 [] (x : Int)) s2 ?_ (by rw [HPN.out, T.v_mk]; rfl) (T.sh_leaf ⟨by decide, by decide, by decide, by decide, by decide, by decide, by decide, by omega, by omega⟩).inn
        repeat (first | with_reducible exact hF2 | with_reducible refine Fr.setNew ?_ (by first | (simp; done) | (simp; omega)) _)
      · have HPN := hide (show parseK g 4 s1 n1 = none by simp [parseK, hc, hx0])
        have hx1 : decide ((0 : Int) < (x : Int)) = false := by simp; omega
        clear hc hg hxl
        go_wp2_with fail
        refine (refNumber_any s1 4 W (by omega) hs1).mono ?_
        rintro e w3 ⟨rfl, f3⟩
        rw [HNR.out]
        have B6 := HB6.out.fr f3 fun h => h
        have B9 := HB9.out.fr f3 fun h => h
        obtain ⟨z0, z1, z2, z3, z4, zf⟩ := B6.cells5
        obtain ⟨y0, y1, y2, y3, y4, yf⟩ := B9.cells5
        have zq := B6.lt
        have yq := B9.lt
        have HF := hide (HFW.out.trans f3)
        clear B6 B9 f3
        go_wp2
        refine bodyPost_ret (v := .tuple #[zeroVal, .string ⟨#[]⟩, .int .i64 (-1)]) (by simp [results, Try.results117, go_sem, *]) rfl ?_
        have hF2 := HF.out
        refine HBAD.out _ ?_ HPN.out
        repeat (first | with_reducible exact hF2 | with_reducible refine Fr.setNew ?_ (by first | (simp; done) | (simp; omega)) _)
  by_cases k2 : kk = 2
  · subst k2
    cases hc : cutN s1 2 with
    | none =>
      have HPN := hide (show parseK g 2 s1 n1 = none by simp [parseK, hc])
      have HNR := hide (numR_none hc)
      clear hc hg
      go_wp2_with fail
      refine (refNumber_any s1 2 W (by omega) hs1).mono ?_
      rintro e w3 ⟨rfl, f3⟩
      rw [HNR.out]
      have B6 := HB6.out.fr f3 fun h => h
      have B9 := HB9.out.fr f3 fun h => h
      obtain ⟨z0, z1, z2, z3, z4, zf⟩ := B6.cells5
      obtain ⟨y0, y1, y2, y3, y4, yf⟩ := B9.cells5
      have zq := B6.lt
      have yq := B9.lt
      have HF := hide (HFW.out.trans f3)
      clear B6 B9 f3
      go_wp2
      refine bodyPost_ret (v := .tuple #[zeroVal, .string ⟨#[]⟩, .int .i64 (-1)]) (by simp [results, Try.results117, go_sem, *]) rfl ?_
      have hF2 := HF.out
      refine HBAD.out _ ?_ HPN.out
      repeat (first | with_reducible exact hF2 | with_reducible refine Fr.setNew ?_ (by first | (simp; done) | (simp; omega)) _)
    | some q =>
      obtain ⟨x, s2⟩ := q
      obtain ⟨hxl, hs2⟩ := cutN_lt hc
      have HNR := hide (numR_some hc)
      have hxl2 : x < 65536 := by have : (256:Nat)^2 = 65536 := by decide
                                  omega
      have hsw := u64_nat s2.size (by omega)
      by_cases h256 : 256 < x
      · have HPN := hide (show parseK g 2 s1 n1 = none by simp [parseK, hc, h256])
        have hx1 : decide ((256 : Int) < (x : Int)) = true := by simp; omega
        clear hc hg hxl
        go_wp2_with fail
        refine (refNumber_any s1 2 W (by omega) hs1).mono ?_
        rintro e w3 ⟨rfl, f3⟩
        rw [HNR.out]
        have B6 := HB6.out.fr f3 fun h => h
        have B9 := HB9.out.fr f3 fun h => h
        obtain ⟨z0, z1, z2, z3, z4, zf⟩ := B6.cells5
        obtain ⟨y0, y1, y2, y3, y4, yf⟩ := B9.cells5
        have zq := B6.lt
        have yq := B9.lt
        have HF := hide (HFW.out.trans f3)
        clear B6 B9 f3
        go_wp2
        refine bodyPost_ret (v := .tuple #[zeroVal, .string ⟨#[]⟩, .int .i64 (-1)]) (by simp [results, Try.results117, go_sem, *]) rfl ?_
        have hF2 := HF.out
        refine HBAD.out _ ?_ HPN.out
        repeat (first | with_reducible exact hF2 | with_reducible refine Fr.setNew ?_ (by first | (simp; done) | (simp; omega)) _)
      by_cases hsx : s2.size < x
      · have HPN := hide (show parseK g 2 s1 n1 = none by simp [parseK, hc, hsx])
        have hx1 : decide ((256 : Int) < (x : Int)) = false := by simp; omega
        have hx2 : decide ((s2.size : Int) < (x : Int)) = true := by simp; omega
        clear hc hg hxl
        go_wp2_with fail
        refine (refNumber_any s1 2 W (by omega) hs1).mono ?_
        rintro e w3 ⟨rfl, f3⟩
        rw [HNR.out]
        have B6 := HB6.out.fr f3 fun h => h
        have B9 := HB9.out.fr f3 fun h => h
        obtain ⟨z0, z1, z2, z3, z4, zf⟩ := B6.cells5
        obtain ⟨y0, y1, y2, y3, y4, yf⟩ := B9.cells5
        have zq := B6.lt
        have yq := B9.lt
        have HF := hide (HFW.out.trans f3)
        clear B6 B9 f3
        go_wp2
        refine bodyPost_ret (v := .tuple #[zeroVal, .string ⟨#[]⟩, .int .i64 (-1)]) (by simp [results, Try.results117, go_sem, *]) rfl ?_
        have hF2 := HF.out
        refine HBAD.out _ ?_ HPN.out
        repeat (first | with_reducible exact hF2 | with_reducible refine Fr.setNew ?_ (by first | (simp; done) | (simp; omega)) _)
      have HPN := hide (show parseK g 2 s1 n1 = some (V.mk 2 0 (s2.extract 0 x) [] 0, s2.extract x s2.size, n1) by simp [parseK, hc, h256, hsx])
      have hx1 : decide ((256 : Int) < (x : Int)) = false := by simp; omega
      have hx2 : decide ((s2.size : Int) < (x : Int)) = false := by simp; omega
      have hx3 : (x : Int) ≤ (s2.size : Int) := by omega
      have hx4 : (s2.size : Int) ≤ 4000000 := by omega
      have hxs : (s2.extract 0 x).size ≤ 140737488351232 := by rw [ByteArray.size_extract]; omega
      have HXS := hide hxs
      clear hc hg hxl hxs
      go_wp2_with fail
      refine (refNumber_any s1 2 W (by omega) hs1).mono ?_
      rintro e w3 ⟨rfl, f3⟩
      rw [HNR.out]
      have B6 := HB6.out.fr f3 fun h => h
      have B9 := HB9.out.fr f3 fun h => h
      obtain ⟨z0, z1, z2, z3, z4, zf⟩ := B6.cells5
      obtain ⟨y0, y1, y2, y3, y4, yf⟩ := B9.cells5
      have zq := B6.lt
      have yq := B9.lt
      have HF := hide (HFW.out.trans f3)
      clear B6 B9 f3
      go_wp2
      refine bodyPost_ret (v := .tuple #[.agg #[.int .u8 2, .int .i64 0, .string (s2.extract 0 x), .slice none 0 0, .int .i64 0], .string (s2.extract x s2.size), .int .i64 1]) (by simp [results, Try.results117, go_sem, *]) rfl ?_
      have hF2 := HF.out
      refine HYES.out _ (T.mk 2 0 (s2.extract 0 x) none 0 [] 0) (s2.extract x s2.size) ?_ (by rw [HPN.out, T.v_mk]; rfl) (T.sh_leaf ⟨by decide, by decide, by decide, by decide, HXS.out, by decide, by decide, by decide, by decide⟩).inn
      repeat (first | with_reducible exact hF2 | with_reducible refine Fr.setNew ?_ (by first | (simp; done) | (simp; omega)) _)
  by_cases k3 : kk = 3
  · subst k3
    cases hc : cutN s1 2 with
    | none =>
      have HPN := hide (show parseK g 3 s1 n1 = none by simp [parseK, hc])
      have HNR := hide (numR_none hc)
      clear hc hg
      go_wp2_with fail
      refine (refNumber_any s1 2 W (by omega) hs1).mono ?_
      rintro e w3 ⟨rfl, f3⟩
      rw [HNR.out]
      have B6 := HB6.out.fr f3 fun h => h
      have B9 := HB9.out.fr f3 fun h => h
      obtain ⟨z0, z1, z2, z3, z4, zf⟩ := B6.cells5
      obtain ⟨y0, y1, y2, y3, y4, yf⟩ := B9.cells5
      have zq := B6.lt
      have yq := B9.lt
      have HF := hide (HFW.out.trans f3)
      clear B6 B9 f3
      go_wp2
      refine bodyPost_ret (v := .tuple #[zeroVal, .string ⟨#[]⟩, .int .i64 (-1)]) (by simp [results, Try.results117, go_sem, *]) rfl ?_
      have hF2 := HF.out
      refine HBAD.out _ ?_ HPN.out
      repeat (first | with_reducible exact hF2 | with_reducible refine Fr.setNew ?_ (by first | (simp; done) | (simp; omega)) _)
    | some q =>
      obtain ⟨x, s2⟩ := q
      obtain ⟨hxl, hs2⟩ := cutN_lt hc
      have HNR := hide (numR_some hc)
      have hxl2 : x < 65536 := by have : (256:Nat)^2 = 65536 := by decide
                                  omega
      have hnw := u64_nat (n1 + 1) (by omega)
      push_cast at hnw
      have hbadd : (g = none ∨ n1 < x) → parseK g 3 s1 n1 = none := fun h => by
        cases g with
        | none => simp [parseK, hc]
        | some g' =>
          rcases h with h | h
          · cases h
          · simp [parseK, hc, h]
      rcases hg with ⟨rfl, rfl⟩ | ⟨g', d', rfl, rfl, hih, hle⟩
      · have HPN := hide (hbadd (.inl rfl))
        clear hc hxl hbadd
        go_wp2_with fail
        refine (refNumber_any s1 2 W (by omega) hs1).mono ?_
        rintro e w3 ⟨rfl, f3⟩
        rw [HNR.out]
        have B6 := HB6.out.fr f3 fun h => h
        have B9 := HB9.out.fr f3 fun h => h
        obtain ⟨z0, z1, z2, z3, z4, zf⟩ := B6.cells5
        obtain ⟨y0, y1, y2, y3, y4, yf⟩ := B9.cells5
        have zq := B6.lt
        have yq := B9.lt
        have HF := hide (HFW.out.trans f3)
        clear B6 B9 f3
        go_wp2
        refine bodyPost_ret (v := .tuple #[zeroVal, .string ⟨#[]⟩, .int .i64 (-1)]) (by simp [results, Try.results117, go_sem, *]) rfl ?_
        have hF2 := HF.out
        refine HBAD.out _ ?_ HPN.out
        repeat (first | with_reducible exact hF2 | with_reducible refine Fr.setNew ?_ (by first | (simp; done) | (simp; omega)) _)
      by_cases hnx : n1 < x
      · have HPN := hide (hbadd (.inr hnx))
        have hx1 : decide ((n1 : Int) + 1 ≤ (x : Int)) = true := by simp; omega
        have hd1 : decide ((d' : Int) + 1 < 1) = false := by simp; omega
        clear hc hxl hbadd hih hle
        go_wp2_with fail
        refine (refNumber_any s1 2 W (by omega) hs1).mono ?_
        rintro e w3 ⟨rfl, f3⟩
        rw [HNR.out]
        have B6 := HB6.out.fr f3 fun h => h
        have B9 := HB9.out.fr f3 fun h => h
        obtain ⟨z0, z1, z2, z3, z4, zf⟩ := B6.cells5
        obtain ⟨y0, y1, y2, y3, y4, yf⟩ := B9.cells5
        have zq := B6.lt
        have yq := B9.lt
        have HF := hide (HFW.out.trans f3)
        clear B6 B9 f3
        go_wp2
        refine bodyPost_ret (v := .tuple #[zeroVal, .string ⟨#[]⟩, .int .i64 (-1)]) (by simp [results, Try.results117, go_sem, *]) rfl ?_
        have hF2 := HF.out
        refine HBAD.out _ ?_ HPN.out
        repeat (first | with_reducible exact hF2 | with_reducible refine Fr.setNew ?_ (by first | (simp; done) | (simp; omega)) _)
      have hx1 : decide ((n1 : Int) + 1 ≤ (x : Int)) = false := by simp; omega
      have hd1 : decide ((d' : Int) + 1 < 1) = false := by simp; omega
      have hPK : parseK (some g') 3 s1 n1 = (parseL g' x s2 n1).map fun y => (V.mk 3 0 ⟨#[]⟩ y.1 0, y.2) := by simp [parseK, hc, hnx]
      have HPK := hide hPK
      have HIH := hide hih
      have HLE := hide hle
      clear hc hxl hbadd hPK hih hle
      obtain ⟨i0, hi0, hz0, hz1, hz2⟩ := info_parts value_info
      go_wp2_with fail
      refine (refNumber_any s1 2 W (by omega) hs1).mono ?_
      rintro e w3 ⟨rfl, f3⟩
      rw [HNR.out]
      have B6 := HB6.out.fr f3 fun h => h
      have B9 := HB9.out.fr f3 fun h => h
      have HF := hide (HFW.out.trans f3)
      have HB63 := hide B6
      have hb9 := B9.lt
      have HB93 := hide B9
      have hfl : FL w3 (w.heap.size + 1) x 0 g' s2 n1 none 0 [] s2 n1 w3 := ⟨Fr.refl _ _, rfl, B9, World.ownsRow_nil _ _ _ _, by simp, by simp, Nat.le_refl _, by omega, by cases parseL g' x s2 n1 <;> simp⟩
      have HFL := hide hfl
      clear B6 B9 f3 z0 z1 z2 z3 z4 zf y0 y1 y2 y3 y4 yf zq yq hfl
      go_wp2_with fail
      go_loopw [0, 12, 13, 14, 15, 16] (fun sv pv iv _ _ _ wr => ∃ (j q n3 : Nat) (s3 : ByteArray) (A : Option Addr) (cap : Nat) (l : List T), j ≤ x ∧ iv = .int .u64 (j : Int) ∧ sv = .string s3 ∧ pv = .int .i64 (q : Int) ∧ q + n3 = n1 + 1 ∧ FL w3 (w.heap.size + 1) x j g' s2 n1 A cap l s3 n3 wr) (fun _ _ iv _ _ _ _ => x - (intOf iv).toNat)
      case atStart => exact ⟨0, 1, n1, s2, none, 0, [], Nat.zero_le _, rfl, rfl, rfl, by omega, HFL.out⟩
      case round =>
        obtain ⟨j, q, n3, s3, Al, capl, l, hj, rfl, rfl, rfl, hq, inv⟩ := hrel
        have hfrl := inv.fr
        have hsl := hfrl.size
        have hb9r := inv.box
        obtain ⟨y0, y1, y2, y3, y4, yf⟩ := hb9r.cells5
        have yq := hb9r.lt
        have hn3 := inv.n
        have hs3 := inv.s
        by_cases hlt : j < x
        · have hlt2 : (j : Int) < (x : Int) := by omega
          have he1 : (n1 : Int) + 1 - (q : Int) = (n3 : Int) := by omega
          have hcall := HIH.out s3 n3 wr (by omega) hs3
          have HC := hide hcall
          have HI := hide inv
          clear hcall inv hfrl
          go_wp2_with fail
          refine HC.out.mono ?_
          rintro e w4 hr
          have f4 := hr.fr
          have B9 := hb9r.fr f4 fun h => h
          have B6 := ((HB63.out.fr HI.out.fr (fun h => by have h' : w.heap.size = w.heap.size + 1 := h; omega))).fr f4 fun h => h
          clear y0 y1 y2 y3 y4 yf yq hb9r
          obtain ⟨z0, z1, z2, z3, z4, zf⟩ := B6.cells5
          obtain ⟨y0, y1, y2, y3, y4, yf⟩ := B9.cells5
          have zq := B6.lt
          have yq := B9.lt
          have HFX := hide ((HF.out.trans' HI.out.fr (fun i hi h => by have h' : i = w.heap.size + 1 := h; omega)).trans f4)
          cases hg4 : g' s3 n3 with
          | none =>
            have he := hr.no hg4
            subst he
            have hpn : parseK (some g') 3 s1 n1 = none := by
              rw [HPK.out, HI.out.says, show x - j = (x - (j + 1)) + 1 by omega, parseL_none g' _ s3 n3 hg4]
              rfl
            have HPN := hide hpn
            have HF := hide HFX.out
            clear hr hg4 hpn B9 B6 f4
            go_wp2
            refine bodyPost_ret (v := .tuple #[zeroVal, .string ⟨#[]⟩, .int .i64 (-1)]) (by simp [results, Try.results117, go_sem, *]) rfl ?_
            have hF2 := HF.out
            refine HBAD.out _ ?_ HPN.out
            repeat (first | with_reducible exact hF2 | with_reducible refine Fr.alloc ?_ _ | with_reducible refine Fr.setNew ?_ (by first | (simp; done) | (simp; omega)) _)
          | some qq =>
            obtain ⟨u, s4, n4⟩ := qq
            obtain ⟨⟨k5, n5, s5, A5, c5, l5, r5⟩, ev, rfl, hin⟩ := hr.yes u s4 n4 hg4
            subst ev
            rw [T.val_mk]
            have hle4 := HLE.out _ _ _ _ _ hg4
            have hk4 : decide ((n3 : Int) - (n4 : Int) < 0) = false := by simp; omega
            have hown := owns_fr HI.out.row f4 fun _ _ h => h
            have hown1 := (hown.alloc (.cells #[.int .u8 k5, .int .i64 n5, .string s5, .slice A5 l5.length c5, .int .i64 r5] 27)).alloc (.cells #[.int .u8 k5, .int .i64 n5, .string s5, .slice A5 l5.length c5, .int .i64 r5] 27)
            have hsep9 : (Value.slice Al j capl).ownBlock ≠ some (w.heap.size + 1) := fun h => by have := owns_lt HI.out.row _ h; omega
            have hj16 : j ≤ 65536 := by omega
            obtain ⟨q2, hq2⟩ : ∃ q2 : Nat, q2 + n4 = n1 + 1 := ⟨n1 + 1 - n4, by omega⟩
            have he2 : (q : Int) + ((n3 : Int) - (n4 : Int)) = (q2 : Int) := by omega
            have hq5 : (q2 : Int) ≤ 513 := by omega
            have hB92 := (B9.alloc (.cells #[.int .u8 k5, .int .i64 n5, .string s5, .slice A5 l5.length c5, .int .i64 r5] 27)).alloc (.cells #[.int .u8 k5, .int .i64 n5, .string s5, .slice A5 l5.length c5, .int .i64 r5] 27)
            have HC3 := hide hB92.cells5.2.2.2.1
            have HF3D := hide (hB92.frozen 3)
            have HLT3 := hide hB92.lt
            clear hB92
            have HG4 := hide hg4
            have HIN := hide hin
            have HF4 := hide f4
            have HO1 := hide hown1
            have HLE4 := hide hle4
            have hs4 := f4.size
            have HB9 := hide B9
            clear hr hg4 hin f4 hown hle4 B9 B6
            go_wp2_with (at_builtin; refine wpList_append_lies _ (by rfl) _ _ _ (by rfl) w3.heap.size 27 i0 _ 5 64 Try.underlying24 hi0 hz0 hz1 hz2 rfl (by omega) (.slice Al j capl) j (rowCells l) (by rfl) HO1.out ⟨w4.heap.size + 1, 0, none⟩ 1 1 [.int .u8 k5, .int .i64 n5, .string s5, .slice A5 l5.length c5, .int .i64 r5] (by rfl) (by rfl) (World.news_of_block (Blk.new' _ 27 _ (by simp))) (by simp [Value.oneCell']) (by omega) (by unfold maxLen; omega) (by omega) (by simp; omega) (w4.heap.size + 2) (by simp) ?_; intro g2 cp w7 hown3 hgrow hat hlt3; obtain ⟨c5', f5'⟩ := lent_grown (g := w.heap.size + 1) hgrow HC3.out HF3D.out HLT3.out (Ne.symm hsep9); have HGR := hide hgrow; have HOW := hide hown3; have HAT := hide hat; clear hgrow hown3 hat)
            go_roundw
            case rel => exact ⟨j + 1, q2, n4, s4, _, cp, l ++ [T.mk k5 n5 s5 A5 c5 l5 r5], hlt, by push_cast; rfl, rfl, rfl, hq2, FL.push HI.out hb9 hlt HG4.out HLE4.out HF4.out HIN.out HGR.out HOW.out HAT.out⟩
            case measure => simp [intOf]; omega
        · obtain rfl : j = x := by omega
          have hll := inv.len
          have hown := inv.row
          have hins := inv.ins
          have hpk : parseK (some g') 3 s1 n1 = some (V.mk 3 0 ⟨#[]⟩ (l.map T.v) 0, s3, n3) := by
            rw [HPK.out, inv.says, Nat.sub_self]
            simp [parseL]
          have B6 := HB63.out.fr hfrl (fun h => by have h' : w.heap.size = w.heap.size + 1 := h; omega)
          obtain ⟨z0, z1, z2, z3, z4, zf⟩ := B6.cells5
          have zq := B6.lt
          have hfx := HF.out.trans' hfrl (fun i hi h => by have h' : i = w.heap.size + 1 := h; omega)
          have HPKK := hide hpk
          have HLL := hide hll
          have HOW := hide hown
          have HINS := hide hins
          have HFX := hide hfx
          clear B6 hpk hll hown hins hfx inv hfrl hb9r
          go_wp2
          refine bodyPost_ret (v := .tuple #[.agg #[.int .u8 3, .int .i64 0, .string ⟨#[]⟩, .slice Al j capl, .int .i64 0], .string s3, .int .i64 (q : Int)]) (by simp [results, Try.results117, go_sem, *]) rfl ?_
          generalize hW : World.setCell _ _ _ = W'
          have hfr : Fr (fun i => i = w.heap.size) wr W' := by
            rw [← hW]
            repeat (first | with_reducible exact Fr.refl _ wr | with_reducible refine Fr.set ?_ (by simp) _)
          have hF2 := HFX.out.trans' hfr (fun i hi h => by have h' : i = w.heap.size := h; omega)
          refine ⟨hF2, fun h => (by have h' : parseK (some g') 3 s1 n1 = none := h; rw [HPKK.out] at h'; cases h'), fun u s' n' h => ?_⟩
          have h : parseK (some g') 3 s1 n1 = some (u, s', n') := h
          rw [HPKK.out] at h
          injection h with h
          injection h with h1 h2
          injection h2 with h2 h3
          subst h1 h2 h3
          have hown2 := owns_fr HOW.out hfr (fun g hg h => by have := owns_lt HOW.out g hg; have h' : g = w.heap.size := h; omega)
          have hll := HLL.out
          have hin : (T.row Al capl l).In W' w3.heap.size W'.heap.size := by
            refine owns_row (hi := W'.heap.size) (by rw [hll]; exact hown2) (fun x hx => ?_) (by rw [hll]; omega) (Nat.le_refl _) (Nat.le_refl _)
            refine T.In.more (Nat.le_refl _) hfr.size x (In.fr_blocks hfr (Nat.le_refl _) x (fun b hb h => ?_) (HINS.out x hx))
            have h' : b = w.heap.size := h
            have := T.In.blocks x (HINS.out x hx) b hb
            omega
          refine ⟨T.row Al capl l, by rw [T.row, T.v_mk], ?_, T.In.more (by omega) (Nat.le_refl _) _ hin⟩
          rw [T.row, T.val_mk, hll, show ((n1 + 1 : Nat) : Int) - (n3 : Int) = (q : Int) by omega]
  have HPN := hide (show parseK g kk s1 n1 = none by simp [parseK, k0, k1, k2, k3, k4])
  have e0 : ((kk : Int) == 0) = false := by simp; omega
  have e1 : ((kk : Int) == 1) = false := by simp; omega
  have e2 : ((kk : Int) == 2) = false := by simp; omega
  have e3 : ((kk : Int) == 3) = false := by simp; omega
  have e4 : ((kk : Int) == 4) = false := by simp; omega
  have HF := hide HFW.out
  clear hg
  go_wp2
  refine bodyPost_ret (v := .tuple #[zeroVal, .string ⟨#[]⟩, .int .i64 (-1)]) (by simp [results, Try.results117, go_sem, *]) rfl ?_
  have hF2 := HF.out
  refine HBAD.out _ ?_ HPN.out
  repeat (first | with_reducible exact hF2 | with_reducible refine Fr.setNew ?_ (by first | (simp; done) | (simp; omega)) _)


end Go.Proofs.Ytihjmipmjogpoaa

/- Chapter 2: the document's answer: Front, Read. -/
namespace Go.Proofs.Ytihjmipmjogpoaa
open Go.RowKit

theorem front_any (d : Nat) : d ≤ 16 → ∀ (s : ByteArray) (n : Nat) (w : World), n ≤ 512 → s.size ≤ 4000000 → Calls Try.prog 117 #[.string s, .int .i64 (n : Int), .int .i64 (d : Int)] w (RFr (parse d s n) n w) := by
  induction d with
  | zero => intro _ s n w hn hs; exact front_step none 0 (by omega) (.inl ⟨rfl, rfl⟩) s n w hn hs
  | succ d ih => intro hd s n w hn hs; exact front_step (some (parse d)) (d + 1) hd (.inr ⟨parse d, d, rfl, rfl, fun s n w h1 h2 => ih (by omega) s n w h1 h2, parse_le d⟩) s n w hn hs

set_option maxRecDepth 100000 in
set_option maxHeartbeats 4000000 in
theorem refFront_any (s : ByteArray) (w : World) (hs : s.size ≤ 4000000) : Calls Try.prog 52 #[.string s] w (FrontP s w) := by
  have fr1 := (Fr.refl No w).alloc (.cells #[.int .u8 0, .int .i64 0, .string ⟨#[]⟩, .slice none 0 0, .int .i64 0] 27)
  have hK := Blk.new' w 27 #[.int .u8 0, .int .i64 0, .string ⟨#[]⟩, .slice none 0 0, .int .i64 0] rfl
  have hsz : (w.alloc (.cells #[.int .u8 0, .int .i64 0, .string ⟨#[]⟩, .slice none 0 0, .int .i64 0] 27)).heap.size = w.heap.size + 1 := by simp
  have hF := fun w' => front_any 16 (by decide) s 512 w' (by decide) hs
  go_enter Try.func52, Try.ntmps52
  go_wp2_with fail
  generalize World.alloc w _ = W0 at *
  refine (hF W0).mono ?_
  rintro e w2 hq
  have hK2 := hK.fr hq.fr (fun h => h)
  have hs2 := hq.fr.size
  have HF2 := hide (fr1.trans hq.fr)
  obtain ⟨k0, k1, k2, k3, k4, kf⟩ := hK2.cells5
  have kq := hK2.lt
  cases hp : parse 16 s 512 with
  | none =>
    have he := hq.no hp
    subst he
    have HP := hide hp
    clear hq hp hF hK hK2 fr1
    go_wp2
    refine bodyPost_ret (v := (.tuple #[.agg #[.int .u8 0, .int .i64 0, .string ⟨#[]⟩, .slice none 0 0, .int .i64 0], .string ⟨#[]⟩, .int .i64 20])) (by simp [results, Try.results52, go_sem, *]) rfl ?_
    refine ⟨?_, fun _ => rfl, (fun _ _ _ h => by rw [HP.out] at h; cases h)⟩
    have f := HF2.out
    repeat (first | with_reducible exact f | with_reducible refine Fr.setNew ?_ (by first | (simp; done) | (simp; omega)) _ | with_reducible refine Fr.alloc ?_ _)
  | some tv =>
    obtain ⟨u, s3, n3⟩ := tv
    obtain ⟨⟨k1, m1, t1, A1, cap1, l1, q1⟩, rfl, rfl, ht⟩ := hq.yes u s3 n3 hp
    rw [T.val_mk]
    have hn3 := (parse_le 16 _ _ _ _ _ hp).2
    have hneg : decide (((512 : Nat) : Int) - (n3 : Int) < 0) = false := by simp; omega
    have HP := hide hp
    have HT := hide ht
    clear hq hp hF hK hK2 fr1 ht
    go_wp2
    refine bodyPost_ret (v := (.tuple #[.agg #[.int .u8 k1, .int .i64 m1, .string t1, .slice A1 l1.length cap1, .int .i64 q1], .string s3, .int .i64 0])) (by simp [results, Try.results52, go_sem, *]) rfl ?_
    refine ⟨?_, (fun h => by rw [HP.out] at h; cases h), fun u s' n' h => ?_⟩
    · have f := HF2.out
      repeat (first | with_reducible exact f | with_reducible refine Fr.setNew ?_ (by first | (simp; done) | (simp; omega)) _ | with_reducible refine Fr.alloc ?_ _)
    · rw [HP.out] at h
      cases h
      refine ⟨T.mk k1 m1 t1 A1 cap1 l1 q1, rfl, rfl, ?_⟩
      refine (T.In.fr (S := fun i => i = w.heap.size) HT.out ?_ (by omega) (fun i h0 h1 h2 => by have h' : i = w.heap.size := h2; omega)).more (by omega) (by simp)
      repeat (first | with_reducible exact Fr.refl _ w2 | with_reducible refine Fr.set ?_ (by simp) _ | with_reducible refine Fr.alloc ?_ _)

set_option maxRecDepth 100000 in
set_option maxHeartbeats 4000000 in
theorem refRead_any (s : ByteArray) (w : World) : Calls Try.prog 49 #[.string s] w (ReadP s w) := by
  have fr1 := (Fr.refl No w).alloc (.cells #[.int .u8 0, .int .i64 0, .string ⟨#[]⟩, .slice none 0 0, .int .i64 0] 27)
  have hK := Blk.new' w 27 #[.int .u8 0, .int .i64 0, .string ⟨#[]⟩, .slice none 0 0, .int .i64 0] rfl
  by_cases hbig : 262144 < s.size
  · have hb' : (262144 : Int) < (s.size : Int) := by omega
    go_enter Try.func49, Try.ntmps49
    go_wp2
    refine bodyPost_ret (v := (.tuple #[.agg #[.int .u8 0, .int .i64 0, .string ⟨#[]⟩, .slice none 0 0, .int .i64 0], .int .i64 4])) (by simp [results, Try.results49, go_sem, *]) rfl ?_
    refine ⟨?_, fun _ => rfl, (fun h => by omega), (fun _ _ h => by omega)⟩
    repeat (first | with_reducible exact fr1 | with_reducible refine Fr.setNew ?_ (Nat.le_refl _) _)
  · have hb' : ¬ (262144 : Int) < (s.size : Int) := by omega
    have hF := fun w => refFront_any s w (by omega)
    have hsz : (w.alloc (.cells #[.int .u8 0, .int .i64 0, .string ⟨#[]⟩, .slice none 0 0, .int .i64 0] 27)).heap.size = w.heap.size + 1 := by simp
    go_enter Try.func49, Try.ntmps49
    go_wp2_with fail
    generalize World.alloc w _ = W0 at *
    refine (hF W0).mono ?_
    rintro e w2 hq
    have hK2 := hK.fr hq.fr (fun h => h)
    have hs2 := hq.fr.size
    have HF2 := hide (fr1.trans hq.fr)
    obtain ⟨k0, k1, k2, k3, k4, kf⟩ := hK2.cells5
    have kq := hK2.lt
    cases hp : parse 16 s 512 with
    | none =>
      have he := hq.no hp
      subst he
      have HP := hide hp
      clear hq hp hF hK hK2 fr1
      go_wp2
      refine bodyPost_ret (v := (.tuple #[.agg #[.int .u8 0, .int .i64 0, .string ⟨#[]⟩, .slice none 0 0, .int .i64 0], .int .i64 20])) (by simp [results, Try.results49, go_sem, *]) rfl ?_
      refine ⟨?_, (fun h => absurd h hbig), fun _ _ => rfl, (fun _ _ _ h => by rw [HP.out] at h; cases h)⟩
      have f := HF2.out
      repeat (first | with_reducible exact f | with_reducible refine Fr.setNew ?_ (by first | (simp; done) | (simp; omega)) _ | with_reducible refine Fr.alloc ?_ _)
    | some tv =>
      obtain ⟨u, s3, n3⟩ := tv
      obtain ⟨⟨k1, m1, t1, A1, cap1, l1, q1⟩, rfl, rfl, ht⟩ := hq.yes u s3 n3 hp
      rw [T.val_mk]
      have HP := hide hp
      have HT := hide ht
      clear hq hp hF hK hK2 fr1 ht
      by_cases hs3 : s3 = ⟨#[]⟩
      · subst hs3
        go_wp2
        refine bodyPost_ret (v := (.tuple #[.agg #[.int .u8 k1, .int .i64 m1, .string t1, .slice A1 l1.length cap1, .int .i64 q1], .int .i64 0])) (by simp [results, Try.results49, go_sem, *]) rfl ?_
        refine ⟨?_, (fun h => absurd h hbig), (fun _ h => absurd HP.out (h _ _)), fun u n' _ h => ?_⟩
        · have f := HF2.out
          repeat (first | with_reducible exact f | with_reducible refine Fr.setNew ?_ (by first | (simp; done) | (simp; omega)) _ | with_reducible refine Fr.alloc ?_ _)
        · rw [HP.out] at h
          cases h
          refine ⟨T.mk k1 m1 t1 A1 cap1 l1 q1, rfl, rfl, ?_⟩
          refine (T.In.fr (S := fun i => i = w.heap.size) HT.out ?_ (by omega) (fun i h0 h1 h2 => by have h' : i = w.heap.size := h2; omega)).more (by omega) (by simp)
          repeat (first | with_reducible exact Fr.refl _ w2 | with_reducible refine Fr.set ?_ (by simp) _ | with_reducible refine Fr.alloc ?_ _)
      · have hs4 : s3.toList.isEmpty = false := notEmpty hs3
        go_wp2
        refine bodyPost_ret (v := (.tuple #[.agg #[.int .u8 0, .int .i64 0, .string ⟨#[]⟩, .slice none 0 0, .int .i64 0], .int .i64 20])) (by simp [results, Try.results49, go_sem, *]) rfl ?_
        refine ⟨?_, (fun h => absurd h hbig), fun _ _ => rfl, (fun _ _ _ h => by rw [HP.out] at h; cases h; exact absurd rfl hs3)⟩
        have f := HF2.out
        repeat (first | with_reducible exact f | with_reducible refine Fr.setNew ?_ (by first | (simp; done) | (simp; omega)) _ | with_reducible refine Fr.alloc ?_ _)

end Go.Proofs.Ytihjmipmjogpoaa

/- Texts joined: J15, Y1, Y2, Y3, Y4, Y5. -/
import Derived.Test.YtihjmipmjogpoaaJn4
import Derived.Lib.ConvBytes
import Derived.Lib.SmallJoins
/- Chapter 2: the document's answer: the bytes of a value. -/
namespace Go.Proofs.Ytihjmipmjogpoaa
open Go.RowKit

theorem xor63 (x : Nat) (hx : x < 9223372036854775808) : x ^^^ 9223372036854775808 = 9223372036854775808 + x := by
  refine Nat.eq_of_testBit_eq fun i => ?_
  rw [Nat.testBit_xor]
  have e : (9223372036854775808 : Nat) = 2 ^ 63 := by decide
  rw [e] at hx ⊢
  rcases Nat.lt_trichotomy i 63 with h | h | h
  · rw [Nat.testBit_two_pow_add_gt h, Nat.testBit_two_pow_of_ne (by omega)]; simp
  · subst h; rw [Nat.testBit_two_pow_add_eq, Nat.testBit_two_pow_self]; simp
  · have h64 : 2 ^ 64 ≤ 2 ^ i := Nat.pow_le_pow_right (by decide) (by omega)
    rw [Nat.testBit_two_pow_of_ne (by omega), Nat.testBit_lt_two_pow (x := x) (by omega), Nat.testBit_lt_two_pow (x := 2 ^ 63 + x) (by omega)]
    rfl

theorem xor_top (n : Int) (h0 : -9223372036854775808 ≤ n) (h1 : n ≤ 9223372036854775807) : bits .xor .u64 (IntKind.u64.wrap n) 9223372036854775808 = ((n + 9223372036854775808).toNat : Int) := by
  have hw : ∃ u : Nat, IntKind.u64.wrap n = (u : Int) ∧ u < 18446744073709551616 ∧ (u ^^^ 9223372036854775808 : Nat) = (n + 9223372036854775808).toNat := by
    rcases Int.lt_or_le n 0 with h | h
    · refine ⟨(n + 18446744073709551616).toNat, by rw [IntKind.wrap_u64]; omega, by omega, ?_⟩
      have e : (n + 18446744073709551616).toNat = (n + 9223372036854775808).toNat ^^^ 9223372036854775808 := by rw [xor63 _ (by omega)]; omega
      rw [e, Nat.xor_assoc, Nat.xor_self, Nat.xor_zero]
    · refine ⟨n.toNat, by rw [IntKind.wrap_u64]; omega, by omega, ?_⟩
      rw [xor63 _ (by omega)]; omega
  obtain ⟨u, hu, hlt, hx⟩ := hw
  rw [hu]
  show IntKind.u64.wrap ((BitVec.ofInt 64 (u : Int) ^^^ BitVec.ofInt 64 9223372036854775808).toNat : Int) = _
  have e2 : (BitVec.ofInt 64 (u : Int) ^^^ BitVec.ofInt 64 9223372036854775808).toNat = (n + 9223372036854775808).toNat := by
    rw [show (9223372036854775808 : Int) = ((9223372036854775808 : Nat) : Int) from rfl, BitVec.ofInt_natCast, BitVec.ofInt_natCast, BitVec.toNat_xor, BitVec.toNat_ofNat, BitVec.toNat_ofNat, Nat.mod_eq_of_lt (by omega), Nat.mod_eq_of_lt (by omega)]
    exact hx
  rw [e2, IntKind.wrap_u64]
  omega

set_option maxRecDepth 100000 in
set_option maxHeartbeats 4000000 in
theorem bytes_any (t : T) : ∀ (w : World) (lo hi : Nat), t.In w lo hi → hi ≤ w.heap.size → t.v.ok = true → t.v.enc.length ≤ 1000000 → Calls Try.prog 114 #[t.val] w (GrowP [] t.v.enc w.heap.size w) := by
  induction t using T.ind with
  | h k n s A cap l r ih =>
    intro w lo hi ht hh hok hlen
    rw [T.val_mk]
    have fit := (T.in_mk.1 ht).1
    have k0 := fit.k0
    have k1 := fit.k1
    have n0 := fit.n0
    have n1 := fit.n1
    have henc : (T.mk k n s A cap l r).v.enc = k.toNat :: (if k = 1 then hiB ((n + 9223372036854775808).toNat) 8 else if k = 2 then hiB s.size 2 ++ strB s else if k = 3 then hiB (l.map T.v).length 2 ++ ((l.map T.v).map V.enc).flatten else if k = 4 then hiB r.toNat 4 else []) := by rw [T.v_mk, V.enc_mk]
    have hkn : k = ((k.toNat : Nat) : Int) := by omega
    have hb1 := (Blk.new w 27 #[.int .u8 k, .int .i64 n, .string s, .slice A l.length cap, .int .i64 r]).alloc (.cells #[.int .u8 k] 5)
    have hr1 := byte_row (Blk.new' (w.alloc (.cells #[.int .u8 k, .int .i64 n, .string s, .slice A l.length cap, .int .i64 r] 27)) 5 #[.int .u8 k] (g := w.heap.size + 1) (by simp)) hkn (show w.heap.size ≤ w.heap.size + 1 by omega)
    have fr1 : Fr (BS w.heap.size w) w ((w.alloc (.cells #[.int .u8 k, .int .i64 n, .string s, .slice A l.length cap, .int .i64 r] 27)).alloc (.cells #[.int .u8 k] 5)) := ((Fr.refl _ w).alloc _).alloc _
    have hs1 : w.heap.size + 2 ≤ ((w.alloc (.cells #[.int .u8 k, .int .i64 n, .string s, .slice A l.length cap, .int .i64 r] 27)).alloc (.cells #[.int .u8 k] 5)).heap.size := by simp
    have hok1 := hok
    rw [T.v_mk, V.ok_mk, Bool.and_eq_true] at hok1
    have HE := hide henc
    have HB := hide hb1
    have HR := hide hr1
    have HF := hide fr1
    have HOK := hide hok1
    have HL := hide hlen
    clear henc hkn hb1 hr1 fr1 hok1 hlen hok
    go_enter Try.func114, Try.ntmps114
    go_upto_region 2 with (fail)
    generalize World.alloc (World.alloc w _) _ = w1 at *
    obtain ⟨x0, x1, x2, x3, x4, xf⟩ := HB.out.cells5
    have q0 := HB.out.lt
    by_cases h1 : k = 1
    · subst h1
      have he1 := HE.out
      rw [if_pos rfl] at he1
      have HE1 := hide he1
      have hxor := xor_top n n0 n1
      have HX := hide hxor
      clear he1 hxor
      go_wp2_with fail
      rw [HX.out]
      refine (big_any _ 8 w1 (by omega) (by omega)).mono ?_
      rintro e w2 ⟨v2, rfl, ho2, f2⟩
      rw [List.nil_append] at ho2
      have f12 : Fr (BS w.heap.size w) w w2 := BS.trans HF.out (f2.mono fun i _ h => ⟨by have := h.1; omega, h.2⟩)
      have hr2 := owns_fr HR.out f2 (fun g hg h => by simp [Value.ownBlock] at hg; subst hg; have := h.1; omega)
      have hb2 := HB.out.fr f2 (fun h => by have := h.1; omega)
      have hs2 := f12.size
      have HO2 := hide ho2
      have HR2 := hide hr2
      have HF2 := hide f12
      have HB2 := hide hb2
      clear ho2 hr2 f12 f2 hb2 x0 x1 x2 x3 x4 xf q0
      obtain ⟨x0, x1, x2, x3, x4, xf⟩ := HB2.out.cells5
      have q0 := HB2.out.lt
      go_wp2_with (at_builtin; refine wpList_append_bytes (by rfl) _ _ (by rfl) w.heap.size w1.heap.size _ v2 [Int.toNat 1] (hiB ((n + 9223372036854775808).toNat) 8) (by rfl) (by rfl) HR2.out HO2.out (by rw [hiB_length]; omega) (by rw [hiB_length]; simp) (by omega) ?_; intro v3 w3 ho3 f3; have HO3 := hide ho3; have HG3 := hide f3; clear ho3 f3)
      go_ret
      rw [HE1.out]
      exact ⟨v3, rfl, HO3.out, BS.trans HF2.out HG3.out⟩
    by_cases h2 : k = 2
    · subst h2
      have he1 := HE.out
      rw [if_neg (by decide), if_pos rfl] at he1
      have HE1 := hide he1
      clear he1
      have hss : s.size ≤ 256 := by have := HOK.out.1; simp [fok] at this; omega
      have hws := u64_nat s.size (by omega)
      go_wp2_with fail
      refine (big_any _ 2 w1 (by omega) (by omega)).mono ?_
      rintro e w2 ⟨v2, rfl, ho2, f2⟩
      rw [List.nil_append] at ho2
      have f12 : Fr (BS w.heap.size w) w w2 := BS.trans HF.out (f2.mono fun i _ h => ⟨by have := h.1; omega, h.2⟩)
      have hr2 := owns_fr HR.out f2 (fun g hg h => by simp [Value.ownBlock] at hg; subst hg; have := h.1; omega)
      have hb2 := HB.out.fr f2 (fun h => by have := h.1; omega)
      have hs2 := f12.size
      have HO2 := hide ho2
      have HR2 := hide hr2
      have HF2 := hide f12
      have HB2 := hide hb2
      clear ho2 hr2 f12 f2 hb2 x0 x1 x2 x3 x4 xf q0
      obtain ⟨x0, x1, x2, x3, x4, xf⟩ := HB2.out.cells5
      have q0 := HB2.out.lt
      go_upto_region 7 with (at_builtin; refine wpList_append_bytes (by rfl) _ _ (by rfl) w.heap.size w1.heap.size _ v2 [Int.toNat 2] (hiB s.size 2) (by rfl) (by rfl) HR2.out HO2.out (by rw [hiB_length]; omega) (by rw [hiB_length]; simp) (by omega) ?_; intro v3 w3 ho3 f3; have HO3 := hide ho3; have HG3 := hide f3; clear ho3 f3)
      have hb3 := HB2.out.fr HG3.out (HB2.out.bs (by decide))
      have hs3 := HG3.out.size
      clear x0 x1 x2 x3 x4 xf q0
      obtain ⟨x0, x1, x2, x3, x4, xf⟩ := hb3.cells5
      have q0 := hb3.lt
      clear hb3
      go_wp2_with (at_builtin; refine wpList_append_text (by rfl) _ _ (by rfl) w.heap.size v3 ([Int.toNat 2] ++ hiB s.size 2) s (by rfl) (by rfl) HO3.out (by rw [List.length_append, hiB_length]; simp; omega) (by omega) ?_; intro v4 w4 ho4 f4; have HO4 := hide ho4; have HG4 := hide f4; clear ho4 f4)
      go_ret
      rw [HE1.out]
      refine ⟨v4, rfl, ?_, BS.trans (BS.trans HF2.out HG3.out) HG4.out⟩
      have h := HO4.out
      rw [List.append_assoc] at h
      exact h
    by_cases h3 : k = 3
    · subst h3
      have he1 := HE.out
      rw [if_neg (by decide), if_neg (by decide), if_pos rfl] at he1
      have HE1 := hide he1
      clear he1
      have hll := fit.len1
      have hws := u64_nat l.length (by omega)
      go_wp2_with fail
      refine (big_any _ 2 w1 (by omega) (by omega)).mono ?_
      rintro e w2 ⟨v2, rfl, ho2, f2⟩
      rw [List.nil_append] at ho2
      have f12 : Fr (BS w.heap.size w) w w2 := BS.trans HF.out (f2.mono fun i _ h => ⟨by have := h.1; omega, h.2⟩)
      have hr2 := owns_fr HR.out f2 (fun g hg h => by simp [Value.ownBlock] at hg; subst hg; have := h.1; omega)
      have hb2 := HB.out.fr f2 (fun h => by have := h.1; omega)
      have hs2 := f12.size
      have HO2 := hide ho2
      have HR2 := hide hr2
      have HF2 := hide f12
      have HB2 := hide hb2
      clear ho2 hr2 f12 f2 hb2 x0 x1 x2 x3 x4 xf q0
      obtain ⟨x0, x1, x2, x3, x4, xf⟩ := HB2.out.cells5
      have q0 := HB2.out.lt
      go_wp2_with (at_builtin; refine wpList_append_bytes (by rfl) _ _ (by rfl) w.heap.size w1.heap.size _ v2 [Int.toNat 3] (hiB l.length 2) (by rfl) (by rfl) HR2.out HO2.out (by rw [hiB_length]; omega) (by rw [hiB_length]; simp) (by omega) ?_; intro v3 w3 ho3 f3; have HO3 := hide ho3; have HG3 := hide f3; clear ho3 f3)
      have hb3 := HB2.out.fr HG3.out (HB2.out.bs (by decide))
      have hs3 := HG3.out.size
      have HB3 := hide hb3
      have F3 := BS.trans HF2.out HG3.out
      have HF3 := hide F3
      have hll2 : (l.length : Int) ≤ 2199023255488 := by omega
      clear x0 x1 x2 x3 x4 xf q0 hb3 F3
      go_loopw [3, 4] (fun s0 s44 wr => ∃ j : Nat, j ≤ l.length ∧ s44 = .int .i64 j ∧ wr.ownsRow w.heap.size 5 1 s0 ([Int.toNat 3] ++ hiB l.length 2 ++ (((l.map T.v).take j).map V.enc).flatten).length (byteCells ([Int.toNat 3] ++ hiB l.length 2 ++ (((l.map T.v).take j).map V.enc).flatten)) ∧ Fr (BS w.heap.size w3) w3 wr) (fun _ s44 _ => l.length - (intOf s44).toNat)
      case atStart => exact ⟨0, Nat.zero_le _, rfl, by simpa using HO3.out, Fr.refl _ _⟩
      case round =>
        obtain ⟨j, hj, rfl, how, fr⟩ := hrel
        have hb4 := HB3.out.fr fr (HB3.out.bs (by decide))
        obtain ⟨x0, x1, x2, x3, x4, xf⟩ := hb4.cells5
        have q0 := hb4.lt
        have HB4 := hide hb4
        clear hb4
        by_cases hlt : j < l.length
        · have fw := BS.trans HF3.out fr
          obtain ⟨b, o, k6, n6, s6, A6, cap6, l6, r6, rfl, hb0, hb9, hx, hin, e0, e1, e2, e3, e4⟩ := T.elem (ht.fr fw hh (fun i h0 h1 ⟨h2, _⟩ => by omega)) hlt
          have hbr : w.heap.size ≤ wr.heap.size := fw.size
          have g0 : b < wr.heap.size := by omega
          have IH := ih l[j] (List.getElem_mem hlt)
          have htk : ((l.map T.v).take (j + 1)).map V.enc = ((l.map T.v).take j).map V.enc ++ [(T.mk k6 n6 s6 A6 cap6 l6 r6).v.enc] := by
            rw [List.take_succ_eq_append_getElem (by simpa using hlt), List.map_append, List.getElem_map, hx]; rfl
          have hokx : (T.mk k6 n6 s6 A6 cap6 l6 r6).v.ok = true := by
            rw [← hx]; exact List.all_eq_true.1 HOK.out.2 _ (List.mem_map_of_mem (List.getElem_mem hlt))
          have hsumx : (((l.map T.v).take (j + 1)).map V.enc).flatten.length ≤ (((l.map T.v).map V.enc).flatten).length := by
            conv => rhs; rw [← List.take_append_drop (j + 1) (l.map T.v), List.map_append, List.flatten_append, List.length_append]
            omega
          rw [htk, List.flatten_append, List.length_append] at hsumx
          simp only [List.flatten_cons, List.flatten_nil, List.append_nil] at hsumx
          rw [hx, T.val_mk] at IH
          have hbound : ([Int.toNat 3] ++ hiB l.length 2 ++ (((l.map T.v).take j).map V.enc).flatten).length + (T.mk k6 n6 s6 A6 cap6 l6 r6).v.enc.length ≤ 1000000 := by
            have h := HL.out
            rw [HE1.out] at h
            simp only [List.length_append, List.length_cons, List.length_nil, hiB_length, List.length_map] at h ⊢
            omega
          have hpos := enc_pos (T.mk k6 n6 s6 A6 cap6 l6 r6).v
          have hI := IH wr lo hi hin (by omega) hokx (by omega)
          generalize (T.mk k6 n6 s6 A6 cap6 l6 r6).v.enc = ys at *
          generalize hxs : [Int.toNat 3] ++ hiB l.length 2 ++ (((l.map T.v).take j).map V.enc).flatten = xs at *
          have HI := hide hI
          have HTK := hide htk
          have HFRR := hide fr
          have HOW := hide how
          have HXS := hide hxs
          clear hI IH ih htk hx hin hokx hsumx fr fw how hxs
          go_wp2_with fail
          refine HI.out.mono ?_
          rintro e w5 ⟨v5, rfl, ho5, f5⟩
          rw [List.nil_append] at ho5
          have hr5 := owns_fr HOW.out f5 (fun g hg h => by have := (owns_lt HOW.out g hg).2; have := h.1; omega)
          have f35 : Fr (BS w.heap.size w3) w3 w5 := BS.trans HFRR.out (f5.mono fun i _ h => ⟨by have := h.1; omega, h.2⟩)
          have hs5 := f5.size
          have HO5 := hide ho5
          have HR5 := hide hr5
          have HF5 := hide f35
          clear ho5 hr5 f35 f5
          go_wp2_with (at_builtin; refine wpList_append_bytes (by rfl) _ _ (by rfl) w.heap.size wr.heap.size _ v5 xs ys (by rfl) (by rfl) HR5.out HO5.out hpos (by omega) (by omega) ?_; intro v6 w6 ho6 f6; have HO6 := hide ho6; have HG6 := hide f6; clear ho6 f6)
          go_roundw
          case rel =>
            refine ⟨j + 1, hlt, by go_num, ?_, BS.trans HF5.out HG6.out⟩
            rw [HTK.out, List.flatten_append, ← List.append_assoc, HXS.out]
            simpa only [List.flatten_cons, List.flatten_nil, List.append_nil] using HO6.out
          case measure => simp [intOf]; omega
        · obtain rfl : j = l.length := by omega
          have HOW := hide how
          have HFRR := hide fr
          clear how fr ih
          go_wp2
          go_ret
          rw [HE1.out]
          refine ⟨_, rfl, ?_, BS.trans HF3.out HFRR.out⟩
          have h := HOW.out
          rw [List.take_of_length_le (by simp)] at h
          simp only [List.length_map, List.append_assoc, List.cons_append, List.nil_append] at h ⊢
          exact h
    by_cases h4 : k = 4
    · subst h4
      have he1 := HE.out
      rw [if_neg (by decide), if_neg (by decide), if_neg (by decide), if_pos rfl] at he1
      have HE1 := hide he1
      clear he1
      have hr1 : 1 ≤ r := by have := HOK.out.1; simp [fok] at this; omega
      obtain ⟨e1, e2⟩ := u64_pos r (by omega) fit.r1
      have E1 := hide e1
      have E2 := hide e2
      clear e1 e2 hr1
      go_wp2_with fail
      rw [E1.out]
      refine (big_any _ 4 w1 E2.out (by omega)).mono ?_
      rintro e w2 ⟨v2, rfl, ho2, f2⟩
      rw [List.nil_append] at ho2
      have f12 : Fr (BS w.heap.size w) w w2 := BS.trans HF.out (f2.mono fun i _ h => ⟨by have := h.1; omega, h.2⟩)
      have hr2 := owns_fr HR.out f2 (fun g hg h => by simp [Value.ownBlock] at hg; subst hg; have := h.1; omega)
      have hb2 := HB.out.fr f2 (fun h => by have := h.1; omega)
      have hs2 := f12.size
      have HO2 := hide ho2
      have HR2 := hide hr2
      have HF2 := hide f12
      have HB2 := hide hb2
      clear ho2 hr2 f12 f2 hb2 x0 x1 x2 x3 x4 xf q0
      obtain ⟨x0, x1, x2, x3, x4, xf⟩ := HB2.out.cells5
      have q0 := HB2.out.lt
      go_wp2_with (at_builtin; refine wpList_append_bytes (by rfl) _ _ (by rfl) w.heap.size w1.heap.size _ v2 [Int.toNat 4] (hiB r.toNat 4) (by rfl) (by rfl) HR2.out HO2.out (by rw [hiB_length]; omega) (by rw [hiB_length]; simp) (by omega) ?_; intro v3 w3 ho3 f3; have HO3 := hide ho3; have HG3 := hide f3; clear ho3 f3)
      go_ret
      rw [HE1.out]
      exact ⟨v3, rfl, HO3.out, BS.trans HF2.out HG3.out⟩
    have h1' : (k == 1) = false := by simpa using h1
    have h2' : (k == 2) = false := by simpa using h2
    have h3' : (k == 3) = false := by simpa using h3
    have h4' : (k == 4) = false := by simpa using h4
    go_wp2
    go_ret
    rw [HE.out, if_neg h1, if_neg h2, if_neg h3, if_neg h4]
    exact ⟨_, rfl, HR.out, HF.out⟩

end Go.Proofs.Ytihjmipmjogpoaa

/- Chapter 2: the reader of bytes: what is made, what it takes. -/
namespace Go.Proofs.Ytihjmipmjogpoaa
open Go.RowKit

/-- A reader at r over the box at b: so many bytes ahead, so many parts and levels left. -/
structure Rdr (w : World) (b r : Nat) (s : ByteArray) (n d : Int) : Prop where
  box : Blk w b 9 #[.string s]
  st : Blk w r 162 #[.func (.func 141) #[] #[.pointer (some ⟨b, 0, none⟩)], .func (.func 142) #[] #[.pointer (some ⟨b, 0, none⟩)], .int .i64 n, .int .i64 d]

theorem Rdr.fr {w w' : World} {b r : Nat} {s : ByteArray} {n d : Int} {S : Nat → Prop} (h : Rdr w b r s n d) (f : Fr S w w') (hb : ¬ S b) (hr : ¬ S r) : Rdr w' b r s n d := ⟨h.box.fr f hb, h.st.fr f hr⟩

theorem Rdr.ne {w : World} {b r : Nat} {s : ByteArray} {n d : Int} (h : Rdr w b r s n d) : b ≠ r := h.box.ne_ h.st (by decide)

theorem rover_any (s : ByteArray) (w : World) : Calls Try.prog 115 #[.string s] w fun e w' => e = .returned (.pointer (some ⟨w.heap.size + 1, 0, none⟩)) ∧ Rdr w' w.heap.size (w.heap.size + 1) s 512 16 ∧ Fr No w w' := by
  have hb := Blk.new w 9 #[.string s]
  have hf := ((Fr.refl No w).alloc (.cells #[.string s] 9))
  go_enter Try.func115, Try.ntmps115
  go_wp2
  go_ret
  exact ⟨rfl, ⟨hb.alloc _, Blk.new' _ 162 _ (by simp)⟩, hf.alloc _⟩

/-- What a take leaves. -/
def RTakeP (b : Nat) (s : ByteArray) (n : Int) (w : World) (e : Ending) (w' : World) : Prop :=
  Fr (fun i => i = b) w w' ∧ ((s.size < n ∧ e = .returned (.tuple #[.string ⟨#[]⟩, .bool false]) ∧ Blk w' b 9 #[.string s]) ∨
    (n ≤ s.size ∧ e = .returned (.tuple #[.string (s.extract 0 n.toNat), .bool true]) ∧ Blk w' b 9 #[.string (s.extract n.toNat s.size)]))

theorem rtake_any (b : Nat) (s : ByteArray) (n : Int) (w : World) (h0 : 0 ≤ n) (h : Blk w b 9 #[.string s]) : Calls Try.prog 141 #[.int .i64 n, .pointer (some ⟨b, 0, none⟩)] w (RTakeP b s n w) := by
  have c0 := h.cell 0
  simp only [List.getElem?_toArray, List.getElem?_cons_zero] at c0
  have cf := h.frozen 0
  have q0 := h.lt
  have H := hide h
  by_cases hn : s.size < n
  · go_enter Try.func141, Try.ntmps141
    go_wp2
    go_ret2
    exact ⟨Fr.refl _ _, .inl ⟨hn, rfl, H.out⟩⟩
  · have hn' : n ≤ s.size := by omega
    go_enter Try.func141, Try.ntmps141
    go_wp2
    go_ret2
    exact ⟨(Fr.refl (fun i => i = b) w).set (p := ⟨b, 0, none⟩) (fun _ => rfl) _, .inr ⟨hn', rfl, H.out.set_ 0 _⟩⟩

theorem rrest_any (b : Nat) (s : ByteArray) (w : World) (h : Blk w b 9 #[.string s]) : Calls Try.prog 142 #[.pointer (some ⟨b, 0, none⟩)] w fun e w' => e = .returned (.string s) ∧ w' = w := by
  have c0 := h.cell 0
  simp only [List.getElem?_toArray, List.getElem?_cons_zero] at c0
  go_enter Try.func142, Try.ntmps142
  go_wp2
  go_ret
  exact ⟨rfl, rfl⟩

end Go.Proofs.Ytihjmipmjogpoaa

/- Chapter 2: the reader's numbers. -/
namespace Go.Proofs.Ytihjmipmjogpoaa
open Go.RowKit

/-- The number of a row of bytes, the highest first. -/
def bigN (l : List Nat) : Nat := l.foldl (fun a x => a * 256 + x) 0

theorem bigN_snoc (l : List Nat) (x : Nat) : bigN (l ++ [x]) = bigN l * 256 + x := by simp [bigN]

theorem bigN_lt (l : List Nat) (h : ∀ x ∈ l, x < 256) : bigN l < 256 ^ l.length := by
  suffices h' : ∀ a : Nat, l.foldl (fun a x => a * 256 + x) a < (a + 1) * 256 ^ l.length by simpa [bigN] using h' 0
  induction l with
  | nil => intro a; simp
  | cons x l ih =>
    intro a
    have h1 := ih (fun y hy => h y (by simp [hy])) (a * 256 + x)
    have h2 := h x (by simp)
    simp only [List.foldl_cons, List.length_cons, Nat.pow_succ]
    have h3 : (a * 256 + x + 1) * 256 ^ l.length ≤ ((a + 1) * 256) * 256 ^ l.length := Nat.mul_le_mul_right _ (by omega)
    have h4 : (a + 1) * 256 * 256 ^ l.length = (a + 1) * (256 ^ l.length * 256) := by rw [Nat.mul_assoc, Nat.mul_comm 256]
    omega

theorem strB_lt (s : ByteArray) : ∀ x ∈ strB s, x < 256 := by
  intro x hx
  simp only [strB, List.mem_map] at hx
  obtain ⟨y, -, rfl⟩ := hx
  exact y.toNat_lt

theorem or_shift (a x : Nat) (ha : a < 72057594037927936) (hx : x < 256) : bits .or .u64 ((a : Int) * 256) (x : Int) = (a : Int) * 256 + (x : Int) := by
  have e1 : BitVec.ofInt 64 ((a : Int) * 256) = BitVec.ofNat 64 (a * 256) := by
    rw [show ((a : Int) * 256) = ((a * 256 : Nat) : Int) by omega, BitVec.ofInt_natCast]
  have e2 : (BitVec.ofInt 64 ((a : Int) * 256) ||| BitVec.ofInt 64 (x : Int)).toNat = a * 256 + x := by
    rw [e1, BitVec.ofInt_natCast, BitVec.toNat_or, BitVec.toNat_ofNat, BitVec.toNat_ofNat, Nat.mod_eq_of_lt (by omega), Nat.mod_eq_of_lt (by omega)]
    have h := Nat.two_pow_add_eq_or_of_lt (i := 8) (b := x) hx a
    rw [show a * 256 = 2 ^ 8 * a by omega]
    exact h.symm
  show IntKind.u64.wrap ((BitVec.ofInt 64 ((a : Int) * 256) ||| BitVec.ofInt 64 (x : Int)).toNat : Int) = _
  rw [e2, IntKind.wrap_u64]
  omega

def NumP (b r : Nat) (s : ByteArray) (n d : Int) (len : Nat) (w : World) (e : Ending) (w' : World) : Prop :=
  Fr (fun i => i = b) w w' ∧ ∃ (ok : Bool) (x : Nat) (s' : ByteArray), e = .returned (.tuple #[.int .u64 (x : Int), .bool ok]) ∧ Rdr w' b r s' n d ∧
    ((ok = false ∧ x = 0 ∧ s.size < len ∧ s' = s) ∨ (ok = true ∧ len ≤ s.size ∧ x = bigN (strB (s.extract 0 len)) ∧ s' = s.extract len s.size))

set_option maxRecDepth 100000 in
set_option maxHeartbeats 4000000 in
theorem number_any (b r : Nat) (s : ByteArray) (n d : Int) (len : Nat) (w : World) (hlen : len ≤ 8) (h : Rdr w b r s n d) : Calls Try.prog 143 #[.pointer (some ⟨r, 0, none⟩), .int .i64 (len : Int)] w (NumP b r s n d len w) := by
  have c0 := h.st.cell 0
  simp only [List.getElem?_toArray, List.getElem?_cons_zero] at c0
  have cf := h.st.frozen 0
  have q0 := h.st.lt
  have hT := rtake_any b s len w (by omega) h.box
  have H := hide h
  have HT := hide hT
  clear h hT
  go_enter Try.func143, Try.ntmps143
  go_wp2_with fail
  refine HT.out.mono ?_
  rintro e w2 ⟨fr2, hq⟩
  obtain ⟨s1, ok, rfl, hs1, hfin⟩ : ∃ (s1 : ByteArray) (ok : Bool), e = .returned (.tuple #[.string s1, .bool ok]) ∧ s1.size ≤ 8 ∧ (∀ w3, Fr No w2 w3 → NumP b r s n d len w (.returned (.tuple #[.int .u64 (bigN (strB s1) : Int), .bool ok])) w3) := by
    have hst2 := H.out.st.fr fr2 (fun h => H.out.ne h.symm)
    rcases hq with ⟨h1, rfl, h2⟩ | ⟨h1, rfl, h2⟩
    · refine ⟨_, _, rfl, by decide, fun w3 f3 => ⟨fr2.thenNo f3, false, 0, s, rfl, Rdr.fr ⟨h2, hst2⟩ f3 (fun h => h) (fun h => h), .inl ⟨rfl, rfl, by omega, rfl⟩⟩⟩
    · refine ⟨_, _, rfl, ?_, fun w3 f3 => ⟨fr2.thenNo f3, true, _, _, rfl, Rdr.fr ⟨h2, hst2⟩ f3 (fun h => h) (fun h => h), .inr ⟨rfl, by omega, by simp, by simp⟩⟩⟩
      rw [ByteArray.size_extract]; simp; omega
  have hcv := fun w => Lib.run_convert_string_bytes (P := Try.prog) w 9 151 5 s1 Try.underlying9 Try.underlying151 Try.underlying5
  have hbs := Lib.bytesWorld_size w2 5 s1
  have hcell := Lib.bytesWorld_cell w2 5 s1
  have fb := Fr.ofBelow (Joins.below_bytesWorld _ w2 5 s1 (Nat.le_refl _))
  have HFI := hide hfin
  have HB := hide fb
  clear hq fr2 hfin c0 cf q0 fb
  go_wp2_with fail
  generalize Lib.bytesWorld w2 5 s1 = W0 at *
  go_loopw [4, 21] (fun s4 i wr => ∃ j : Nat, j ≤ s1.size ∧ i = .int .i64 j ∧ s4 = .int .u64 (bigN ((strB s1).take j) : Int) ∧ Fr No W0 wr) (fun _ i _ => s1.size - (intOf i).toNat)
  case atStart => exact ⟨0, Nat.zero_le _, rfl, rfl, Fr.refl _ _⟩
  case round =>
    obtain ⟨j, hj, rfl, rfl, fr⟩ := hrel
    by_cases hlt : j < s1.size
    · have hcj := hcell j hlt
      rw [← fr.cell (by rw [hbs]; omega) (fun h => h)] at hcj
      have hjl : j < (strB s1).length := by rw [strB_length]; exact hlt
      have htk : (strB s1).take (j + 1) = (strB s1).take j ++ [(strB s1)[j]] := List.take_succ_eq_append_getElem hjl
      have hx : (strB s1)[j] < 256 := strB_lt s1 _ (List.getElem_mem hjl)
      have hbl : bigN ((strB s1).take j) < 256 ^ j := by
        have := bigN_lt ((strB s1).take j) (fun x hx => strB_lt s1 x (List.mem_of_mem_take hx))
        rwa [List.length_take, Nat.min_eq_left (by omega)] at this
      have hcx : (s1.data.toList.getD j 0).toNat = (strB s1)[j] := by
        have h9 : j < s1.data.size := hlt
        simp [strB, Array.getElem?_eq_getElem h9]
      rw [hcx] at hcj
      generalize (strB s1)[j] = x at *
      have hb2 : bigN ((strB s1).take j) < 72057594037927936 := Nat.lt_of_lt_of_le hbl (by have : (256 : Nat) ^ j ≤ 256 ^ 7 := Nat.pow_le_pow_right (by omega) (by omega); simpa using this)
      have HT := hide htk
      have HF := hide fr
      clear htk fr hbl hcx hjl hcell
      go_wp2_with fail
      go_roundw
      case rel => exact ⟨j + 1, by omega, by go_num, by rw [HT.out, bigN_snoc, or_shift _ _ hb2 hx]; simp, HF.out⟩
      case measure => simp [intOf]; omega
    · have hje : j = s1.size := by omega
      have htk : (strB s1).take j = strB s1 := by rw [hje, ← strB_length, List.take_length]
      have HF := hide fr
      clear fr hcell
      rw [htk]
      go_wp2
      go_ret2
      exact HFI.out _ (HB.out.trans HF.out)

end Go.Proofs.Ytihjmipmjogpoaa

/- Chapter 2: what the reader reads, in plain Lean. -/
namespace Go.Proofs.Ytihjmipmjogpoaa
open Go.RowKit

abbrev Got := Option (V × ByteArray × Nat)

def parseL (g : ByteArray → Nat → Got) : Nat → ByteArray → Nat → Option (List V × ByteArray × Nat)
  | 0, s, n => some ([], s, n)
  | c + 1, s, n => (g s n).bind fun q => (parseL g c q.2.1 q.2.2).map fun x => (q.1 :: x.1, x.2)

def cutN (s : ByteArray) (n : Nat) : Option (Nat × ByteArray) := if n ≤ s.size then some (bigN (strB (s.extract 0 n)), s.extract n s.size) else none

def hdB (s : ByteArray) : Nat := (s.data.toList.getD 0 0).toNat

/-- One value off the front, with a reader for its parts. -/
def parseG (g : Option (ByteArray → Nat → Got)) (s : ByteArray) (n : Nat) : Got :=
  if s.size < 1 ∨ n = 0 then none
  else if hdB s = 0 then some (.mk 0 0 ⟨#[]⟩ [] 0, s.extract 1 s.size, n - 1)
  else if hdB s = 1 then (cutN (s.extract 1 s.size) 8).map fun q => (.mk 1 ((q.1 : Int) - 9223372036854775808) ⟨#[]⟩ [] 0, q.2, n - 1)
  else if hdB s = 4 then (cutN (s.extract 1 s.size) 4).bind fun q => if 0 < q.1 then some (.mk 4 0 ⟨#[]⟩ [] q.1, q.2, n - 1) else none
  else if hdB s = 2 then (cutN (s.extract 1 s.size) 2).bind fun q => if 256 < q.1 ∨ q.2.size < q.1 then none else some (.mk 2 0 (q.2.extract 0 q.1) [] 0, q.2.extract q.1 q.2.size, n - 1)
  else if hdB s = 3 then (cutN (s.extract 1 s.size) 2).bind fun q => match g with
    | none => none
    | some g => if n - 1 < q.1 then none else (parseL g q.1 q.2 (n - 1)).map fun x => (.mk 3 0 ⟨#[]⟩ x.1 0, x.2)
  else none

def parse : Nat → ByteArray → Nat → Got
  | 0 => parseG none
  | d + 1 => parseG (some (parse d))

/-- The parts still to be read, behind those that are. -/
theorem parseL_step (g : ByteArray → Nat → Got) (c : Nat) (s : ByteArray) (n : Nat) (x : V × ByteArray × Nat) (h : g s n = some x) : parseL g (c + 1) s n = (parseL g c x.2.1 x.2.2).map fun y => (x.1 :: y.1, y.2) := by
  simp [parseL, h]

theorem parseL_none (g : ByteArray → Nat → Got) (c : Nat) (s : ByteArray) (n : Nat) (h : g s n = none) : parseL g (c + 1) s n = none := by
  simp [parseL, h]

theorem cutN_none {s : ByteArray} {n : Nat} (h : s.size < n) : cutN s n = none := if_neg (by omega)
theorem cutN_some {s : ByteArray} {n : Nat} (h : n ≤ s.size) : cutN s n = some (bigN (strB (s.extract 0 n)), s.extract n s.size) := if_pos h

theorem hd_extract (s : ByteArray) (h : 1 ≤ s.size) : ((s.extract 0 1).data.toList.getD 0 0).toNat = hdB s ∧ (s.extract 0 1).size = 1 := by
  have h0 : 0 < s.data.size := h
  refine ⟨?_, by rw [ByteArray.size_extract]; omega⟩
  unfold hdB
  congr 1
  simp [ByteArray.data_extract, h0]

theorem hdB_lt (s : ByteArray) : hdB s < 256 := UInt8.toNat_lt _

end Go.Proofs.Ytihjmipmjogpoaa

/- Chapter 2: the reader's values. -/
namespace Go.Proofs.Ytihjmipmjogpoaa
open Go.RowKit

/-- What the reading of a value leaves. -/
structure ValP (b r : Nat) (o : Got) (d : Int) (w : World) (e : Ending) (w' : World) : Prop where
  fr : Fr (fun i => i = b ∨ i = r) w w'
  no : o = none → ∃ (k n : Int) (s : ByteArray) (A : Option Addr) (len cap : Nat) (q : Int), e = .returned (.tuple #[.agg #[.int .u8 k, .int .i64 n, .string s, .slice A len cap, .int .i64 q], .bool false])
  yes : ∀ u s' n', o = some (u, s', n') → ∃ t : T, t.v = u ∧ e = .returned (.tuple #[t.val, .bool true]) ∧ t.In w' w.heap.size w'.heap.size ∧ Rdr w' b r s' n' d

theorem Rdr.cells {w : World} {b r : Nat} {s : ByteArray} {n d : Int} (h : Rdr w b r s n d) : w.cell? ⟨r, 0, none⟩ = some (.func (.func 141) #[] #[.pointer (some ⟨b, 0, none⟩)]) ∧ w.cell? ⟨r, 1, none⟩ = some (.func (.func 142) #[] #[.pointer (some ⟨b, 0, none⟩)]) ∧ w.cell? ⟨r, 2, none⟩ = some (.int .i64 n) ∧ w.cell? ⟨r, 3, none⟩ = some (.int .i64 d) ∧
    (∀ i, w.frozen? ⟨r, i, none⟩ = false) ∧ r < w.heap.size :=
  ⟨h.st.cell 0, h.st.cell 1, h.st.cell 2, h.st.cell 3, h.st.frozen, h.st.lt⟩

theorem Rdr.far {w : World} {b r : Nat} {s : ByteArray} {n d : Int} (h : Rdr w b r s n d) {c o : Nat} (hb : b ≠ c) (hr : r ≠ c) (u : Value) : Rdr (w.setCell ⟨c, o, none⟩ u) b r s n d := ⟨h.box.far hb u, h.st.far hr u⟩

theorem ValP.fail {b r : Nat} {o : Got} {d : Int} {w w' : World} {k n : Int} {s : ByteArray} {A : Option Addr} {len cap : Nat} {q : Int} (hp : o = none) (f : Fr (fun i => i = b ∨ i = r) w w') : ValP b r o d w (.returned (.tuple #[.agg #[.int .u8 k, .int .i64 n, .string s, .slice A len cap, .int .i64 q], .bool false])) w' :=
  ⟨f, fun _ => ⟨k, n, s, A, len, cap, q, rfl⟩, fun _ _ _ h => by rw [hp] at h; cases h⟩

theorem ValP.leaf {b r : Nat} {o : Got} {d : Int} {w w' : World} {k n0 r0 : Int} {s0 s' : ByteArray} {n' : Nat} (hp : o = some (V.mk k n0 s0 [] r0, s', n')) (fit : Fit k n0 s0 0 0 r0) (f : Fr (fun i => i = b ∨ i = r) w w') (hR : Rdr w' b r s' n' d) :
    ValP b r o d w (.returned (.tuple #[.agg #[.int .u8 k, .int .i64 n0, .string s0, .slice none 0 0, .int .i64 r0], .bool true])) w' :=
  ⟨f, (fun h => by rw [hp] at h; cases h), fun u t m h => by
    rw [hp] at h
    cases h
    exact ⟨T.mk k n0 s0 none 0 [] r0, by rw [T.v_mk]; rfl, rfl, T.in_mk.2 ⟨fit, fun h => absurd rfl h, by simp⟩, hR⟩⟩

/-- What stands behind the first byte. -/
def parseK (g : Option (ByteArray → Nat → Got)) (k : Nat) (s1 : ByteArray) (n1 : Nat) : Got :=
  if k = 0 then some (.mk 0 0 ⟨#[]⟩ [] 0, s1, n1)
  else if k = 1 then (cutN s1 8).map fun q => (.mk 1 ((q.1 : Int) - 9223372036854775808) ⟨#[]⟩ [] 0, q.2, n1)
  else if k = 4 then (cutN s1 4).bind fun q => if 0 < q.1 then some (.mk 4 0 ⟨#[]⟩ [] q.1, q.2, n1) else none
  else if k = 2 then (cutN s1 2).bind fun q => if 256 < q.1 ∨ q.2.size < q.1 then none else some (.mk 2 0 (q.2.extract 0 q.1) [] 0, q.2.extract q.1 q.2.size, n1)
  else if k = 3 then (cutN s1 2).bind fun q => match g with
    | none => none
    | some g => if n1 < q.1 then none else (parseL g q.1 q.2 n1).map fun x => (.mk 3 0 ⟨#[]⟩ x.1 0, x.2)
  else none

theorem parseG_eq (g : Option (ByteArray → Nat → Got)) (s : ByteArray) (n : Nat) (h : ¬ (s.size < 1 ∨ n = 0)) : parseG g s n = parseK g (hdB s) (s.extract 1 s.size) (n - 1) := by
  unfold parseG parseK
  rw [if_neg h]
  all_goals rfl

theorem i64_u64 (x : Nat) (h : x < 18446744073709551616) : IntKind.i64.wrap (IntKind.u64.wrap ((x : Int) - 9223372036854775808)) = (x : Int) - 9223372036854775808 := by
  rw [IntKind.wrap_u64, IntKind.wrap_i64]; omega

theorem i64_nat (x : Nat) (h : x < 9223372036854775808) : IntKind.i64.wrap (x : Int) = (x : Int) := by
  rw [IntKind.wrap_i64]; omega

theorem bigN_cut (s : ByteArray) (n : Nat) (h : n ≤ s.size) : bigN (strB (s.extract 0 n)) < 256 ^ n := by
  have := bigN_lt (strB (s.extract 0 n)) (strB_lt _)
  rwa [strB_length, ByteArray.size_extract, Nat.min_eq_left h] at this

/-- What a number's reading says of the cut. -/
theorem NumP.cut {b r : Nat} {s : ByteArray} {n d : Int} {len : Nat} {w : World} {e : Ending} {w' : World} (h : NumP b r s n d len w e w') : Fr (fun i => i = b) w w' ∧ ∃ (ok : Bool) (x : Nat) (s' : ByteArray), e = .returned (.tuple #[.int .u64 (x : Int), .bool ok]) ∧ Rdr w' b r s' n d ∧ x < 256 ^ len ∧ s'.size ≤ s.size ∧ (ok = false → x = 0 ∧ cutN s len = none) ∧ (ok = true → cutN s len = some (x, s')) := by
  obtain ⟨f, ok, x, s', he, hR, ⟨rfl, rfl, h1, rfl⟩ | ⟨rfl, h1, rfl, rfl⟩⟩ := h
  · exact ⟨f, false, 0, _, he, hR, Nat.pow_pos (by decide), Nat.le_refl _, fun _ => ⟨rfl, cutN_none h1⟩, (fun h => by cases h)⟩
  · exact ⟨f, true, _, _, he, hR, bigN_cut _ _ h1, by rw [ByteArray.size_extract]; omega, (fun h => by cases h), fun _ => cutN_some h1⟩

theorem fit_at (k n0 : Int) (s0 : ByteArray) (r0 : Int) (h0 : 0 ≤ k) (h1 : k < 256) (h2 : -9223372036854775808 ≤ n0) (h3 : n0 ≤ 9223372036854775807) (h4 : s0.size ≤ 4000000) (h5 : -9223372036854775808 ≤ r0) (h6 : r0 ≤ 9223372036854775807) : Fit k n0 s0 0 0 r0 :=
  ⟨h0, h1, h2, h3, by omega, by decide, Nat.le_refl _, h5, h6⟩

set_option maxRecDepth 100000 in
set_option maxHeartbeats 4000000 in
theorem value_leaf (g : Option (ByteArray → Nat → Got)) (b r : Nat) (s : ByteArray) (n : Nat) (d : Int) (w : World) (hn : n ≤ 512) (hd : 0 ≤ d) (hd1 : d ≤ 16) (hs : s.size ≤ 4000000) (h : Rdr w b r s n d) (h3 : n = 0 ∨ hdB s ≠ 3) : Calls Try.prog 116 #[.pointer (some ⟨r, 0, none⟩)] w (ValP b r (parseG g s n) d w) := by
  have fr1 := (Fr.refl No w).alloc (.cells #[.int .u8 0, .int .i64 0, .string ⟨#[]⟩, .slice none 0 0, .int .i64 0] 27)
  have hK := Blk.new' w 27 #[.int .u8 0, .int .i64 0, .string ⟨#[]⟩, .slice none 0 0, .int .i64 0] rfl
  have h1 := h.fr fr1 (fun h => h) (fun h => h)
  have hT := rtake_any b s 1 _ (by omega) h1.box
  obtain ⟨c0, c1, c2, c3, cf, q0⟩ := h1.cells
  have H := hide h1
  have HT := hide hT
  have HF := hide fr1
  have HK := hide hK
  have hrw := h.st.lt
  have hbw := h.box.lt
  clear h h1 hT fr1 hK
  go_enter Try.func116, Try.ntmps116
  go_wp2_with fail
  generalize World.alloc w _ = W0 at *
  refine HT.out.mono ?_
  rintro e w2 ⟨fr2, hq⟩
  have hK2 := HK.out.fr fr2 (fun h => by have h' : w.heap.size = b := h; omega)
  have hst2 := H.out.st.fr fr2 (fun h => H.out.ne h.symm)
  have HF2 := hide ((HF.out.no (S := fun i => i = b ∨ i = r)).trans' fr2 (fun i hi h => .inl h))
  rcases hq with ⟨h1, rfl, h2⟩ | ⟨h1, rfl, h2⟩
  · have hp : parseG g s n = none := by unfold parseG; rw [if_pos (.inl (by omega))]
    have HP := hide hp
    clear hp
    obtain ⟨k0, k1, k2, k3, k4, kf⟩ := hK2.cells5
    have kq := hK2.lt
    clear c0 c1 c2 c3 cf q0 hst2 fr2 H HT HK
    go_wp2
    refine bodyPost_ret (v := (.tuple #[.agg #[.int .u8 0, .int .i64 0, .string ⟨#[]⟩, .slice none 0 0, .int .i64 0], .bool false])) (by simp [results, Try.results116, go_sem, *]) rfl ?_
    refine ValP.fail HP.out ?_
    have f := HF2.out
    (repeat (first | with_reducible assumption | with_reducible exact Hid.out ‹_› | with_reducible refine Fr.setNew ?_ (Nat.le_refl _) _ | with_reducible refine Fr.set ?_ (fun _ => .inr rfl) _))
  · have hR2 : Rdr w2 b r (s.extract 1 s.size) n d := ⟨by simpa using h2, hst2⟩
    obtain ⟨x0, x1, x2, x3, xf, xq⟩ := hR2.cells
    obtain ⟨k0, k1, k2, k3, k4, kf⟩ := hK2.cells5
    have kq := hK2.lt
    obtain ⟨e1, e2⟩ := hd_extract s (by omega)
    have HE1 := hide e1
    have HR := hide hR2
    have HK2 := hide hK2
    clear c0 c1 c2 c3 cf q0 fr2 H HT HK h2 hst2 hK2 e1 hR2
    by_cases hn0 : n = 0
    · have hp : parseG g s n = none := by unfold parseG; rw [if_pos (.inr hn0)]
      have HP := hide hp
      clear hp
      subst hn0
      go_wp2
      refine bodyPost_ret (v := (.tuple #[.agg #[.int .u8 0, .int .i64 0, .string ⟨#[]⟩, .slice none 0 0, .int .i64 0], .bool false])) (by simp [results, Try.results116, go_sem, *]) rfl ?_
      refine ValP.fail HP.out ?_
      have f := HF2.out
      (repeat (first | with_reducible assumption | with_reducible exact Hid.out ‹_› | with_reducible refine Fr.setNew ?_ (Nat.le_refl _) _ | with_reducible refine Fr.set ?_ (fun _ => .inr rfl) _))
    · go_upto_region 7 with fail
      have hbyte : ((s.extract 0 1)[0]'(by omega)).toNat = hdB s := by
        have h0 : 0 < s.data.size := (show 1 ≤ s.size by omega)
        unfold hdB
        congr 1
        show (s.extract 0 1).data[0]'_ = _
        simp [ByteArray.data_extract, h0, Array.getElem?_eq_getElem h0]
      have hnn : ((n : Int) - 1) = ((n - 1 : Nat) : Int) := by omega
      have hR3 : Rdr ((w2.setCell ⟨r, 2, none⟩ (.int .i64 ((n : Int) - 1))).setCell ⟨w.heap.size, 0, none⟩ (.int .u8 (hdB s : Int))) b r (s.extract 1 s.size) ((n - 1 : Nat) : Int) d := by
        rw [hnn]
        exact Rdr.far ⟨HR.out.box.far (HR.out.ne) _, by simpa using HR.out.st.set_ 2 (.int .i64 ((n - 1 : Nat) : Int))⟩ (by omega) (by omega) _
      have hK3 : Blk ((w2.setCell ⟨r, 2, none⟩ (.int .i64 ((n : Int) - 1))).setCell ⟨w.heap.size, 0, none⟩ (.int .u8 (hdB s : Int))) w.heap.size 27 #[.int .u8 (hdB s : Int), .int .i64 0, .string ⟨#[]⟩, .slice none 0 0, .int .i64 0] := by
        have h := (HK2.out.far (p := ⟨r, 2, none⟩) (by show w.heap.size ≠ r; omega) (.int .i64 ((n : Int) - 1))).set_ 0 (.int .u8 (hdB s : Int))
        simpa using h
      have f3 : Fr (fun i => i = b ∨ i = r) w ((w2.setCell ⟨r, 2, none⟩ (.int .i64 ((n : Int) - 1))).setCell ⟨w.heap.size, 0, none⟩ (.int .u8 (hdB s : Int))) := by
        have f := HF2.out
        (repeat (first | with_reducible assumption | with_reducible exact Hid.out ‹_› | with_reducible refine Fr.setNew ?_ (Nat.le_refl _) _ | with_reducible refine Fr.set ?_ (fun _ => .inr rfl) _))
      rw [hbyte]
      generalize (w2.setCell ⟨r, 2, none⟩ (.int .i64 ((n : Int) - 1))).setCell ⟨w.heap.size, 0, none⟩ (.int .u8 (hdB s : Int)) = W3 at *
      generalize hk : hdB s = k at *
      have hk256 : k < 256 := by rw [← hk]; exact hdB_lt s
      obtain ⟨x0, x1, x2, x3, xf, xq⟩ := hR3.cells
      obtain ⟨k0, k1, k2, k3, k4, kf⟩ := hK3.cells5
      have kq := hK3.lt
      have hnot : ¬ (s.size < 1 ∨ n = 0) := by omega
      have hs1 : (s.extract 1 s.size).size ≤ 4000000 := by rw [ByteArray.size_extract]; omega
      generalize hS : s.extract 1 s.size = s1 at *
      have hpar : parseG g s n = parseK g k s1 (n - 1) := by rw [parseG_eq g s n hnot, hk, hS]
      have HPAR := hide hpar
      have HR3 := hide hR3
      have HK3 := hide hK3
      have HF3 := hide f3
      clear hbyte hR3 hK3 f3 hpar hS hnn hnot
      by_cases hk0 : k = 0
      · subst hk0
        have hp : parseG g s n = some (.mk 0 0 ⟨#[]⟩ [] 0, s1, n - 1) := by rw [HPAR.out, parseK, if_pos rfl]
        have HP := hide hp
        clear hp
        go_wp2
        refine bodyPost_ret (v := (.tuple #[.agg #[.int .u8 0, .int .i64 0, .string ⟨#[]⟩, .slice none 0 0, .int .i64 0], .bool true])) (by simp [results, Try.results116, go_sem, *]) rfl ?_
        refine ValP.leaf HP.out (fit_at _ _ _ _ (by decide) (by decide) (by decide) (by decide) (by decide) (by decide) (by decide)) ?_ ?_
        · have f := HF3.out
          (repeat (first | with_reducible assumption | with_reducible exact Hid.out ‹_› | with_reducible refine Fr.setNew ?_ (Nat.le_refl _) _ | with_reducible refine Fr.set ?_ (fun _ => .inr rfl) _))
        · (repeat (first | with_reducible exact Hid.out ‹_› | with_reducible assumption | with_reducible refine Rdr.far ?_ (by omega) (by omega) _))
      by_cases hk1 : k = 1
      · subst hk1
        go_wp2_with fail
        refine (number_any b r s1 ((n - 1 : Nat) : Int) d 8 W3 (by decide) HR3.out).mono ?_
        rintro e w4 hq
        obtain ⟨f4, ok, x, s', rfl, hR4, hx, -, hno, hyes⟩ := hq.cut
        have hK4 := HK3.out.fr f4 (fun h => by have h' : w.heap.size = b := h; omega)
        obtain ⟨k0, k1, k2, k3, k4, kf⟩ := hK4.cells5
        have kq := hK4.lt
        have HF4 := hide (HF3.out.trans' f4 (fun i hi h => .inl h))
        have HR4 := hide hR4
        have hwx := i64_u64 x (by simpa using hx)
        have HNO := hide hno
        have HYES := hide hyes
        clear x0 x1 x2 x3 xf xq hK4 f4 hR4 hq hno hyes
        cases ok with
        | false =>
          have hp : parseG g s n = none := by rw [HPAR.out, parseK, if_neg (by decide), if_pos rfl, (HNO.out rfl).2]; rfl
          have HP := hide hp
          clear hp
          go_wp2
          refine bodyPost_ret (v := (.tuple #[.agg #[.int .u8 1, .int .i64 ((x : Int) - 9223372036854775808), .string ⟨#[]⟩, .slice none 0 0, .int .i64 0], .bool false])) (by simp [results, Try.results116, go_sem, *]) rfl ?_
          refine ValP.fail HP.out ?_
          have f := HF4.out
          (repeat (first | with_reducible assumption | with_reducible exact Hid.out ‹_› | with_reducible refine Fr.setNew ?_ (Nat.le_refl _) _ | with_reducible refine Fr.set ?_ (fun _ => .inr rfl) _))
        | true =>
          have hp : parseG g s n = some (.mk 1 ((x : Int) - 9223372036854775808) ⟨#[]⟩ [] 0, s', n - 1) := by rw [HPAR.out, parseK, if_neg (by decide), if_pos rfl, HYES.out rfl]; rfl
          have HP := hide hp
          clear hp
          go_wp2
          refine bodyPost_ret (v := (.tuple #[.agg #[.int .u8 1, .int .i64 ((x : Int) - 9223372036854775808), .string ⟨#[]⟩, .slice none 0 0, .int .i64 0], .bool true])) (by simp [results, Try.results116, go_sem, *]) rfl ?_
          refine ValP.leaf HP.out (fit_at _ _ _ _ (by decide) (by decide) (by omega) (by simp at hx; omega) (by decide) (by decide) (by decide)) ?_ ?_
          · have f := HF4.out
            (repeat (first | with_reducible assumption | with_reducible exact Hid.out ‹_› | with_reducible refine Fr.setNew ?_ (Nat.le_refl _) _ | with_reducible refine Fr.set ?_ (fun _ => .inr rfl) _))
          · (repeat (first | with_reducible exact Hid.out ‹_› | with_reducible assumption | with_reducible refine Rdr.far ?_ (by omega) (by omega) _))
      by_cases hk4 : k = 4
      · subst hk4
        go_wp2_with fail
        refine (number_any b r s1 ((n - 1 : Nat) : Int) d 4 W3 (by decide) HR3.out).mono ?_
        rintro e w4 hq
        obtain ⟨f4, ok, x, s', rfl, hR4, hx, -, hno, hyes⟩ := hq.cut
        have hK4 := HK3.out.fr f4 (fun h => by have h' : w.heap.size = b := h; omega)
        obtain ⟨k0, k1, k2, k3, k4, kf⟩ := hK4.cells5
        have kq := hK4.lt
        have HF4 := hide (HF3.out.trans' f4 (fun i hi h => .inl h))
        have HR4 := hide hR4
        have hx' : x < 4294967296 := by simpa using hx
        have hwx := i64_nat x (by omega)
        have HNO := hide hno
        have HYES := hide hyes
        clear x0 x1 x2 x3 xf xq hK4 f4 hR4 hq hno hyes hx
        cases ok with
        | false =>
          have hp : parseG g s n = none := by rw [HPAR.out, parseK, if_neg (by decide), if_neg (by decide), if_pos rfl, (HNO.out rfl).2]; rfl
          have HP := hide hp
          clear hp
          go_wp2
          refine bodyPost_ret (v := (.tuple #[.agg #[.int .u8 4, .int .i64 0, .string ⟨#[]⟩, .slice none 0 0, .int .i64 (x : Int)], .bool false])) (by simp [results, Try.results116, go_sem, *]) rfl ?_
          refine ValP.fail HP.out ?_
          have f := HF4.out
          (repeat (first | with_reducible assumption | with_reducible exact Hid.out ‹_› | with_reducible refine Fr.setNew ?_ (Nat.le_refl _) _ | with_reducible refine Fr.set ?_ (fun _ => .inr rfl) _))
        | true =>
          by_cases hx0 : 0 < x
          · have hp : parseG g s n = some (.mk 4 0 ⟨#[]⟩ [] x, s', n - 1) := by rw [HPAR.out, parseK, if_neg (by decide), if_neg (by decide), if_pos rfl, HYES.out rfl]; simp [hx0]
            have HP := hide hp
            clear hp
            go_wp2
            refine bodyPost_ret (v := (.tuple #[.agg #[.int .u8 4, .int .i64 0, .string ⟨#[]⟩, .slice none 0 0, .int .i64 (x : Int)], .bool true])) (by simp [results, Try.results116, go_sem, *]) rfl ?_
            refine ValP.leaf HP.out (fit_at _ _ _ _ (by decide) (by decide) (by decide) (by decide) (by decide) (by omega) (by omega)) ?_ ?_
            · have f := HF4.out
              (repeat (first | with_reducible assumption | with_reducible exact Hid.out ‹_› | with_reducible refine Fr.setNew ?_ (Nat.le_refl _) _ | with_reducible refine Fr.set ?_ (fun _ => .inr rfl) _))
            · (repeat (first | with_reducible exact Hid.out ‹_› | with_reducible assumption | with_reducible refine Rdr.far ?_ (by omega) (by omega) _))
          · have hp : parseG g s n = none := by rw [HPAR.out, parseK, if_neg (by decide), if_neg (by decide), if_pos rfl, HYES.out rfl]; simp [hx0]
            have HP := hide hp
            clear hp
            go_wp2
            refine bodyPost_ret (v := (.tuple #[.agg #[.int .u8 4, .int .i64 0, .string ⟨#[]⟩, .slice none 0 0, .int .i64 (x : Int)], .bool false])) (by simp [results, Try.results116, go_sem, *]) rfl ?_
            refine ValP.fail HP.out ?_
            have f := HF4.out
            (repeat (first | with_reducible assumption | with_reducible exact Hid.out ‹_› | with_reducible refine Fr.setNew ?_ (Nat.le_refl _) _ | with_reducible refine Fr.set ?_ (fun _ => .inr rfl) _))
      by_cases hk2 : k = 2
      · subst hk2
        go_wp2_with fail
        refine (number_any b r s1 ((n - 1 : Nat) : Int) d 2 W3 (by decide) HR3.out).mono ?_
        rintro e w4 hq
        obtain ⟨f4, ok, x, s', rfl, hR4, hx, hss, hno, hyes⟩ := hq.cut
        have hK4 := HK3.out.fr f4 (fun h => by have h' : w.heap.size = b := h; omega)
        obtain ⟨k0, k1, k2, k3, k4, kf⟩ := hK4.cells5
        have kq := hK4.lt
        have hx' : x < 65536 := by simpa using hx
        have hwx := i64_nat x (by omega)
        have HF4 := hide (HF3.out.trans' f4 (fun i hi h => .inl h))
        have HK4 := hide hK4
        have HNO := hide hno
        have HYES := hide hyes
        clear x0 x1 x2 x3 xf xq hK4 f4 hq hno hyes hx
        cases ok with
        | false =>
          have hp : parseG g s n = none := by rw [HPAR.out, parseK, if_neg (by decide), if_neg (by decide), if_neg (by decide), if_pos rfl, (HNO.out rfl).2]; rfl
          have HP := hide hp
          clear hp
          go_wp2
          refine bodyPost_ret (v := (.tuple #[.agg #[.int .u8 2, .int .i64 0, .string ⟨#[]⟩, .slice none 0 0, .int .i64 0], .bool false])) (by simp [results, Try.results116, go_sem, *]) rfl ?_
          refine ValP.fail HP.out ?_
          have f := HF4.out
          (repeat (first | with_reducible assumption | with_reducible exact Hid.out ‹_› | with_reducible refine Fr.setNew ?_ (Nat.le_refl _) _ | with_reducible refine Fr.set ?_ (fun _ => .inr rfl) _))
        | true =>
          have HY := hide (HYES.out rfl)
          clear HYES HNO
          by_cases hx0 : 256 < x
          · have hp : parseG g s n = none := by rw [HPAR.out, parseK, if_neg (by decide), if_neg (by decide), if_neg (by decide), if_pos rfl, HY.out]; simp [hx0]
            have HP := hide hp
            clear hp
            go_wp2
            refine bodyPost_ret (v := (.tuple #[.agg #[.int .u8 2, .int .i64 0, .string ⟨#[]⟩, .slice none 0 0, .int .i64 0], .bool false])) (by simp [results, Try.results116, go_sem, *]) rfl ?_
            refine ValP.fail HP.out ?_
            have f := HF4.out
            (repeat (first | with_reducible assumption | with_reducible exact Hid.out ‹_› | with_reducible refine Fr.setNew ?_ (Nat.le_refl _) _ | with_reducible refine Fr.set ?_ (fun _ => .inr rfl) _))
          · obtain ⟨x0, x1, x2, x3, xf, xq⟩ := hR4.cells
            have hT := rtake_any b s' x w4 (by omega) hR4.box
            have HT := hide hT
            have HR4 := hide hR4
            clear hT hR4
            go_wp2_with fail
            refine HT.out.mono ?_
            rintro e w5 ⟨f5, hq⟩
            have hK5 := HK4.out.fr f5 (fun h => by have h' : w.heap.size = b := h; omega)
            obtain ⟨k0, k1, k2, k3, k4, kf⟩ := hK5.cells5
            have kq := hK5.lt
            have hst5 := HR4.out.st.fr f5 (fun h => HR4.out.ne h.symm)
            have HF5 := hide (HF4.out.trans' f5 (fun i hi h => .inl h))
            clear x0 x1 x2 x3 xf xq hK5 f5
            rcases hq with ⟨h1, rfl, h2⟩ | ⟨h1, rfl, h2⟩
            · have hp : parseG g s n = none := by rw [HPAR.out, parseK, if_neg (by decide), if_neg (by decide), if_neg (by decide), if_pos rfl, HY.out]; simp; omega
              have HP := hide hp
              clear hp h2 hst5
              go_wp2
              refine bodyPost_ret (v := (.tuple #[.agg #[.int .u8 2, .int .i64 0, .string ⟨#[]⟩, .slice none 0 0, .int .i64 0], .bool false])) (by simp [results, Try.results116, go_sem, *]) rfl ?_
              refine ValP.fail HP.out ?_
              have f := HF5.out
              (repeat (first | with_reducible assumption | with_reducible exact Hid.out ‹_› | with_reducible refine Fr.setNew ?_ (Nat.le_refl _) _ | with_reducible refine Fr.set ?_ (fun _ => .inr rfl) _))
            · have hR5 : Rdr w5 b r (s'.extract x s'.size) ((n - 1 : Nat) : Int) d := ⟨by simpa using h2, hst5⟩
              have hp : parseG g s n = some (.mk 2 0 (s'.extract 0 x) [] 0, s'.extract x s'.size, n - 1) := by
                rw [HPAR.out, parseK, if_neg (by decide), if_neg (by decide), if_neg (by decide), if_pos rfl, HY.out]
                show (if 256 < x ∨ s'.size < x then none else _) = _
                rw [if_neg (by omega)]
              have hsz : (s'.extract 0 x).size ≤ 4000000 := by rw [ByteArray.size_extract]; omega
              have HP := hide hp
              have HR5 := hide hR5
              clear hp h2 hst5 hR5
              go_wp2
              refine bodyPost_ret (v := (.tuple #[.agg #[.int .u8 2, .int .i64 0, .string (s'.extract 0 x), .slice none 0 0, .int .i64 0], .bool true])) (by simp [results, Try.results116, go_sem, *]) rfl ?_
              refine ValP.leaf HP.out (fit_at _ _ _ _ (by decide) (by decide) (by decide) (by decide) hsz (by decide) (by decide)) ?_ ?_
              · have f := HF5.out
                (repeat (first | with_reducible assumption | with_reducible exact Hid.out ‹_› | with_reducible refine Fr.setNew ?_ (Nat.le_refl _) _ | with_reducible refine Fr.set ?_ (fun _ => .inr rfl) _))
              · (repeat (first | with_reducible exact Hid.out ‹_› | with_reducible assumption | with_reducible refine Rdr.far ?_ (by omega) (by omega) _))
      have hk3' : k ≠ 3 := h3.resolve_left hn0
      have hp : parseG g s n = none := by rw [HPAR.out, parseK, if_neg hk0, if_neg hk1, if_neg hk4, if_neg hk2, if_neg hk3']
      have HP := hide hp
      clear hp
      go_wp2
      refine bodyPost_ret (v := (.tuple #[.agg #[.int .u8 (k : Int), .int .i64 0, .string ⟨#[]⟩, .slice none 0 0, .int .i64 0], .bool false])) (by simp [results, Try.results116, go_sem, *]) rfl ?_
      refine ValP.fail HP.out ?_
      have f := HF3.out
      (repeat (first | with_reducible assumption | with_reducible exact Hid.out ‹_› | with_reducible refine Fr.setNew ?_ (Nat.le_refl _) _ | with_reducible refine Fr.set ?_ (fun _ => .inr rfl) _))

end Go.Proofs.Ytihjmipmjogpoaa

/- Chapter 2: where the reading of a list's parts stands. -/
namespace Go.Proofs.Ytihjmipmjogpoaa
open Go.RowKit

/-- Where the reading of a list's parts stands. -/
structure LdInv (W5 : World) (c b r : Nat) (d1 : Int) (m j : Nat) (g : ByteArray → Nat → Got) (s0 : ByteArray) (n0 : Nat) (A : Option Addr) (cap : Nat) (l : List T) (s2 : ByteArray) (n2 : Nat) (wr : World) : Prop where
  fr : Fr (fun i => (i = b ∨ i = r) ∨ i = c) W5 wr
  len : l.length = j
  box : Blk wr c 27 #[.int .u8 3, .int .i64 0, .string ⟨#[]⟩, .slice A l.length cap, .int .i64 0]
  row : wr.ownsRow W5.heap.size 27 5 (.slice A l.length cap) l.length (rowCells l)
  ins : ∀ x ∈ l, ∃ lo hi, W5.heap.size ≤ lo ∧ hi ≤ wr.heap.size ∧ x.In wr lo hi ∧ ∀ q, (Value.slice A l.length cap).ownBlock = some q → q < lo ∨ hi ≤ q
  rd : Rdr wr b r s2 n2 d1
  n : n2 ≤ 512
  s : s2.size ≤ 4000000
  says : parseL g m s0 n0 = (parseL g (m - j) s2 n2).map fun y => (l.map T.v ++ y.1, y.2)

theorem LdInv.push {W5 wr w6 w7 : World} {c b r : Nat} {d1 : Int} {m j : Nat} {g : ByteArray → Nat → Got} {s0 : ByteArray} {n0 : Nat} {A : Option Addr} {cap : Nat} {l : List T} {s2 : ByteArray} {n2 : Nat} (h : LdInv W5 c b r d1 m j g s0 n0 A cap l s2 n2 wr) (hc : c < W5.heap.size) (hb : b < W5.heap.size) (hr : r < W5.heap.size) (hcb : c ≠ b) (hcr : c ≠ r)
    (hj : j < m) {t : T} {s3 : ByteArray} {n3 : Nat} (hg : g s2 n2 = some (t.v, s3, n3)) (hle : s3.size ≤ s2.size ∧ n3 ≤ n2) (f6 : Fr (fun i => i = b ∨ i = r) wr w6) (ht : t.In w6 wr.heap.size w6.heap.size) (hR : Rdr w6 b r s3 n3 d1) {o1 o2 : Obj} {g' cap' : Nat}
    (hgrow : ((w6.alloc o1).alloc o2).grownBy w7 (Value.slice A l.length cap).ownBlock) (hown : w7.ownsRow W5.heap.size 27 5 (.slice (some ⟨g', 0, none⟩) (l.length + 1) cap') (l.length + 1) (rowCells l ++ t.cells)) (hat : (Value.slice A l.length cap).ownBlock = some g' ∨ g' = ((w6.alloc o1).alloc o2).heap.size) :
    LdInv W5 c b r d1 m (j + 1) g s0 n0 (some ⟨g', 0, none⟩) cap' (l ++ [t]) s3 n3 (w7.setCell ⟨c, 3, none⟩ (.slice (some ⟨g', 0, none⟩) (l.length + 1) cap')) := by
  have hol := owns_lt h.row
  have hs5 := h.fr.size
  have hs6 := f6.size
  have f7 : Fr (fun i => (Value.slice A l.length cap).ownBlock = some i) w6 w7 := (((Fr.refl _ w6).alloc o1).alloc o2).grown hgrow (fun k hk _ => hk)
  have hs7 := f7.size
  have f67 : Fr (fun i => (i = b ∨ i = r) ∨ i = c) W5 w7 := (h.fr.trans' f6 (fun i _ hi => .inl hi)).trans' f7 (fun i hi hk => by have := hol i hk; omega)
  have hnb : ∀ i, i < W5.heap.size → ¬ (Value.slice A l.length cap).ownBlock = some i := fun i hi hk => by have := hol i hk; omega
  have fc : Fr (fun i => i = c) w7 (w7.setCell ⟨c, 3, none⟩ (.slice (some ⟨g', 0, none⟩) (l.length + 1) cap')) := (Fr.refl (fun i => i = c) w7).set (p := ⟨c, 3, none⟩) (fun _ => rfl) _
  have hgc : g' ≠ c := by
    rcases hat with h' | h'
    · have := hol _ h'; omega
    · simp at h'; omega
  have e1 : (l ++ [t]).length = l.length + 1 := by simp
  refine ⟨f67.trans' fc (fun i _ hi => .inr hi), by rw [e1, h.len], ?_, ?_, ?_, ?_, by have := h.n; omega, by have := h.s; omega, ?_⟩
  · have hx := ((h.box.fr f6 (fun hi => hi.elim hcb hcr)).fr f7 (hnb c hc)).set_ 3 (.slice (some ⟨g', 0, none⟩) (l.length + 1) cap')
    rw [e1]
    simpa using hx
  · rw [rowCells_snoc, e1]
    exact owns_fr hown fc (fun q hq hc' => by
      simp [Value.ownBlock] at hq
      have h' : q = c := hc'
      omega)
  · intro x hx
    rcases List.mem_append.1 hx with hx | hx
    · obtain ⟨lo, hi, h1, h2, h3, h4⟩ := h.ins x hx
      refine ⟨lo, hi, h1, by simp; omega, ?_, fun q hq => ?_⟩
      · exact ((h3.fr f6 h2 (fun i h5 h6 h7 => by have h7' : i = b ∨ i = r := h7; omega)).fr f7 (by omega) (fun i h5 h6 h7 => by have := h4 i h7; omega)).fr fc (by omega) (fun i h5 h6 h7 => by have h7' : i = c := h7; omega)
      · simp [Value.ownBlock] at hq
        subst hq
        rcases hat with h' | h'
        · exact h4 _ h'
        · simp at h'; omega
    · obtain rfl : x = t := by simpa using hx
      refine ⟨wr.heap.size, w6.heap.size, hs5, by simp; omega, ?_, fun q hq => ?_⟩
      · exact (ht.fr f7 (Nat.le_refl _) (fun i h5 h6 h7 => by have := hol i h7; omega)).fr fc (by omega) (fun i h5 h6 h7 => by have h7' : i = c := h7; omega)
      · simp [Value.ownBlock] at hq
        subst hq
        rcases hat with h' | h'
        · have := hol _ h'; omega
        · simp at h'; omega
  · exact (hR.fr f7 (hnb b hb) (hnb r hr)).fr fc (fun h' => hcb (Eq.symm h')) (fun h' => hcr (Eq.symm h'))
  · rw [h.says, show m - j = (m - (j + 1)) + 1 by omega, parseL_step g _ s2 n2 _ hg, Option.map_map]
    congr 1
    funext y
    simp

end Go.Proofs.Ytihjmipmjogpoaa

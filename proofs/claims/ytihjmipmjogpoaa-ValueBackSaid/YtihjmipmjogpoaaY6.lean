/- Chapter 2: the reader's lists. -/
import Derived.Test.YtihjmipmjogpoaaY5
namespace Go.Proofs.Ytihjmipmjogpoaa
open Go.RowKit

set_option maxRecDepth 100000 in
set_option maxHeartbeats 4000000 in
theorem value_list (g : Option (ByteArray → Nat → Got)) (b r : Nat) (s : ByteArray) (n : Nat) (d : Nat) (w : World) (hn : n ≤ 512) (hd1 : d ≤ 16) (hs : s.size ≤ 4000000) (hs1 : 1 ≤ s.size) (hn0 : n ≠ 0) (h : Rdr w b r s n d) (hk : hdB s = 3)
    (hg : (g = none ∧ d = 0) ∨ ∃ (g' : ByteArray → Nat → Got) (d1 : Nat), g = some g' ∧ d = d1 + 1 ∧ (∀ (s : ByteArray) (n b r : Nat) (w : World), n ≤ 512 → s.size ≤ 4000000 → Rdr w b r s n d1 → Calls Try.prog 116 #[.pointer (some ⟨r, 0, none⟩)] w (ValP b r (g' s n) d1 w)) ∧ (∀ s n u s' n', g' s n = some (u, s', n') → s'.size ≤ s.size ∧ n' ≤ n)) :
    Calls Try.prog 116 #[.pointer (some ⟨r, 0, none⟩)] w (ValP b r (parseG g s n) d w) := by
  have fr1 := (Fr.refl No w).alloc (.cells #[.int .u8 0, .int .i64 0, .string ⟨#[]⟩, .slice none 0 0, .int .i64 0] 27)
  have hK := Blk.new' w 27 #[.int .u8 0, .int .i64 0, .string ⟨#[]⟩, .slice none 0 0, .int .i64 0] rfl
  have h1 := h.fr fr1 (fun h => h) (fun h => h)
  have hT := rtake_any b s 1 _ (by omega) h1.box
  obtain ⟨c0, c1, c2, c3, cf, q0⟩ := h1.cells
  have H := hide h1
  have HT := hide hT
  have HF := hide fr1
  have HK := hide hK
  have hrw := h.st.lt
  have hbw := h.box.lt
  clear h h1 hT fr1 hK
  go_enter Try.func116, Try.ntmps116
  go_wp2_with fail
  generalize World.alloc w _ = W0 at *
  refine HT.out.mono ?_
  rintro e w2 ⟨fr2, hq⟩
  have hK2 := HK.out.fr fr2 (fun h => by have h' : w.heap.size = b := h; omega)
  have hst2 := H.out.st.fr fr2 (fun h => H.out.ne h.symm)
  have HF2 := hide ((HF.out.no (S := fun i => i = b ∨ i = r)).trans' fr2 (fun i hi h => .inl h))
  obtain ⟨h1, rfl, h2⟩ : ((1 : Int) ≤ s.size ∧ e = .returned (.tuple #[.string (s.extract 0 (1 : Int).toNat), .bool true]) ∧ Blk w2 b 9 #[.string (s.extract (1 : Int).toNat s.size)]) := by
    rcases hq with ⟨h1, _⟩ | h
    · omega
    · exact h
  have hR2 : Rdr w2 b r (s.extract 1 s.size) n d := ⟨by simpa using h2, hst2⟩
  obtain ⟨x0, x1, x2, x3, xf, xq⟩ := hR2.cells
  obtain ⟨k0, k1, k2, k3, k4, kf⟩ := hK2.cells5
  have kq := hK2.lt
  obtain ⟨e1, e2⟩ := hd_extract s (by omega)
  have HE1 := hide e1
  have HR := hide hR2
  have HK2 := hide hK2
  clear c0 c1 c2 c3 cf q0 fr2 H HT HK h2 hst2 hK2 e1 hR2
  go_upto_region 7 with fail
  have hbyte : ((s.extract 0 1)[0]'(by omega)).toNat = hdB s := by
    have h0 : 0 < s.data.size := (show 1 ≤ s.size by omega)
    unfold hdB
    congr 1
    show (s.extract 0 1).data[0]'_ = _
    simp [ByteArray.data_extract, h0, Array.getElem?_eq_getElem h0]
  have hnn : ((n : Int) - 1) = ((n - 1 : Nat) : Int) := by omega
  have hR3 : Rdr ((w2.setCell ⟨r, 2, none⟩ (.int .i64 ((n : Int) - 1))).setCell ⟨w.heap.size, 0, none⟩ (.int .u8 (hdB s : Int))) b r (s.extract 1 s.size) ((n - 1 : Nat) : Int) d := by
    rw [hnn]
    exact Rdr.far ⟨HR.out.box.far (HR.out.ne) _, by simpa using HR.out.st.set_ 2 (.int .i64 ((n - 1 : Nat) : Int))⟩ (by omega) (by omega) _
  have hK3 : Blk ((w2.setCell ⟨r, 2, none⟩ (.int .i64 ((n : Int) - 1))).setCell ⟨w.heap.size, 0, none⟩ (.int .u8 (hdB s : Int))) w.heap.size 27 #[.int .u8 (hdB s : Int), .int .i64 0, .string ⟨#[]⟩, .slice none 0 0, .int .i64 0] := by
    have h := (HK2.out.far (p := ⟨r, 2, none⟩) (by show w.heap.size ≠ r; omega) (.int .i64 ((n : Int) - 1))).set_ 0 (.int .u8 (hdB s : Int))
    simpa using h
  have f3 : Fr (fun i => i = b ∨ i = r) w ((w2.setCell ⟨r, 2, none⟩ (.int .i64 ((n : Int) - 1))).setCell ⟨w.heap.size, 0, none⟩ (.int .u8 (hdB s : Int))) := by
    have f := HF2.out
    (repeat (first | with_reducible assumption | with_reducible exact Hid.out ‹_› | with_reducible refine Fr.setNew ?_ (Nat.le_refl _) _ | with_reducible refine Fr.set ?_ (fun _ => .inr rfl) _))
  rw [hk] at hR3 hK3 f3
  rw [hbyte, hk]
  generalize (w2.setCell ⟨r, 2, none⟩ (.int .i64 ((n : Int) - 1))).setCell ⟨w.heap.size, 0, none⟩ (.int .u8 ((3 : Nat) : Int)) = W3 at *
  
  obtain ⟨x0, x1, x2, x3, xf, xq⟩ := hR3.cells
  obtain ⟨k0, k1, k2, k3, k4, kf⟩ := hK3.cells5
  have kq := hK3.lt
  have hnot : ¬ (s.size < 1 ∨ n = 0) := by omega
  have hs1 : (s.extract 1 s.size).size ≤ 4000000 := by rw [ByteArray.size_extract]; omega
  generalize hS : s.extract 1 s.size = s1 at *
  have hpar : parseG g s n = parseK g 3 s1 (n - 1) := by rw [parseG_eq g s n hnot, hk, hS]
  have HPAR := hide hpar
  have HR3 := hide hR3
  have HK3 := hide hK3
  have HF3 := hide f3
  clear hbyte hR3 hK3 f3 hpar hS hnn hnot

  go_wp2_with fail
  refine (number_any b r s1 ((n - 1 : Nat) : Int) d 2 W3 (by decide) HR3.out).mono ?_
  rintro e w4 hq
  obtain ⟨f4, ok, x, s', rfl, hR4, hx, hss, hno, hyes⟩ := hq.cut
  have hK4 := HK3.out.fr f4 (fun h => by have h' : w.heap.size = b := h; omega)
  obtain ⟨k0, k1, k2, k3, k4, kf⟩ := hK4.cells5
  have kq := hK4.lt
  have hx' : x < 65536 := by simpa using hx
  have hwx := i64_nat x (by omega)
  have HF4 := hide (HF3.out.trans' f4 (fun i hi h => .inl h))
  have HK4 := hide hK4
  have HNO := hide hno
  have HYES := hide hyes
  clear x0 x1 x2 x3 xf xq hK4 f4 hq hno hyes hx
  cases ok with
  | false =>
    have hp : parseG g s n = none := by rw [HPAR.out, parseK, if_neg (by decide), if_neg (by decide), if_neg (by decide), if_neg (by decide), if_pos rfl, (HNO.out rfl).2]; rfl
    have HP := hide hp
    clear hp
    go_wp2
    refine bodyPost_ret (v := (.tuple #[.agg #[.int .u8 3, .int .i64 0, .string ⟨#[]⟩, .slice none 0 0, .int .i64 0], .bool false])) (by simp [results, Try.results116, go_sem, *]) rfl ?_
    refine ValP.fail HP.out ?_
    have f := HF4.out
    (repeat (first | with_reducible assumption | with_reducible exact Hid.out ‹_› | with_reducible refine Fr.setNew ?_ (Nat.le_refl _) _ | with_reducible refine Fr.set ?_ (fun _ => .inr rfl) _))
  | true =>
    have HY := hide (HYES.out rfl)
    clear HYES HNO
    rcases hg with ⟨rfl, rfl⟩ | ⟨g', d1, rfl, rfl, hcall, hless⟩
    · have hp : parseG none s n = none := by rw [HPAR.out, parseK, if_neg (by decide), if_neg (by decide), if_neg (by decide), if_neg (by decide), if_pos rfl, HY.out]; rfl
      obtain ⟨x0, x1, x2, x3, xf, xq⟩ := hR4.cells
      have HP := hide hp
      clear hp
      go_wp2
      refine bodyPost_ret (v := (.tuple #[.agg #[.int .u8 3, .int .i64 0, .string ⟨#[]⟩, .slice none 0 0, .int .i64 0], .bool false])) (by simp [results, Try.results116, go_sem, *]) rfl ?_
      refine ValP.fail HP.out ?_
      have f := HF4.out
      (repeat (first | with_reducible assumption | with_reducible exact Hid.out ‹_› | with_reducible refine Fr.setNew ?_ (Nat.le_refl _) _ | with_reducible refine Fr.set ?_ (fun _ => .inr rfl) _))
    · have hd0 : ¬ (((d1 + 1 : Nat) : Int) = 0) := by omega
      obtain ⟨x0, x1, x2, x3, xf, xq⟩ := hR4.cells
      have HCALL := hide hcall
      have HLESS := hide hless
      clear hcall hless
      generalize hdd : ((d1 + 1 : Nat) : Int) = dd at *
      by_cases hm : n - 1 < x
      · have hp : parseG (some g') s n = none := by
          rw [HPAR.out, parseK, if_neg (by decide), if_neg (by decide), if_neg (by decide), if_neg (by decide), if_pos rfl, HY.out]
          show (if n - 1 < x then none else _) = _
          rw [if_pos hm]
        have hm' : ((n - 1 : Nat) : Int) < (x : Int) := by omega
        have HP := hide hp
        clear hp
        go_wp2
        refine bodyPost_ret (v := (.tuple #[.agg #[.int .u8 3, .int .i64 0, .string ⟨#[]⟩, .slice none 0 0, .int .i64 0], .bool false])) (by simp [results, Try.results116, go_sem, *]) rfl ?_
        refine ValP.fail HP.out ?_
        have f := HF4.out
        (repeat (first | with_reducible assumption | with_reducible exact Hid.out ‹_› | with_reducible refine Fr.setNew ?_ (Nat.le_refl _) _ | with_reducible refine Fr.set ?_ (fun _ => .inr rfl) _))
      · have hm' : ¬ ((n - 1 : Nat) : Int) < (x : Int) := by omega
        have HR4 := hide hR4
        have hcW := HK4.out.lt
        have hbW := HR4.out.box.lt
        have hrW := HR4.out.st.lt
        clear hR4
        go_wp2_with fail
        have hdd1 : dd - 1 = (d1 : Int) := by omega
        have hdb : (dd == (0 : Int)) = false := by simpa using hd0
        rw [hdd1, hdb]
        have hK5 := HK4.out.far (p := ⟨r, 3, none⟩) (by show w.heap.size ≠ r; omega) (.int .i64 (d1 : Int))
        have hR5 : Rdr (w4.setCell ⟨r, 3, none⟩ (.int .i64 (d1 : Int))) b r s' ((n - 1 : Nat) : Int) d1 := ⟨HR4.out.box.far (HR4.out.ne) _, by simpa using HR4.out.st.set_ 3 (.int .i64 (d1 : Int))⟩
        have f5 : Fr (fun i => i = b ∨ i = r) w (w4.setCell ⟨r, 3, none⟩ (.int .i64 (d1 : Int))) := by
          have f := HF4.out
          (repeat (first | with_reducible assumption | with_reducible exact Hid.out ‹_› | with_reducible refine Fr.setNew ?_ (Nat.le_refl _) _ | with_reducible refine Fr.set ?_ (fun _ => .inr rfl) _))
        have hsz5 : (w4.setCell ⟨r, 3, none⟩ (.int .i64 (d1 : Int))).heap.size = w4.heap.size := by simp
        generalize w4.setCell ⟨r, 3, none⟩ (.int .i64 (d1 : Int)) = W5 at *
        have hst : LdInv W5 w.heap.size b r d1 x 0 g' s' (n - 1) none 0 [] s' (n - 1) W5 := ⟨Fr.refl _ _, rfl, by simpa using hK5, World.ownsRow_nil _ _ _ _, by simp, hR5, by omega, by omega, by simp⟩
        have HST := hide hst
        have HF5 := hide f5
        clear x0 x1 x2 x3 xf xq k0 k1 k2 k3 k4 kf kq HR4 HK4 HF4 HK3 HF3 hK5 hR5 f5 hst HR3 HR HK2 HF2
        go_loopw [145] (fun i wr => ∃ (j : Nat) (A : Option Addr) (cap : Nat) (l : List T) (s2 : ByteArray) (n2 : Nat), j ≤ x ∧ i = .int .u64 (j : Int) ∧ LdInv W5 w.heap.size b r d1 x j g' s' (n - 1) A cap l s2 n2 wr) (fun i _ => x - (intOf i).toNat)
        case atStart => exact ⟨0, none, 0, [], s', n - 1, Nat.zero_le _, rfl, HST.out⟩
        case round =>
          obtain ⟨j, A, cap, l, s2, n2, hj, rfl, hI⟩ := hrel
          by_cases hlt : j < x
          · have hlt' : (j : Int) < (x : Int) := by omega
            have hcl := HCALL.out s2 n2 b r wr hI.n hI.s hI.rd
            have HCL := hide hcl
            have HI := hide hI
            clear hI hcl
            have hw1 : IntKind.u64.wrap ((j : Int) + 1) = (j : Int) + 1 := by rw [IntKind.wrap_u64]; omega
            go_wp2_with fail
            refine HCL.out.mono ?_
            rintro e w6 hV
            have hcW5 : w.heap.size < W5.heap.size := by omega
            have hbW5 : b < W5.heap.size := by omega
            have hrW5 : r < W5.heap.size := by omega
            have hK6 := HI.out.box.fr hV.fr (fun h => by have h' : w.heap.size = b ∨ w.heap.size = r := h; omega)
            have hs6 := hV.fr.size
            have hs65 := HI.out.fr.size
            have hlen : l.length ≤ 600 := by have := HI.out.len; omega
            have hF6 : Fr (fun i => i = b ∨ i = r) w w6 := (HF5.out.trans' HI.out.fr (fun i hi h => by
              rcases h with h | h
              · exact h
              · exact absurd h (by omega))).trans' hV.fr (fun _ _ h => h)
            have HF6 := hide hF6
            clear hF6
            cases hq : g' s2 n2 with
            | none =>
              obtain ⟨k1, m1, t1, A1, len1, cap1, q1, rfl⟩ := hV.no hq
              have hp : parseG (some g') s n = none := by
                rw [HPAR.out, parseK, if_neg (by decide), if_neg (by decide), if_neg (by decide), if_neg (by decide), if_pos rfl, HY.out]
                show (if n - 1 < x then none else _) = _
                rw [if_neg hm, HI.out.says, show x - j = (x - (j + 1)) + 1 by omega, parseL_none g' _ s2 n2 hq]
                rfl
              obtain ⟨k0, k1', k2, k3, k4, kf⟩ := hK6.cells5
              have kq := hK6.lt
              have HP := hide hp
              clear hp hV hK6 hq
              go_wp2
              refine bodyPost_ret (v := (.tuple #[.agg #[.int .u8 3, .int .i64 0, .string ⟨#[]⟩, .slice A l.length cap, .int .i64 0], .bool false])) (by simp [results, Try.results116, go_sem, *]) rfl ?_
              refine ValP.fail HP.out ?_
              have f := HF6.out
              repeat (first | with_reducible exact f | with_reducible refine Fr.setNew ?_ (Nat.le_refl _) _ | with_reducible refine Fr.alloc ?_ _)
            | some tv =>
              obtain ⟨u, s3, n3⟩ := tv
              obtain ⟨⟨k1, m1, t1, A1, cap1, l1, q1⟩, rfl, rfl, ht, hR6⟩ := hV.yes u s3 n3 hq
              rw [T.val_mk]
              obtain ⟨i0, hi0, hz0, hz1, hz2⟩ := info_parts value_row
              have hown6 := owns_fr HI.out.row hV.fr (fun q hq' h => by have := owns_lt HI.out.row q hq'; have h' : q = b ∨ q = r := h; omega)
              have hol := owns_lt hown6
              have hownA := (hown6.alloc (.cells #[.int .u8 k1, .int .i64 m1, .string t1, .slice A1 l1.length cap1, .int .i64 q1] 27)).alloc (.cells #[.int .u8 k1, .int .i64 m1, .string t1, .slice A1 l1.length cap1, .int .i64 q1] 27)
              have hBW : ∀ w7, ((w6.alloc (.cells #[.int .u8 k1, .int .i64 m1, .string t1, .slice A1 l1.length cap1, .int .i64 q1] 27)).alloc (.cells #[.int .u8 k1, .int .i64 m1, .string t1, .slice A1 l1.length cap1, .int .i64 q1] 27)).grownBy w7 (Value.slice A l.length cap).ownBlock → Blk w7 w.heap.size 27 #[.int .u8 3, .int .i64 0, .string ⟨#[]⟩, .slice A l.length cap, .int .i64 0] := fun w7 hgr =>
                (hgr.block w.heap.size (by simp; omega) (fun h => by have := hol w.heap.size h.symm; omega)).trans ((hK6.alloc _).alloc _)
              obtain ⟨k0, k1', k2, k3, k4, kf⟩ := hK6.cells5
              have kq := hK6.lt
              have HBW := hide hBW
              have HQ := hide hq
              have HLE := hide (HLESS.out _ _ _ _ _ hq)
              have HT6 := hide ht
              have HR6 := hide hR6
              have HFV := hide hV.fr
              have hb5 : W5.heap.size ≤ w6.heap.size := by omega
              clear hV hK6 hq hBW ht hR6 hown6 hol
              go_wp2_with (at_builtin; refine wpList_append_lies _ (by rfl) _ _ _ (by rfl) W5.heap.size 27 i0 _ 5 64 Try.underlying24 hi0 hz0 hz1 hz2 (by rfl) (by omega) _ l.length (rowCells l) (by rfl) hownA ⟨w6.heap.size + 1, 0, none⟩ 1 1 [.int .u8 k1, .int .i64 m1, .string t1, .slice A1 l1.length cap1, .int .i64 q1] (by rfl) (by rfl) (World.news_of_block (Blk.new' _ 27 #[.int .u8 k1, .int .i64 m1, .string t1, .slice A1 l1.length cap1, .int .i64 q1] (by simp))) (by simp [Value.oneCell']) (by omega) (by unfold maxLen; omega) (by omega) (by simp; omega) (w6.heap.size + 1 + 1) (by simp) ?_; intro g2 cap2 w7 hown1 hgrow hat hlt1; have hbw := HBW.out w7 hgrow; obtain ⟨p0, p1, p2, p3, p4, pf⟩ := hbw.cells5; have pq := hbw.lt; clear hbw)
              go_roundw
              case rel => first | exact ⟨j + 1, _, _, l ++ [T.mk k1 m1 t1 A1 cap1 l1 q1], s3, n3, hlt, by go_num, LdInv.push HI.out hcW5 hbW5 hrW5 (by omega) (by omega) hlt HQ.out HLE.out HFV.out HT6.out HR6.out hgrow hown1 (hat.imp id (fun h => by simp; omega))⟩ | ((repeat apply Exists.intro); refine ⟨?_, rfl⟩; exact ⟨j + 1, _, _, l ++ [T.mk k1 m1 t1 A1 cap1 l1 q1], s3, n3, hlt, by go_num, LdInv.push HI.out hcW5 hbW5 hrW5 (by omega) (by omega) hlt HQ.out HLE.out HFV.out HT6.out HR6.out hgrow hown1 (hat.imp id (fun h => by simp; omega))⟩)
              case measure => simp [intOf]; omega
          · have hje : j = x := by omega
            subst hje
            have hcW5 : w.heap.size < W5.heap.size := by omega
            have hbW5 : b < W5.heap.size := by omega
            have hrW5 : r < W5.heap.size := by omega
            obtain ⟨x0, x1, x2, x3, xf, xq⟩ := hI.rd.cells
            obtain ⟨k0, k1, k2, k3, k4, kf⟩ := hI.box.cells5
            have kq := hI.box.lt
            have hd2 : (d1 : Int) + 1 = dd := by omega
            have hp : parseG (some g') s n = some (V.mk 3 0 ⟨#[]⟩ (l.map T.v) 0, s2, n2) := by
              rw [HPAR.out, parseK, if_neg (by decide), if_neg (by decide), if_neg (by decide), if_neg (by decide), if_pos rfl, HY.out]
              show (if n - 1 < j then none else _) = _
              rw [if_neg hm, hI.says, Nat.sub_self]
              simp [parseL]
            have hs65 := hI.fr.size
            have hlen : l.length ≤ 600 := by have := hI.len; omega
            have hT : (T.mk 3 0 ⟨#[]⟩ A cap l 0).In wr W5.heap.size wr.heap.size := owns_row hI.row (lo := W5.heap.size) (hi := wr.heap.size) (fun y hy => by
              obtain ⟨lo, hi, h1, h2, h3, _⟩ := hI.ins y hy
              exact h3.more h1 h2) (by omega) (Nat.le_refl _) (Nat.le_refl _)
            have hFr : Fr (fun i => i = b ∨ i = r) w wr := HF5.out.trans' hI.fr (fun i hi h => by
              rcases h with h | h
              · exact h
              · exact absurd h (by omega))
            have hRd : Rdr (wr.setCell ⟨r, 3, none⟩ (.int .i64 dd)) b r s2 n2 dd := ⟨hI.rd.box.far hI.rd.ne _, by simpa using hI.rd.st.set_ 3 (.int .i64 dd)⟩
            have HP := hide hp
            have HT := hide hT
            have HFr := hide hFr
            have HRd := hide hRd
            clear hp hT hFr hRd hI
            go_wp2
            refine bodyPost_ret (v := (.tuple #[.agg #[.int .u8 3, .int .i64 0, .string ⟨#[]⟩, .slice A l.length cap, .int .i64 0], .bool true])) (by simp [results, Try.results116, go_sem, *]) rfl ?_
            refine ⟨?_, (fun h => by rw [HP.out] at h; cases h), fun u t m h => ?_⟩
            · have f := HFr.out
              (repeat (first | with_reducible assumption | with_reducible exact Hid.out ‹_› | with_reducible refine Fr.setNew ?_ (Nat.le_refl _) _ | with_reducible refine Fr.set ?_ (fun _ => .inr rfl) _))
            · rw [HP.out] at h
              cases h
              refine ⟨T.mk 3 0 ⟨#[]⟩ A cap l 0, by rw [T.v_mk], rfl, ?_, ?_⟩
              · refine (T.In.fr (S := fun i => i = w.heap.size ∨ i = r) HT.out ?_ (Nat.le_refl _) (fun i h0 h1 h2 => by have h2' : i = w.heap.size ∨ i = r := h2; omega)).more (by omega) (by simp)
                repeat (first | with_reducible exact Fr.refl _ _ | with_reducible refine Fr.set ?_ (by simp) _)
              · (repeat (first | with_reducible exact Hid.out ‹_› | with_reducible assumption | with_reducible refine Rdr.far ?_ (by omega) (by omega) _))

end Go.Proofs.Ytihjmipmjogpoaa

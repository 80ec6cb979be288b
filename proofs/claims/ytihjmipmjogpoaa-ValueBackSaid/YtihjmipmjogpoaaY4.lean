/- Chapter 2: the reader's values. -/
import Derived.Test.YtihjmipmjogpoaaY3
import Derived.Test.YtihjmipmjogpoaaU1
namespace Go.Proofs.Ytihjmipmjogpoaa
open Go.RowKit

/-- What the reading of a value leaves. -/
structure ValP (b r : Nat) (o : Got) (d : Int) (w : World) (e : Ending) (w' : World) : Prop where
  fr : Fr (fun i => i = b ∨ i = r) w w'
  no : o = none → ∃ (k n : Int) (s : ByteArray) (A : Option Addr) (len cap : Nat) (q : Int), e = .returned (.tuple #[.agg #[.int .u8 k, .int .i64 n, .string s, .slice A len cap, .int .i64 q], .bool false])
  yes : ∀ u s' n', o = some (u, s', n') → ∃ t : T, t.v = u ∧ e = .returned (.tuple #[t.val, .bool true]) ∧ t.In w' w.heap.size w'.heap.size ∧ Rdr w' b r s' n' d

theorem Rdr.cells {w : World} {b r : Nat} {s : ByteArray} {n d : Int} (h : Rdr w b r s n d) : w.cell? ⟨r, 0, none⟩ = some (.func (.func 141) #[] #[.pointer (some ⟨b, 0, none⟩)]) ∧ w.cell? ⟨r, 1, none⟩ = some (.func (.func 142) #[] #[.pointer (some ⟨b, 0, none⟩)]) ∧ w.cell? ⟨r, 2, none⟩ = some (.int .i64 n) ∧ w.cell? ⟨r, 3, none⟩ = some (.int .i64 d) ∧
    (∀ i, w.frozen? ⟨r, i, none⟩ = false) ∧ r < w.heap.size :=
  ⟨h.st.cell 0, h.st.cell 1, h.st.cell 2, h.st.cell 3, h.st.frozen, h.st.lt⟩

theorem Rdr.far {w : World} {b r : Nat} {s : ByteArray} {n d : Int} (h : Rdr w b r s n d) {c o : Nat} (hb : b ≠ c) (hr : r ≠ c) (u : Value) : Rdr (w.setCell ⟨c, o, none⟩ u) b r s n d := ⟨h.box.far hb u, h.st.far hr u⟩

theorem ValP.fail {b r : Nat} {o : Got} {d : Int} {w w' : World} {k n : Int} {s : ByteArray} {A : Option Addr} {len cap : Nat} {q : Int} (hp : o = none) (f : Fr (fun i => i = b ∨ i = r) w w') : ValP b r o d w (.returned (.tuple #[.agg #[.int .u8 k, .int .i64 n, .string s, .slice A len cap, .int .i64 q], .bool false])) w' :=
  ⟨f, fun _ => ⟨k, n, s, A, len, cap, q, rfl⟩, fun _ _ _ h => by rw [hp] at h; cases h⟩

theorem ValP.leaf {b r : Nat} {o : Got} {d : Int} {w w' : World} {k n0 r0 : Int} {s0 s' : ByteArray} {n' : Nat} (hp : o = some (V.mk k n0 s0 [] r0, s', n')) (fit : Fit k n0 s0 0 0 r0) (f : Fr (fun i => i = b ∨ i = r) w w') (hR : Rdr w' b r s' n' d) :
    ValP b r o d w (.returned (.tuple #[.agg #[.int .u8 k, .int .i64 n0, .string s0, .slice none 0 0, .int .i64 r0], .bool true])) w' :=
  ⟨f, (fun h => by rw [hp] at h; cases h), fun u t m h => by
    rw [hp] at h
    cases h
    exact ⟨T.mk k n0 s0 none 0 [] r0, by rw [T.v_mk]; rfl, rfl, T.in_mk.2 ⟨fit, fun h => absurd rfl h, by simp⟩, hR⟩⟩

/-- What stands behind the first byte. -/
def parseK (g : Option (ByteArray → Nat → Got)) (k : Nat) (s1 : ByteArray) (n1 : Nat) : Got :=
  if k = 0 then some (.mk 0 0 ⟨#[]⟩ [] 0, s1, n1)
  else if k = 1 then (cutN s1 8).map fun q => (.mk 1 ((q.1 : Int) - 9223372036854775808) ⟨#[]⟩ [] 0, q.2, n1)
  else if k = 4 then (cutN s1 4).bind fun q => if 0 < q.1 then some (.mk 4 0 ⟨#[]⟩ [] q.1, q.2, n1) else none
  else if k = 2 then (cutN s1 2).bind fun q => if 256 < q.1 ∨ q.2.size < q.1 then none else some (.mk 2 0 (q.2.extract 0 q.1) [] 0, q.2.extract q.1 q.2.size, n1)
  else if k = 3 then (cutN s1 2).bind fun q => match g with
    | none => none
    | some g => if n1 < q.1 then none else (parseL g q.1 q.2 n1).map fun x => (.mk 3 0 ⟨#[]⟩ x.1 0, x.2)
  else none

theorem parseG_eq (g : Option (ByteArray → Nat → Got)) (s : ByteArray) (n : Nat) (h : ¬ (s.size < 1 ∨ n = 0)) : parseG g s n = parseK g (hdB s) (s.extract 1 s.size) (n - 1) := by
  unfold parseG parseK
  rw [if_neg h]
  rfl

theorem i64_u64 (x : Nat) (h : x < 18446744073709551616) : IntKind.i64.wrap (IntKind.u64.wrap ((x : Int) - 9223372036854775808)) = (x : Int) - 9223372036854775808 := by
  rw [IntKind.wrap_u64, IntKind.wrap_i64]; omega

theorem i64_nat (x : Nat) (h : x < 9223372036854775808) : IntKind.i64.wrap (x : Int) = (x : Int) := by
  rw [IntKind.wrap_i64]; omega

theorem bigN_cut (s : ByteArray) (n : Nat) (h : n ≤ s.size) : bigN (strB (s.extract 0 n)) < 256 ^ n := by
  have := bigN_lt (strB (s.extract 0 n)) (strB_lt _)
  rwa [strB_length, ByteArray.size_extract, Nat.min_eq_left h] at this

/-- What a number's reading says of the cut. -/
theorem NumP.cut {b r : Nat} {s : ByteArray} {n d : Int} {len : Nat} {w : World} {e : Ending} {w' : World} (h : NumP b r s n d len w e w') : Fr (fun i => i = b) w w' ∧ ∃ (ok : Bool) (x : Nat) (s' : ByteArray), e = .returned (.tuple #[.int .u64 (x : Int), .bool ok]) ∧ Rdr w' b r s' n d ∧ x < 256 ^ len ∧ s'.size ≤ s.size ∧ (ok = false → x = 0 ∧ cutN s len = none) ∧ (ok = true → cutN s len = some (x, s')) := by
  obtain ⟨f, ok, x, s', he, hR, ⟨rfl, rfl, h1, rfl⟩ | ⟨rfl, h1, rfl, rfl⟩⟩ := h
  · exact ⟨f, false, 0, _, he, hR, Nat.pow_pos (by decide), Nat.le_refl _, fun _ => ⟨rfl, cutN_none h1⟩, (fun h => by cases h)⟩
  · exact ⟨f, true, _, _, he, hR, bigN_cut _ _ h1, by rw [ByteArray.size_extract]; omega, (fun h => by cases h), fun _ => cutN_some h1⟩

theorem fit_at (k n0 : Int) (s0 : ByteArray) (r0 : Int) (h0 : 0 ≤ k) (h1 : k < 256) (h2 : -9223372036854775808 ≤ n0) (h3 : n0 ≤ 9223372036854775807) (h4 : s0.size ≤ 4000000) (h5 : -9223372036854775808 ≤ r0) (h6 : r0 ≤ 9223372036854775807) : Fit k n0 s0 0 0 r0 :=
  ⟨h0, h1, h2, h3, by omega, by decide, Nat.le_refl _, h5, h6⟩

set_option maxRecDepth 100000 in
set_option maxHeartbeats 4000000 in
theorem value_leaf (g : Option (ByteArray → Nat → Got)) (b r : Nat) (s : ByteArray) (n : Nat) (d : Int) (w : World) (hn : n ≤ 512) (hd : 0 ≤ d) (hd1 : d ≤ 16) (hs : s.size ≤ 4000000) (h : Rdr w b r s n d) (h3 : n = 0 ∨ hdB s ≠ 3) : Calls Try.prog 116 #[.pointer (some ⟨r, 0, none⟩)] w (ValP b r (parseG g s n) d w) := by
  have fr1 := (Fr.refl No w).alloc (.cells #[.int .u8 0, .int .i64 0, .string ⟨#[]⟩, .slice none 0 0, .int .i64 0] 27)
  have hK := Blk.new' w 27 #[.int .u8 0, .int .i64 0, .string ⟨#[]⟩, .slice none 0 0, .int .i64 0] rfl
  have h1 := h.fr fr1 (fun h => h) (fun h => h)
  have hT := rtake_any b s 1 _ (by omega) h1.box
  obtain ⟨c0, c1, c2, c3, cf, q0⟩ := h1.cells
  have H := hide h1
  have HT := hide hT
  have HF := hide fr1
  have HK := hide hK
  have hrw := h.st.lt
  have hbw := h.box.lt
  clear h h1 hT fr1 hK
  go_enter Try.func116, Try.ntmps116
  go_wp2_with fail
  generalize World.alloc w _ = W0 at *
  refine HT.out.mono ?_
  rintro e w2 ⟨fr2, hq⟩
  have hK2 := HK.out.fr fr2 (fun h => by have h' : w.heap.size = b := h; omega)
  have hst2 := H.out.st.fr fr2 (fun h => H.out.ne h.symm)
  have HF2 := hide ((HF.out.no (S := fun i => i = b ∨ i = r)).trans' fr2 (fun i hi h => .inl h))
  rcases hq with ⟨h1, rfl, h2⟩ | ⟨h1, rfl, h2⟩
  · have hp : parseG g s n = none := by unfold parseG; rw [if_pos (.inl (by omega))]
    have HP := hide hp
    clear hp
    obtain ⟨k0, k1, k2, k3, k4, kf⟩ := hK2.cells5
    have kq := hK2.lt
    clear c0 c1 c2 c3 cf q0 hst2 fr2 H HT HK
    go_wp2
    refine bodyPost_ret (v := (.tuple #[.agg #[.int .u8 0, .int .i64 0, .string ⟨#[]⟩, .slice none 0 0, .int .i64 0], .bool false])) (by simp [results, Try.results116, go_sem, *]) rfl ?_
    refine ValP.fail HP.out ?_
    have f := HF2.out
    (repeat (first | with_reducible assumption | with_reducible exact Hid.out ‹_› | with_reducible refine Fr.setNew ?_ (Nat.le_refl _) _ | with_reducible refine Fr.set ?_ (fun _ => .inr rfl) _))
  · have hR2 : Rdr w2 b r (s.extract 1 s.size) n d := ⟨by simpa using h2, hst2⟩
    obtain ⟨x0, x1, x2, x3, xf, xq⟩ := hR2.cells
    obtain ⟨k0, k1, k2, k3, k4, kf⟩ := hK2.cells5
    have kq := hK2.lt
    obtain ⟨e1, e2⟩ := hd_extract s (by omega)
    have HE1 := hide e1
    have HR := hide hR2
    have HK2 := hide hK2
    clear c0 c1 c2 c3 cf q0 fr2 H HT HK h2 hst2 hK2 e1 hR2
    by_cases hn0 : n = 0
    · have hp : parseG g s n = none := by unfold parseG; rw [if_pos (.inr hn0)]
      have HP := hide hp
      clear hp
      subst hn0
      go_wp2
      refine bodyPost_ret (v := (.tuple #[.agg #[.int .u8 0, .int .i64 0, .string ⟨#[]⟩, .slice none 0 0, .int .i64 0], .bool false])) (by simp [results, Try.results116, go_sem, *]) rfl ?_
      refine ValP.fail HP.out ?_
      have f := HF2.out
      (repeat (first | with_reducible assumption | with_reducible exact Hid.out ‹_› | with_reducible refine Fr.setNew ?_ (Nat.le_refl _) _ | with_reducible refine Fr.set ?_ (fun _ => .inr rfl) _))
    · go_upto_region 7 with fail
      have hbyte : ((s.extract 0 1)[0]'(by omega)).toNat = hdB s := by
        have h0 : 0 < s.data.size := (show 1 ≤ s.size by omega)
        unfold hdB
        congr 1
        show (s.extract 0 1).data[0]'_ = _
        simp [ByteArray.data_extract, h0, Array.getElem?_eq_getElem h0]
      have hnn : ((n : Int) - 1) = ((n - 1 : Nat) : Int) := by omega
      have hR3 : Rdr ((w2.setCell ⟨r, 2, none⟩ (.int .i64 ((n : Int) - 1))).setCell ⟨w.heap.size, 0, none⟩ (.int .u8 (hdB s : Int))) b r (s.extract 1 s.size) ((n - 1 : Nat) : Int) d := by
        rw [hnn]
        exact Rdr.far ⟨HR.out.box.far (HR.out.ne) _, by simpa using HR.out.st.set_ 2 (.int .i64 ((n - 1 : Nat) : Int))⟩ (by omega) (by omega) _
      have hK3 : Blk ((w2.setCell ⟨r, 2, none⟩ (.int .i64 ((n : Int) - 1))).setCell ⟨w.heap.size, 0, none⟩ (.int .u8 (hdB s : Int))) w.heap.size 27 #[.int .u8 (hdB s : Int), .int .i64 0, .string ⟨#[]⟩, .slice none 0 0, .int .i64 0] := by
        have h := (HK2.out.far (p := ⟨r, 2, none⟩) (by show w.heap.size ≠ r; omega) (.int .i64 ((n : Int) - 1))).set_ 0 (.int .u8 (hdB s : Int))
        simpa using h
      have f3 : Fr (fun i => i = b ∨ i = r) w ((w2.setCell ⟨r, 2, none⟩ (.int .i64 ((n : Int) - 1))).setCell ⟨w.heap.size, 0, none⟩ (.int .u8 (hdB s : Int))) := by
        have f := HF2.out
        (repeat (first | with_reducible assumption | with_reducible exact Hid.out ‹_› | with_reducible refine Fr.setNew ?_ (Nat.le_refl _) _ | with_reducible refine Fr.set ?_ (fun _ => .inr rfl) _))
      rw [hbyte]
      generalize (w2.setCell ⟨r, 2, none⟩ (.int .i64 ((n : Int) - 1))).setCell ⟨w.heap.size, 0, none⟩ (.int .u8 (hdB s : Int)) = W3 at *
      generalize hk : hdB s = k at *
      have hk256 : k < 256 := by rw [← hk]; exact hdB_lt s
      obtain ⟨x0, x1, x2, x3, xf, xq⟩ := hR3.cells
      obtain ⟨k0, k1, k2, k3, k4, kf⟩ := hK3.cells5
      have kq := hK3.lt
      have hnot : ¬ (s.size < 1 ∨ n = 0) := by omega
      have hs1 : (s.extract 1 s.size).size ≤ 4000000 := by rw [ByteArray.size_extract]; omega
      generalize hS : s.extract 1 s.size = s1 at *
      have hpar : parseG g s n = parseK g k s1 (n - 1) := by rw [parseG_eq g s n hnot, hk, hS]
      have HPAR := hide hpar
      have HR3 := hide hR3
      have HK3 := hide hK3
      have HF3 := hide f3
      clear hbyte hR3 hK3 f3 hpar hS hnn hnot
      by_cases hk0 : k = 0
      · subst hk0
        have hp : parseG g s n = some (.mk 0 0 ⟨#[]⟩ [] 0, s1, n - 1) := by rw [HPAR.out, parseK, if_pos rfl]
        have HP := hide hp
        clear hp
        go_wp2
        refine bodyPost_ret (v := (.tuple #[.agg #[.int .u8 0, .int .i64 0, .string ⟨#[]⟩, .slice none 0 0, .int .i64 0], .bool true])) (by simp [results, Try.results116, go_sem, *]) rfl ?_
        refine ValP.leaf HP.out (fit_at _ _ _ _ (by decide) (by decide) (by decide) (by decide) (by decide) (by decide) (by decide)) ?_ ?_
        · have f := HF3.out
          (repeat (first | with_reducible assumption | with_reducible exact Hid.out ‹_› | with_reducible refine Fr.setNew ?_ (Nat.le_refl _) _ | with_reducible refine Fr.set ?_ (fun _ => .inr rfl) _))
        · (repeat (first | with_reducible exact Hid.out ‹_› | with_reducible assumption | with_reducible refine Rdr.far ?_ (by omega) (by omega) _))
      by_cases hk1 : k = 1
      · subst hk1
        go_wp2_with fail
        refine (number_any b r s1 ((n - 1 : Nat) : Int) d 8 W3 (by decide) HR3.out).mono ?_
        rintro e w4 hq
        obtain ⟨f4, ok, x, s', rfl, hR4, hx, -, hno, hyes⟩ := hq.cut
        have hK4 := HK3.out.fr f4 (fun h => by have h' : w.heap.size = b := h; omega)
        obtain ⟨k0, k1, k2, k3, k4, kf⟩ := hK4.cells5
        have kq := hK4.lt
        have HF4 := hide (HF3.out.trans' f4 (fun i hi h => .inl h))
        have HR4 := hide hR4
        have hwx := i64_u64 x (by simpa using hx)
        have HNO := hide hno
        have HYES := hide hyes
        clear x0 x1 x2 x3 xf xq hK4 f4 hR4 hq hno hyes
        cases ok with
        | false =>
          have hp : parseG g s n = none := by rw [HPAR.out, parseK, if_neg (by decide), if_pos rfl, (HNO.out rfl).2]; rfl
          have HP := hide hp
          clear hp
          go_wp2
          refine bodyPost_ret (v := (.tuple #[.agg #[.int .u8 1, .int .i64 ((x : Int) - 9223372036854775808), .string ⟨#[]⟩, .slice none 0 0, .int .i64 0], .bool false])) (by simp [results, Try.results116, go_sem, *]) rfl ?_
          refine ValP.fail HP.out ?_
          have f := HF4.out
          (repeat (first | with_reducible assumption | with_reducible exact Hid.out ‹_› | with_reducible refine Fr.setNew ?_ (Nat.le_refl _) _ | with_reducible refine Fr.set ?_ (fun _ => .inr rfl) _))
        | true =>
          have hp : parseG g s n = some (.mk 1 ((x : Int) - 9223372036854775808) ⟨#[]⟩ [] 0, s', n - 1) := by rw [HPAR.out, parseK, if_neg (by decide), if_pos rfl, HYES.out rfl]; rfl
          have HP := hide hp
          clear hp
          go_wp2
          refine bodyPost_ret (v := (.tuple #[.agg #[.int .u8 1, .int .i64 ((x : Int) - 9223372036854775808), .string ⟨#[]⟩, .slice none 0 0, .int .i64 0], .bool true])) (by simp [results, Try.results116, go_sem, *]) rfl ?_
          refine ValP.leaf HP.out (fit_at _ _ _ _ (by decide) (by decide) (by omega) (by simp at hx; omega) (by decide) (by decide) (by decide)) ?_ ?_
          · have f := HF4.out
            (repeat (first | with_reducible assumption | with_reducible exact Hid.out ‹_› | with_reducible refine Fr.setNew ?_ (Nat.le_refl _) _ | with_reducible refine Fr.set ?_ (fun _ => .inr rfl) _))
          · (repeat (first | with_reducible exact Hid.out ‹_› | with_reducible assumption | with_reducible refine Rdr.far ?_ (by omega) (by omega) _))
      by_cases hk4 : k = 4
      · subst hk4
        go_wp2_with fail
        refine (number_any b r s1 ((n - 1 : Nat) : Int) d 4 W3 (by decide) HR3.out).mono ?_
        rintro e w4 hq
        obtain ⟨f4, ok, x, s', rfl, hR4, hx, -, hno, hyes⟩ := hq.cut
        have hK4 := HK3.out.fr f4 (fun h => by have h' : w.heap.size = b := h; omega)
        obtain ⟨k0, k1, k2, k3, k4, kf⟩ := hK4.cells5
        have kq := hK4.lt
        have HF4 := hide (HF3.out.trans' f4 (fun i hi h => .inl h))
        have HR4 := hide hR4
        have hx' : x < 4294967296 := by simpa using hx
        have hwx := i64_nat x (by omega)
        have HNO := hide hno
        have HYES := hide hyes
        clear x0 x1 x2 x3 xf xq hK4 f4 hR4 hq hno hyes hx
        cases ok with
        | false =>
          have hp : parseG g s n = none := by rw [HPAR.out, parseK, if_neg (by decide), if_neg (by decide), if_pos rfl, (HNO.out rfl).2]; rfl
          have HP := hide hp
          clear hp
          go_wp2
          refine bodyPost_ret (v := (.tuple #[.agg #[.int .u8 4, .int .i64 0, .string ⟨#[]⟩, .slice none 0 0, .int .i64 (x : Int)], .bool false])) (by simp [results, Try.results116, go_sem, *]) rfl ?_
          refine ValP.fail HP.out ?_
          have f := HF4.out
          (repeat (first | with_reducible assumption | with_reducible exact Hid.out ‹_› | with_reducible refine Fr.setNew ?_ (Nat.le_refl _) _ | with_reducible refine Fr.set ?_ (fun _ => .inr rfl) _))
        | true =>
          by_cases hx0 : 0 < x
          · have hp : parseG g s n = some (.mk 4 0 ⟨#[]⟩ [] x, s', n - 1) := by rw [HPAR.out, parseK, if_neg (by decide), if_neg (by decide), if_pos rfl, HYES.out rfl]; simp [hx0]
            have HP := hide hp
            clear hp
            go_wp2
            refine bodyPost_ret (v := (.tuple #[.agg #[.int .u8 4, .int .i64 0, .string ⟨#[]⟩, .slice none 0 0, .int .i64 (x : Int)], .bool true])) (by simp [results, Try.results116, go_sem, *]) rfl ?_
            refine ValP.leaf HP.out (fit_at _ _ _ _ (by decide) (by decide) (by decide) (by decide) (by decide) (by omega) (by omega)) ?_ ?_
            · have f := HF4.out
              (repeat (first | with_reducible assumption | with_reducible exact Hid.out ‹_› | with_reducible refine Fr.setNew ?_ (Nat.le_refl _) _ | with_reducible refine Fr.set ?_ (fun _ => .inr rfl) _))
            · (repeat (first | with_reducible exact Hid.out ‹_› | with_reducible assumption | with_reducible refine Rdr.far ?_ (by omega) (by omega) _))
          · have hp : parseG g s n = none := by rw [HPAR.out, parseK, if_neg (by decide), if_neg (by decide), if_pos rfl, HYES.out rfl]; simp [hx0]
            have HP := hide hp
            clear hp
            go_wp2
            refine bodyPost_ret (v := (.tuple #[.agg #[.int .u8 4, .int .i64 0, .string ⟨#[]⟩, .slice none 0 0, .int .i64 (x : Int)], .bool false])) (by simp [results, Try.results116, go_sem, *]) rfl ?_
            refine ValP.fail HP.out ?_
            have f := HF4.out
            (repeat (first | with_reducible assumption | with_reducible exact Hid.out ‹_› | with_reducible refine Fr.setNew ?_ (Nat.le_refl _) _ | with_reducible refine Fr.set ?_ (fun _ => .inr rfl) _))
      by_cases hk2 : k = 2
      · subst hk2
        go_wp2_with fail
        refine (number_any b r s1 ((n - 1 : Nat) : Int) d 2 W3 (by decide) HR3.out).mono ?_
        rintro e w4 hq
        obtain ⟨f4, ok, x, s', rfl, hR4, hx, hss, hno, hyes⟩ := hq.cut
        have hK4 := HK3.out.fr f4 (fun h => by have h' : w.heap.size = b := h; omega)
        obtain ⟨k0, k1, k2, k3, k4, kf⟩ := hK4.cells5
        have kq := hK4.lt
        have hx' : x < 65536 := by simpa using hx
        have hwx := i64_nat x (by omega)
        have HF4 := hide (HF3.out.trans' f4 (fun i hi h => .inl h))
        have HK4 := hide hK4
        have HNO := hide hno
        have HYES := hide hyes
        clear x0 x1 x2 x3 xf xq hK4 f4 hq hno hyes hx
        cases ok with
        | false =>
          have hp : parseG g s n = none := by rw [HPAR.out, parseK, if_neg (by decide), if_neg (by decide), if_neg (by decide), if_pos rfl, (HNO.out rfl).2]; rfl
          have HP := hide hp
          clear hp
          go_wp2
          refine bodyPost_ret (v := (.tuple #[.agg #[.int .u8 2, .int .i64 0, .string ⟨#[]⟩, .slice none 0 0, .int .i64 0], .bool false])) (by simp [results, Try.results116, go_sem, *]) rfl ?_
          refine ValP.fail HP.out ?_
          have f := HF4.out
          (repeat (first | with_reducible assumption | with_reducible exact Hid.out ‹_› | with_reducible refine Fr.setNew ?_ (Nat.le_refl _) _ | with_reducible refine Fr.set ?_ (fun _ => .inr rfl) _))
        | true =>
          have HY := hide (HYES.out rfl)
          clear HYES HNO
          by_cases hx0 : 256 < x
          · have hp : parseG g s n = none := by rw [HPAR.out, parseK, if_neg (by decide), if_neg (by decide), if_neg (by decide), if_pos rfl, HY.out]; simp [hx0]
            have HP := hide hp
            clear hp
            go_wp2
            refine bodyPost_ret (v := (.tuple #[.agg #[.int .u8 2, .int .i64 0, .string ⟨#[]⟩, .slice none 0 0, .int .i64 0], .bool false])) (by simp [results, Try.results116, go_sem, *]) rfl ?_
            refine ValP.fail HP.out ?_
            have f := HF4.out
            (repeat (first | with_reducible assumption | with_reducible exact Hid.out ‹_› | with_reducible refine Fr.setNew ?_ (Nat.le_refl _) _ | with_reducible refine Fr.set ?_ (fun _ => .inr rfl) _))
          · obtain ⟨x0, x1, x2, x3, xf, xq⟩ := hR4.cells
            have hT := rtake_any b s' x w4 (by omega) hR4.box
            have HT := hide hT
            have HR4 := hide hR4
            clear hT hR4
            go_wp2_with fail
            refine HT.out.mono ?_
            rintro e w5 ⟨f5, hq⟩
            have hK5 := HK4.out.fr f5 (fun h => by have h' : w.heap.size = b := h; omega)
            obtain ⟨k0, k1, k2, k3, k4, kf⟩ := hK5.cells5
            have kq := hK5.lt
            have hst5 := HR4.out.st.fr f5 (fun h => HR4.out.ne h.symm)
            have HF5 := hide (HF4.out.trans' f5 (fun i hi h => .inl h))
            clear x0 x1 x2 x3 xf xq hK5 f5
            rcases hq with ⟨h1, rfl, h2⟩ | ⟨h1, rfl, h2⟩
            · have hp : parseG g s n = none := by rw [HPAR.out, parseK, if_neg (by decide), if_neg (by decide), if_neg (by decide), if_pos rfl, HY.out]; simp; omega
              have HP := hide hp
              clear hp h2 hst5
              go_wp2
              refine bodyPost_ret (v := (.tuple #[.agg #[.int .u8 2, .int .i64 0, .string ⟨#[]⟩, .slice none 0 0, .int .i64 0], .bool false])) (by simp [results, Try.results116, go_sem, *]) rfl ?_
              refine ValP.fail HP.out ?_
              have f := HF5.out
              (repeat (first | with_reducible assumption | with_reducible exact Hid.out ‹_› | with_reducible refine Fr.setNew ?_ (Nat.le_refl _) _ | with_reducible refine Fr.set ?_ (fun _ => .inr rfl) _))
            · have hR5 : Rdr w5 b r (s'.extract x s'.size) ((n - 1 : Nat) : Int) d := ⟨by simpa using h2, hst5⟩
              have hp : parseG g s n = some (.mk 2 0 (s'.extract 0 x) [] 0, s'.extract x s'.size, n - 1) := by
                rw [HPAR.out, parseK, if_neg (by decide), if_neg (by decide), if_neg (by decide), if_pos rfl, HY.out]
                show (if 256 < x ∨ s'.size < x then none else _) = _
                rw [if_neg (by omega)]
              have hsz : (s'.extract 0 x).size ≤ 4000000 := by rw [ByteArray.size_extract]; omega
              have HP := hide hp
              have HR5 := hide hR5
              clear hp h2 hst5 hR5
              go_wp2
              refine bodyPost_ret (v := (.tuple #[.agg #[.int .u8 2, .int .i64 0, .string (s'.extract 0 x), .slice none 0 0, .int .i64 0], .bool true])) (by simp [results, Try.results116, go_sem, *]) rfl ?_
              refine ValP.leaf HP.out (fit_at _ _ _ _ (by decide) (by decide) (by decide) (by decide) hsz (by decide) (by decide)) ?_ ?_
              · have f := HF5.out
                (repeat (first | with_reducible assumption | with_reducible exact Hid.out ‹_› | with_reducible refine Fr.setNew ?_ (Nat.le_refl _) _ | with_reducible refine Fr.set ?_ (fun _ => .inr rfl) _))
              · (repeat (first | with_reducible exact Hid.out ‹_› | with_reducible assumption | with_reducible refine Rdr.far ?_ (by omega) (by omega) _))
      have hk3' : k ≠ 3 := h3.resolve_left hn0
      have hp : parseG g s n = none := by rw [HPAR.out, parseK, if_neg hk0, if_neg hk1, if_neg hk4, if_neg hk2, if_neg hk3']
      have HP := hide hp
      clear hp
      go_wp2
      refine bodyPost_ret (v := (.tuple #[.agg #[.int .u8 (k : Int), .int .i64 0, .string ⟨#[]⟩, .slice none 0 0, .int .i64 0], .bool false])) (by simp [results, Try.results116, go_sem, *]) rfl ?_
      refine ValP.fail HP.out ?_
      have f := HF3.out
      (repeat (first | with_reducible assumption | with_reducible exact Hid.out ‹_› | with_reducible refine Fr.setNew ?_ (Nat.le_refl _) _ | with_reducible refine Fr.set ?_ (fun _ => .inr rfl) _))

end Go.Proofs.Ytihjmipmjogpoaa

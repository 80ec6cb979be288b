/- Texts joined: Y4, Y5, Y6, Y7, Y8, Y9, Z1, Z2, Z3, Z4. -/
import Derived.Test.YtihjmipmjogpoaaJn9
/- Chapter 2: the reader's values. -/
namespace Go.Proofs.Ytihjmipmjogpoaa
open Go.RowKit

/-- What the reading of a value leaves. -/
structure ValP (b r : Nat) (o : Got) (d : Int) (w : World) (e : Ending) (w' : World) : Prop where
  fr : Fr (fun i => i = b ∨ i = r) w w'
  no : o = none → ∃ (k n : Int) (s : ByteArray) (A : Option Addr) (len cap : Nat) (q : Int), e = .returned (.tuple #[.agg #[.int .u8 k, .int .i64 n, .string s, .slice A len cap, .int .i64 q], .bool false])
  yes : ∀ u s' n', o = some (u, s', n') → ∃ t : T, t.v = u ∧ e = .returned (.tuple #[t.val, .bool true]) ∧ t.In w' w.heap.size w'.heap.size ∧ Rdr w' b r s' n' d

theorem Rdr.cells {w : World} {b r : Nat} {s : ByteArray} {n d : Int} (h : Rdr w b r s n d) : w.cell? ⟨r, 0, none⟩ = some (.func (.func 141) #[] #[.pointer (some ⟨b, 0, none⟩)]) ∧ w.cell? ⟨r, 1, none⟩ = some (.func (.func 142) #[] #[.pointer (some ⟨b, 0, none⟩)]) ∧ w.cell? ⟨r, 2, none⟩ = some (.int .i64 n) ∧ w.cell? ⟨r, 3, none⟩ = some (.int .i64 d) ∧
    (∀ i, w.frozen? ⟨r, i, none⟩ = false) ∧ r < w.heap.size :=
  ⟨h.st.cell 0, h.st.cell 1, h.st.cell 2, h.st.cell 3, h.st.frozen, h.st.lt⟩

theorem Rdr.far {w : World} {b r : Nat} {s : ByteArray} {n d : Int} (h : Rdr w b r s n d) {c o : Nat} (hb : b ≠ c) (hr : r ≠ c) (u : Value) : Rdr (w.setCell ⟨c, o, none⟩ u) b r s n d := ⟨h.box.far hb u, h.st.far hr u⟩

theorem ValP.fail {b r : Nat} {o : Got} {d : Int} {w w' : World} {k n : Int} {s : ByteArray} {A : Option Addr} {len cap : Nat} {q : Int} (hp : o = none) (f : Fr (fun i => i = b ∨ i = r) w w') : ValP b r o d w (.returned (.tuple #[.agg #[.int .u8 k, .int .i64 n, .string s, .slice A len cap, .int .i64 q], .bool false])) w' :=
  ⟨f, fun _ => ⟨k, n, s, A, len, cap, q, rfl⟩, fun _ _ _ h => by rw [hp] at h; cases h⟩

theorem ValP.leaf {b r : Nat} {o : Got} {d : Int} {w w' : World} {k n0 r0 : Int} {s0 s' : ByteArray} {n' : Nat} (hp : o = some (V.mk k n0 s0 [] r0, s', n')) (fit : Fit k n0 s0 0 0 r0) (f : Fr (fun i => i = b ∨ i = r) w w') (hR : Rdr w' b r s' n' d) :
    ValP b r o d w (.returned (.tuple #[.agg #[.int .u8 k, .int .i64 n0, .string s0, .slice none 0 0, .int .i64 r0], .bool true])) w' :=
  ⟨f, (fun h => by rw [hp] at h; cases h), fun u t m h => by
    rw [hp] at h
    cases h
    exact ⟨T.mk k n0 s0 none 0 [] r0, by rw [T.v_mk]; rfl, rfl, T.in_mk.2 ⟨fit, fun h => absurd rfl h, by simp⟩, hR⟩⟩

/-- What stands behind the first byte. -/
def parseK (g : Option (ByteArray → Nat → Got)) (k : Nat) (s1 : ByteArray) (n1 : Nat) : Got :=
  if k = 0 then some (.mk 0 0 ⟨#[]⟩ [] 0, s1, n1)
  else if k = 1 then (cutN s1 8).map fun q => (.mk 1 ((q.1 : Int) - 9223372036854775808) ⟨#[]⟩ [] 0, q.2, n1)
  else if k = 4 then (cutN s1 4).bind fun q => if 0 < q.1 then some (.mk 4 0 ⟨#[]⟩ [] q.1, q.2, n1) else none
  else if k = 2 then (cutN s1 2).bind fun q => if 256 < q.1 ∨ q.2.size < q.1 then none else some (.mk 2 0 (q.2.extract 0 q.1) [] 0, q.2.extract q.1 q.2.size, n1)
  else if k = 3 then (cutN s1 2).bind fun q => match g with
    | none => none
    | some g => if n1 < q.1 then none else (parseL g q.1 q.2 n1).map fun x => (.mk 3 0 ⟨#[]⟩ x.1 0, x.2)
  else none

theorem parseG_eq (g : Option (ByteArray → Nat → Got)) (s : ByteArray) (n : Nat) (h : ¬ (s.size < 1 ∨ n = 0)) : parseG g s n = parseK g (hdB s) (s.extract 1 s.size) (n - 1) := by
  unfold parseG parseK
  rw [if_neg h]
  all_goals rfl

theorem i64_u64 (x : Nat) (h : x < 18446744073709551616) : IntKind.i64.wrap (IntKind.u64.wrap ((x : Int) - 9223372036854775808)) = (x : Int) - 9223372036854775808 := by
  rw [IntKind.wrap_u64, IntKind.wrap_i64]; omega

theorem i64_nat (x : Nat) (h : x < 9223372036854775808) : IntKind.i64.wrap (x : Int) = (x : Int) := by
  rw [IntKind.wrap_i64]; omega

theorem bigN_cut (s : ByteArray) (n : Nat) (h : n ≤ s.size) : bigN (strB (s.extract 0 n)) < 256 ^ n := by
  have := bigN_lt (strB (s.extract 0 n)) (strB_lt _)
  rwa [strB_length, ByteArray.size_extract, Nat.min_eq_left h] at this

/-- What a number's reading says of the cut. -/
theorem NumP.cut {b r : Nat} {s : ByteArray} {n d : Int} {len : Nat} {w : World} {e : Ending} {w' : World} (h : NumP b r s n d len w e w') : Fr (fun i => i = b) w w' ∧ ∃ (ok : Bool) (x : Nat) (s' : ByteArray), e = .returned (.tuple #[.int .u64 (x : Int), .bool ok]) ∧ Rdr w' b r s' n d ∧ x < 256 ^ len ∧ s'.size ≤ s.size ∧ (ok = false → x = 0 ∧ cutN s len = none) ∧ (ok = true → cutN s len = some (x, s')) := by
  obtain ⟨f, ok, x, s', he, hR, ⟨rfl, rfl, h1, rfl⟩ | ⟨rfl, h1, rfl, rfl⟩⟩ := h
  · exact ⟨f, false, 0, _, he, hR, Nat.pow_pos (by decide), Nat.le_refl _, fun _ => ⟨rfl, cutN_none h1⟩, (fun h => by cases h)⟩
  · exact ⟨f, true, _, _, he, hR, bigN_cut _ _ h1, by rw [ByteArray.size_extract]; omega, (fun h => by cases h), fun _ => cutN_some h1⟩

theorem fit_at (k n0 : Int) (s0 : ByteArray) (r0 : Int) (h0 : 0 ≤ k) (h1 : k < 256) (h2 : -9223372036854775808 ≤ n0) (h3 : n0 ≤ 9223372036854775807) (h4 : s0.size ≤ 4000000) (h5 : -9223372036854775808 ≤ r0) (h6 : r0 ≤ 9223372036854775807) : Fit k n0 s0 0 0 r0 :=
  ⟨h0, h1, h2, h3, by omega, by decide, Nat.le_refl _, h5, h6⟩

set_option maxRecDepth 100000 in
set_option maxHeartbeats 4000000 in
theorem value_leaf (g : Option (ByteArray → Nat → Got)) (b r : Nat) (s : ByteArray) (n : Nat) (d : Int) (w : World) (hn : n ≤ 512) (hd : 0 ≤ d) (hd1 : d ≤ 16) (hs : s.size ≤ 4000000) (h : Rdr w b r s n d) (h3 : n = 0 ∨ hdB s ≠ 3) : Calls Try.prog 116 #[.pointer (some ⟨r, 0, none⟩)] w (ValP b r (parseG g s n) d w) := by
  have fr1 := (Fr.refl No w).alloc (.cells #[.int .u8 0, .int .i64 0, .string ⟨#[]⟩, .slice none 0 0, .int .i64 0] 27)
  have hK := Blk.new' w 27 #[.int .u8 0, .int .i64 0, .string ⟨#[]⟩, .slice none 0 0, .int .i64 0] rfl
  have h1 := h.fr fr1 (fun h => h) (fun h => h)
  have hT := rtake_any b s 1 _ (by omega) h1.box
  obtain ⟨c0, c1, c2, c3, cf, q0⟩ := h1.cells
  have H := hide h1
  have HT := hide hT
  have HF := hide fr1
  have HK := hide hK
  have hrw := h.st.lt
  have hbw := h.box.lt
  clear h h1 hT fr1 hK
  go_enter Try.func116, Try.ntmps116
  go_wp2_with fail
  generalize World.alloc w _ = W0 at *
  refine HT.out.mono ?_
  rintro e w2 ⟨fr2, hq⟩
  have hK2 := HK.out.fr fr2 (fun h => by have h' : w.heap.size = b := h; omega)
  have hst2 := H.out.st.fr fr2 (fun h => H.out.ne h.symm)
  have HF2 := hide ((HF.out.no (S := fun i => i = b ∨ i = r)).trans' fr2 (fun i hi h => .inl h))
  rcases hq with ⟨h1, rfl, h2⟩ | ⟨h1, rfl, h2⟩
  · have hp : parseG g s n = none := by unfold parseG; rw [if_pos (.inl (by omega))]
    have HP := hide hp
    clear hp
    obtain ⟨k0, k1, k2, k3, k4, kf⟩ := hK2.cells5
    have kq := hK2.lt
    clear c0 c1 c2 c3 cf q0 hst2 fr2 H HT HK
    go_wp2
    refine bodyPost_ret (v := (.tuple #[.agg #[.int .u8 0, .int .i64 0, .string ⟨#[]⟩, .slice none 0 0, .int .i64 0], .bool false])) (by simp [results, Try.results116, go_sem, *]) rfl ?_
    refine ValP.fail HP.out ?_
    have f := HF2.out
    (repeat (first | with_reducible assumption | with_reducible exact Hid.out ‹_› | with_reducible refine Fr.setNew ?_ (Nat.le_refl _) _ | with_reducible refine Fr.set ?_ (fun _ => .inr rfl) _))
  · have hR2 : Rdr w2 b r (s.extract 1 s.size) n d := ⟨by simpa using h2, hst2⟩
    obtain ⟨x0, x1, x2, x3, xf, xq⟩ := hR2.cells
    obtain ⟨k0, k1, k2, k3, k4, kf⟩ := hK2.cells5
    have kq := hK2.lt
    obtain ⟨e1, e2⟩ := hd_extract s (by omega)
    have HE1 := hide e1
    have HR := hide hR2
    have HK2 := hide hK2
    clear c0 c1 c2 c3 cf q0 fr2 H HT HK h2 hst2 hK2 e1 hR2
    by_cases hn0 : n = 0
    · have hp : parseG g s n = none := by unfold parseG; rw [if_pos (.inr hn0)]
      have HP := hide hp
      clear hp
      subst hn0
      go_wp2
      refine bodyPost_ret (v := (.tuple #[.agg #[.int .u8 0, .int .i64 0, .string ⟨#[]⟩, .slice none 0 0, .int .i64 0], .bool false])) (by simp [results, Try.results116, go_sem, *]) rfl ?_
      refine ValP.fail HP.out ?_
      have f := HF2.out
      (repeat (first | with_reducible assumption | with_reducible exact Hid.out ‹_› | with_reducible refine Fr.setNew ?_ (Nat.le_refl _) _ | with_reducible refine Fr.set ?_ (fun _ => .inr rfl) _))
    · go_upto_region 7 with fail
      have hbyte : ((s.extract 0 1)[0]'(by omega)).toNat = hdB s := by
        have h0 : 0 < s.data.size := (show 1 ≤ s.size by omega)
        unfold hdB
        congr 1
        show (s.extract 0 1).data[0]'_ = _
        simp [ByteArray.data_extract, h0, Array.getElem?_eq_getElem h0]
      have hnn : ((n : Int) - 1) = ((n - 1 : Nat) : Int) := by omega
      have hR3 : Rdr ((w2.setCell ⟨r, 2, none⟩ (.int .i64 ((n : Int) - 1))).setCell ⟨w.heap.size, 0, none⟩ (.int .u8 (hdB s : Int))) b r (s.extract 1 s.size) ((n - 1 : Nat) : Int) d := by
        rw [hnn]
        exact Rdr.far ⟨HR.out.box.far (HR.out.ne) _, by simpa using HR.out.st.set_ 2 (.int .i64 ((n - 1 : Nat) : Int))⟩ (by omega) (by omega) _
      have hK3 : Blk ((w2.setCell ⟨r, 2, none⟩ (.int .i64 ((n : Int) - 1))).setCell ⟨w.heap.size, 0, none⟩ (.int .u8 (hdB s : Int))) w.heap.size 27 #[.int .u8 (hdB s : Int), .int .i64 0, .string ⟨#[]⟩, .slice none 0 0, .int .i64 0] := by
        have h := (HK2.out.far (p := ⟨r, 2, none⟩) (by show w.heap.size ≠ r; omega) (.int .i64 ((n : Int) - 1))).set_ 0 (.int .u8 (hdB s : Int))
        simpa using h
      have f3 : Fr (fun i => i = b ∨ i = r) w ((w2.setCell ⟨r, 2, none⟩ (.int .i64 ((n : Int) - 1))).setCell ⟨w.heap.size, 0, none⟩ (.int .u8 (hdB s : Int))) := by
        have f := HF2.out
        (repeat (first | with_reducible assumption | with_reducible exact Hid.out ‹_› | with_reducible refine Fr.setNew ?_ (Nat.le_refl _) _ | with_reducible refine Fr.set ?_ (fun _ => .inr rfl) _))
      rw [hbyte]
      generalize (w2.setCell ⟨r, 2, none⟩ (.int .i64 ((n : Int) - 1))).setCell ⟨w.heap.size, 0, none⟩ (.int .u8 (hdB s : Int)) = W3 at *
      generalize hk : hdB s = k at *
      have hk256 : k < 256 := by rw [← hk]; exact hdB_lt s
      obtain ⟨x0, x1, x2, x3, xf, xq⟩ := hR3.cells
      obtain ⟨k0, k1, k2, k3, k4, kf⟩ := hK3.cells5
      have kq := hK3.lt
      have hnot : ¬ (s.size < 1 ∨ n = 0) := by omega
      have hs1 : (s.extract 1 s.size).size ≤ 4000000 := by rw [ByteArray.size_extract]; omega
      generalize hS : s.extract 1 s.size = s1 at *
      have hpar : parseG g s n = parseK g k s1 (n - 1) := by rw [parseG_eq g s n hnot, hk, hS]
      have HPAR := hide hpar
      have HR3 := hide hR3
      have HK3 := hide hK3
      have HF3 := hide f3
      clear hbyte hR3 hK3 f3 hpar hS hnn hnot
      by_cases hk0 : k = 0
      · subst hk0
        have hp : parseG g s n = some (.mk 0 0 ⟨#[]⟩ [] 0, s1, n - 1) := by rw [HPAR.out, parseK, if_pos rfl]
        have HP := hide hp
        clear hp
        go_wp2
        refine bodyPost_ret (v := (.tuple #[.agg #[.int .u8 0, .int .i64 0, .string ⟨#[]⟩, .slice none 0 0, .int .i64 0], .bool true])) (by simp [results, Try.results116, go_sem, *]) rfl ?_
        refine ValP.leaf HP.out (fit_at _ _ _ _ (by decide) (by decide) (by decide) (by decide) (by decide) (by decide) (by decide)) ?_ ?_
        · have f := HF3.out
          (repeat (first | with_reducible assumption | with_reducible exact Hid.out ‹_› | with_reducible refine Fr.setNew ?_ (Nat.le_refl _) _ | with_reducible refine Fr.set ?_ (fun _ => .inr rfl) _))
        · (repeat (first | with_reducible exact Hid.out ‹_› | with_reducible assumption | with_reducible refine Rdr.far ?_ (by omega) (by omega) _))
      by_cases hk1 : k = 1
      · subst hk1
        go_wp2_with fail
        refine (number_any b r s1 ((n - 1 : Nat) : Int) d 8 W3 (by decide) HR3.out).mono ?_
        rintro e w4 hq
        obtain ⟨f4, ok, x, s', rfl, hR4, hx, -, hno, hyes⟩ := hq.cut
        have hK4 := HK3.out.fr f4 (fun h => by have h' : w.heap.size = b := h; omega)
        obtain ⟨k0, k1, k2, k3, k4, kf⟩ := hK4.cells5
        have kq := hK4.lt
        have HF4 := hide (HF3.out.trans' f4 (fun i hi h => .inl h))
        have HR4 := hide hR4
        have hwx := i64_u64 x (by simpa using hx)
        have HNO := hide hno
        have HYES := hide hyes
        clear x0 x1 x2 x3 xf xq hK4 f4 hR4 hq hno hyes
        cases ok with
        | false =>
          have hp : parseG g s n = none := by rw [HPAR.out, parseK, if_neg (by decide), if_pos rfl, (HNO.out rfl).2]; rfl
          have HP := hide hp
          clear hp
          go_wp2
          refine bodyPost_ret (v := (.tuple #[.agg #[.int .u8 1, .int .i64 ((x : Int) - 9223372036854775808), .string ⟨#[]⟩, .slice none 0 0, .int .i64 0], .bool false])) (by simp [results, Try.results116, go_sem, *]) rfl ?_
          refine ValP.fail HP.out ?_
          have f := HF4.out
          (repeat (first | with_reducible assumption | with_reducible exact Hid.out ‹_› | with_reducible refine Fr.setNew ?_ (Nat.le_refl _) _ | with_reducible refine Fr.set ?_ (fun _ => .inr rfl) _))
        | true =>
          have hp : parseG g s n = some (.mk 1 ((x : Int) - 9223372036854775808) ⟨#[]⟩ [] 0, s', n - 1) := by rw [HPAR.out, parseK, if_neg (by decide), if_pos rfl, HYES.out rfl]; rfl
          have HP := hide hp
          clear hp
          go_wp2
          refine bodyPost_ret (v := (.tuple #[.agg #[.int .u8 1, .int .i64 ((x : Int) - 9223372036854775808), .string ⟨#[]⟩, .slice none 0 0, .int .i64 0], .bool true])) (by simp [results, Try.results116, go_sem, *]) rfl ?_
          refine ValP.leaf HP.out (fit_at _ _ _ _ (by decide) (by decide) (by omega) (by simp at hx; omega) (by decide) (by decide) (by decide)) ?_ ?_
          · have f := HF4.out
            (repeat (first | with_reducible assumption | with_reducible exact Hid.out ‹_› | with_reducible refine Fr.setNew ?_ (Nat.le_refl _) _ | with_reducible refine Fr.set ?_ (fun _ => .inr rfl) _))
          · (repeat (first | with_reducible exact Hid.out ‹_› | with_reducible assumption | with_reducible refine Rdr.far ?_ (by omega) (by omega) _))
      by_cases hk4 : k = 4
      · subst hk4
        go_wp2_with fail
        refine (number_any b r s1 ((n - 1 : Nat) : Int) d 4 W3 (by decide) HR3.out).mono ?_
        rintro e w4 hq
        obtain ⟨f4, ok, x, s', rfl, hR4, hx, -, hno, hyes⟩ := hq.cut
        have hK4 := HK3.out.fr f4 (fun h => by have h' : w.heap.size = b := h; omega)
        obtain ⟨k0, k1, k2, k3, k4, kf⟩ := hK4.cells5
        have kq := hK4.lt
        have HF4 := hide (HF3.out.trans' f4 (fun i hi h => .inl h))
        have HR4 := hide hR4
        have hx' : x < 4294967296 := by simpa using hx
        have hwx := i64_nat x (by omega)
        have HNO := hide hno
        have HYES := hide hyes
        clear x0 x1 x2 x3 xf xq hK4 f4 hR4 hq hno hyes hx
        cases ok with
        | false =>
          have hp : parseG g s n = none := by rw [HPAR.out, parseK, if_neg (by decide), if_neg (by decide), if_pos rfl, (HNO.out rfl).2]; rfl
          have HP := hide hp
          clear hp
          go_wp2
          refine bodyPost_ret (v := (.tuple #[.agg #[.int .u8 4, .int .i64 0, .string ⟨#[]⟩, .slice none 0 0, .int .i64 (x : Int)], .bool false])) (by simp [results, Try.results116, go_sem, *]) rfl ?_
          refine ValP.fail HP.out ?_
          have f := HF4.out
          (repeat (first | with_reducible assumption | with_reducible exact Hid.out ‹_› | with_reducible refine Fr.setNew ?_ (Nat.le_refl _) _ | with_reducible refine Fr.set ?_ (fun _ => .inr rfl) _))
        | true =>
          by_cases hx0 : 0 < x
          · have hp : parseG g s n = some (.mk 4 0 ⟨#[]⟩ [] x, s', n - 1) := by rw [HPAR.out, parseK, if_neg (by decide), if_neg (by decide), if_pos rfl, HYES.out rfl]; simp [hx0]
            have HP := hide hp
            clear hp
            go_wp2
            refine bodyPost_ret (v := (.tuple #[.agg #[.int .u8 4, .int .i64 0, .string ⟨#[]⟩, .slice none 0 0, .int .i64 (x : Int)], .bool true])) (by simp [results, Try.results116, go_sem, *]) rfl ?_
            refine ValP.leaf HP.out (fit_at _ _ _ _ (by decide) (by decide) (by decide) (by decide) (by decide) (by omega) (by omega)) ?_ ?_
            · have f := HF4.out
              (repeat (first | with_reducible assumption | with_reducible exact Hid.out ‹_› | with_reducible refine Fr.setNew ?_ (Nat.le_refl _) _ | with_reducible refine Fr.set ?_ (fun _ => .inr rfl) _))
            · (repeat (first | with_reducible exact Hid.out ‹_› | with_reducible assumption | with_reducible refine Rdr.far ?_ (by omega) (by omega) _))
          · have hp : parseG g s n = none := by rw [HPAR.out, parseK, if_neg (by decide), if_neg (by decide), if_pos rfl, HYES.out rfl]; simp [hx0]
            have HP := hide hp
            clear hp
            go_wp2
            refine bodyPost_ret (v := (.tuple #[.agg #[.int .u8 4, .int .i64 0, .string ⟨#[]⟩, .slice none 0 0, .int .i64 (x : Int)], .bool false])) (by simp [results, Try.results116, go_sem, *]) rfl ?_
            refine ValP.fail HP.out ?_
            have f := HF4.out
            (repeat (first | with_reducible assumption | with_reducible exact Hid.out ‹_› | with_reducible refine Fr.setNew ?_ (Nat.le_refl _) _ | with_reducible refine Fr.set ?_ (fun _ => .inr rfl) _))
      by_cases hk2 : k = 2
      · subst hk2
        go_wp2_with fail
        refine (number_any b r s1 ((n - 1 : Nat) : Int) d 2 W3 (by decide) HR3.out).mono ?_
        rintro e w4 hq
        obtain ⟨f4, ok, x, s', rfl, hR4, hx, hss, hno, hyes⟩ := hq.cut
        have hK4 := HK3.out.fr f4 (fun h => by have h' : w.heap.size = b := h; omega)
        obtain ⟨k0, k1, k2, k3, k4, kf⟩ := hK4.cells5
        have kq := hK4.lt
        have hx' : x < 65536 := by simpa using hx
        have hwx := i64_nat x (by omega)
        have HF4 := hide (HF3.out.trans' f4 (fun i hi h => .inl h))
        have HK4 := hide hK4
        have HNO := hide hno
        have HYES := hide hyes
        clear x0 x1 x2 x3 xf xq hK4 f4 hq hno hyes hx
        cases ok with
        | false =>
          have hp : parseG g s n = none := by rw [HPAR.out, parseK, if_neg (by decide), if_neg (by decide), if_neg (by decide), if_pos rfl, (HNO.out rfl).2]; rfl
          have HP := hide hp
          clear hp
          go_wp2
          refine bodyPost_ret (v := (.tuple #[.agg #[.int .u8 2, .int .i64 0, .string ⟨#[]⟩, .slice none 0 0, .int .i64 0], .bool false])) (by simp [results, Try.results116, go_sem, *]) rfl ?_
          refine ValP.fail HP.out ?_
          have f := HF4.out
          (repeat (first | with_reducible assumption | with_reducible exact Hid.out ‹_› | with_reducible refine Fr.setNew ?_ (Nat.le_refl _) _ | with_reducible refine Fr.set ?_ (fun _ => .inr rfl) _))
        | true =>
          have HY := hide (HYES.out rfl)
          clear HYES HNO
          by_cases hx0 : 256 < x
          · have hp : parseG g s n = none := by rw [HPAR.out, parseK, if_neg (by decide), if_neg (by decide), if_neg (by decide), if_pos rfl, HY.out]; simp [hx0]
            have HP := hide hp
            clear hp
            go_wp2
            refine bodyPost_ret (v := (.tuple #[.agg #[.int .u8 2, .int .i64 0, .string ⟨#[]⟩, .slice none 0 0, .int .i64 0], .bool false])) (by simp [results, Try.results116, go_sem, *]) rfl ?_
            refine ValP.fail HP.out ?_
            have f := HF4.out
            (repeat (first | with_reducible assumption | with_reducible exact Hid.out ‹_› | with_reducible refine Fr.setNew ?_ (Nat.le_refl _) _ | with_reducible refine Fr.set ?_ (fun _ => .inr rfl) _))
          · obtain ⟨x0, x1, x2, x3, xf, xq⟩ := hR4.cells
            have hT := rtake_any b s' x w4 (by omega) hR4.box
            have HT := hide hT
            have HR4 := hide hR4
            clear hT hR4
            go_wp2_with fail
            refine HT.out.mono ?_
            rintro e w5 ⟨f5, hq⟩
            have hK5 := HK4.out.fr f5 (fun h => by have h' : w.heap.size = b := h; omega)
            obtain ⟨k0, k1, k2, k3, k4, kf⟩ := hK5.cells5
            have kq := hK5.lt
            have hst5 := HR4.out.st.fr f5 (fun h => HR4.out.ne h.symm)
            have HF5 := hide (HF4.out.trans' f5 (fun i hi h => .inl h))
            clear x0 x1 x2 x3 xf xq hK5 f5
            rcases hq with ⟨h1, rfl, h2⟩ | ⟨h1, rfl, h2⟩
            · have hp : parseG g s n = none := by rw [HPAR.out, parseK, if_neg (by decide), if_neg (by decide), if_neg (by decide), if_pos rfl, HY.out]; simp; omega
              have HP := hide hp
              clear hp h2 hst5
              go_wp2
              refine bodyPost_ret (v := (.tuple #[.agg #[.int .u8 2, .int .i64 0, .string ⟨#[]⟩, .slice none 0 0, .int .i64 0], .bool false])) (by simp [results, Try.results116, go_sem, *]) rfl ?_
              refine ValP.fail HP.out ?_
              have f := HF5.out
              (repeat (first | with_reducible assumption | with_reducible exact Hid.out ‹_› | with_reducible refine Fr.setNew ?_ (Nat.le_refl _) _ | with_reducible refine Fr.set ?_ (fun _ => .inr rfl) _))
            · have hR5 : Rdr w5 b r (s'.extract x s'.size) ((n - 1 : Nat) : Int) d := ⟨by simpa using h2, hst5⟩
              have hp : parseG g s n = some (.mk 2 0 (s'.extract 0 x) [] 0, s'.extract x s'.size, n - 1) := by
                rw [HPAR.out, parseK, if_neg (by decide), if_neg (by decide), if_neg (by decide), if_pos rfl, HY.out]
                show (if 256 < x ∨ s'.size < x then none else _) = _
                rw [if_neg (by omega)]
              have hsz : (s'.extract 0 x).size ≤ 4000000 := by rw [ByteArray.size_extract]; omega
              have HP := hide hp
              have HR5 := hide hR5
              clear hp h2 hst5 hR5
              go_wp2
              refine bodyPost_ret (v := (.tuple #[.agg #[.int .u8 2, .int .i64 0, .string (s'.extract 0 x), .slice none 0 0, .int .i64 0], .bool true])) (by simp [results, Try.results116, go_sem, *]) rfl ?_
              refine ValP.leaf HP.out (fit_at _ _ _ _ (by decide) (by decide) (by decide) (by decide) hsz (by decide) (by decide)) ?_ ?_
              · have f := HF5.out
                (repeat (first | with_reducible assumption | with_reducible exact Hid.out ‹_› | with_reducible refine Fr.setNew ?_ (Nat.le_refl _) _ | with_reducible refine Fr.set ?_ (fun _ => .inr rfl) _))
              · (repeat (first | with_reducible exact Hid.out ‹_› | with_reducible assumption | with_reducible refine Rdr.far ?_ (by omega) (by omega) _))
      have hk3' : k ≠ 3 := h3.resolve_left hn0
      have hp : parseG g s n = none := by rw [HPAR.out, parseK, if_neg hk0, if_neg hk1, if_neg hk4, if_neg hk2, if_neg hk3']
      have HP := hide hp
      clear hp
      go_wp2
      refine bodyPost_ret (v := (.tuple #[.agg #[.int .u8 (k : Int), .int .i64 0, .string ⟨#[]⟩, .slice none 0 0, .int .i64 0], .bool false])) (by simp [results, Try.results116, go_sem, *]) rfl ?_
      refine ValP.fail HP.out ?_
      have f := HF3.out
      (repeat (first | with_reducible assumption | with_reducible exact Hid.out ‹_› | with_reducible refine Fr.setNew ?_ (Nat.le_refl _) _ | with_reducible refine Fr.set ?_ (fun _ => .inr rfl) _))

end Go.Proofs.Ytihjmipmjogpoaa

/- Chapter 2: where the reading of a list's parts stands. -/
namespace Go.Proofs.Ytihjmipmjogpoaa
open Go.RowKit

/-- Where the reading of a list's parts stands. -/
structure LdInv (W5 : World) (c b r : Nat) (d1 : Int) (m j : Nat) (g : ByteArray → Nat → Got) (s0 : ByteArray) (n0 : Nat) (A : Option Addr) (cap : Nat) (l : List T) (s2 : ByteArray) (n2 : Nat) (wr : World) : Prop where
  fr : Fr (fun i => (i = b ∨ i = r) ∨ i = c) W5 wr
  len : l.length = j
  box : Blk wr c 27 #[.int .u8 3, .int .i64 0, .string ⟨#[]⟩, .slice A l.length cap, .int .i64 0]
  row : wr.ownsRow W5.heap.size 27 5 (.slice A l.length cap) l.length (rowCells l)
  ins : ∀ x ∈ l, ∃ lo hi, W5.heap.size ≤ lo ∧ hi ≤ wr.heap.size ∧ x.In wr lo hi ∧ ∀ q, (Value.slice A l.length cap).ownBlock = some q → q < lo ∨ hi ≤ q
  rd : Rdr wr b r s2 n2 d1
  n : n2 ≤ 512
  s : s2.size ≤ 4000000
  says : parseL g m s0 n0 = (parseL g (m - j) s2 n2).map fun y => (l.map T.v ++ y.1, y.2)

theorem LdInv.push {W5 wr w6 w7 : World} {c b r : Nat} {d1 : Int} {m j : Nat} {g : ByteArray → Nat → Got} {s0 : ByteArray} {n0 : Nat} {A : Option Addr} {cap : Nat} {l : List T} {s2 : ByteArray} {n2 : Nat} (h : LdInv W5 c b r d1 m j g s0 n0 A cap l s2 n2 wr) (hc : c < W5.heap.size) (hb : b < W5.heap.size) (hr : r < W5.heap.size) (hcb : c ≠ b) (hcr : c ≠ r)
    (hj : j < m) {t : T} {s3 : ByteArray} {n3 : Nat} (hg : g s2 n2 = some (t.v, s3, n3)) (hle : s3.size ≤ s2.size ∧ n3 ≤ n2) (f6 : Fr (fun i => i = b ∨ i = r) wr w6) (ht : t.In w6 wr.heap.size w6.heap.size) (hR : Rdr w6 b r s3 n3 d1) {o1 o2 : Obj} {g' cap' : Nat}
    (hgrow : ((w6.alloc o1).alloc o2).grownBy w7 (Value.slice A l.length cap).ownBlock) (hown : w7.ownsRow W5.heap.size 27 5 (.slice (some ⟨g', 0, none⟩) (l.length + 1) cap') (l.length + 1) (rowCells l ++ t.cells)) (hat : (Value.slice A l.length cap).ownBlock = some g' ∨ g' = ((w6.alloc o1).alloc o2).heap.size) :
    LdInv W5 c b r d1 m (j + 1) g s0 n0 (some ⟨g', 0, none⟩) cap' (l ++ [t]) s3 n3 (w7.setCell ⟨c, 3, none⟩ (.slice (some ⟨g', 0, none⟩) (l.length + 1) cap')) := by
  have hol := owns_lt h.row
  have hs5 := h.fr.size
  have hs6 := f6.size
  have f7 : Fr (fun i => (Value.slice A l.length cap).ownBlock = some i) w6 w7 := (((Fr.refl _ w6).alloc o1).alloc o2).grown hgrow (fun k hk _ => hk)
  have hs7 := f7.size
  have f67 : Fr (fun i => (i = b ∨ i = r) ∨ i = c) W5 w7 := (h.fr.trans' f6 (fun i _ hi => .inl hi)).trans' f7 (fun i hi hk => by have := hol i hk; omega)
  have hnb : ∀ i, i < W5.heap.size → ¬ (Value.slice A l.length cap).ownBlock = some i := fun i hi hk => by have := hol i hk; omega
  have fc : Fr (fun i => i = c) w7 (w7.setCell ⟨c, 3, none⟩ (.slice (some ⟨g', 0, none⟩) (l.length + 1) cap')) := (Fr.refl (fun i => i = c) w7).set (p := ⟨c, 3, none⟩) (fun _ => rfl) _
  have hgc : g' ≠ c := by
    rcases hat with h' | h'
    · have := hol _ h'; omega
    · simp at h'; omega
  have e1 : (l ++ [t]).length = l.length + 1 := by simp
  refine ⟨f67.trans' fc (fun i _ hi => .inr hi), by rw [e1, h.len], ?_, ?_, ?_, ?_, by have := h.n; omega, by have := h.s; omega, ?_⟩
  · have hx := ((h.box.fr f6 (fun hi => hi.elim hcb hcr)).fr f7 (hnb c hc)).set_ 3 (.slice (some ⟨g', 0, none⟩) (l.length + 1) cap')
    rw [e1]
    simpa using hx
  · rw [rowCells_snoc, e1]
    exact owns_fr hown fc (fun q hq hc' => by
      simp [Value.ownBlock] at hq
      have h' : q = c := hc'
      omega)
  · intro x hx
    rcases List.mem_append.1 hx with hx | hx
    · obtain ⟨lo, hi, h1, h2, h3, h4⟩ := h.ins x hx
      refine ⟨lo, hi, h1, by simp; omega, ?_, fun q hq => ?_⟩
      · exact ((h3.fr f6 h2 (fun i h5 h6 h7 => by have h7' : i = b ∨ i = r := h7; omega)).fr f7 (by omega) (fun i h5 h6 h7 => by have := h4 i h7; omega)).fr fc (by omega) (fun i h5 h6 h7 => by have h7' : i = c := h7; omega)
      · simp [Value.ownBlock] at hq
        subst hq
        rcases hat with h' | h'
        · exact h4 _ h'
        · simp at h'; omega
    · obtain rfl : x = t := by simpa using hx
      refine ⟨wr.heap.size, w6.heap.size, hs5, by simp; omega, ?_, fun q hq => ?_⟩
      · exact (ht.fr f7 (Nat.le_refl _) (fun i h5 h6 h7 => by have := hol i h7; omega)).fr fc (by omega) (fun i h5 h6 h7 => by have h7' : i = c := h7; omega)
      · simp [Value.ownBlock] at hq
        subst hq
        rcases hat with h' | h'
        · have := hol _ h'; omega
        · simp at h'; omega
  · exact (hR.fr f7 (hnb b hb) (hnb r hr)).fr fc (fun h' => hcb (Eq.symm h')) (fun h' => hcr (Eq.symm h'))
  · rw [h.says, show m - j = (m - (j + 1)) + 1 by omega, parseL_step g _ s2 n2 _ hg, Option.map_map]
    congr 1
    funext y
    simp

end Go.Proofs.Ytihjmipmjogpoaa

/- Chapter 2: the reader's lists. -/
namespace Go.Proofs.Ytihjmipmjogpoaa
open Go.RowKit

set_option maxRecDepth 100000 in
set_option maxHeartbeats 4000000 in
theorem value_list (g : Option (ByteArray → Nat → Got)) (b r : Nat) (s : ByteArray) (n : Nat) (d : Nat) (w : World) (hn : n ≤ 512) (hd1 : d ≤ 16) (hs : s.size ≤ 4000000) (hs1 : 1 ≤ s.size) (hn0 : n ≠ 0) (h : Rdr w b r s n d) (hk : hdB s = 3)
    (hg : (g = none ∧ d = 0) ∨ ∃ (g' : ByteArray → Nat → Got) (d1 : Nat), g = some g' ∧ d = d1 + 1 ∧ (∀ (s : ByteArray) (n b r : Nat) (w : World), n ≤ 512 → s.size ≤ 4000000 → Rdr w b r s n d1 → Calls Try.prog 116 #[.pointer (some ⟨r, 0, none⟩)] w (ValP b r (g' s n) d1 w)) ∧ (∀ s n u s' n', g' s n = some (u, s', n') → s'.size ≤ s.size ∧ n' ≤ n)) :
    Calls Try.prog 116 #[.pointer (some ⟨r, 0, none⟩)] w (ValP b r (parseG g s n) d w) := by
  have fr1 := (Fr.refl No w).alloc (.cells #[.int .u8 0, .int .i64 0, .string ⟨#[]⟩, .slice none 0 0, .int .i64 0] 27)
  have hK := Blk.new' w 27 #[.int .u8 0, .int .i64 0, .string ⟨#[]⟩, .slice none 0 0, .int .i64 0] rfl
  have h1 := h.fr fr1 (fun h => h) (fun h => h)
  have hT := rtake_any b s 1 _ (by omega) h1.box
  obtain ⟨c0, c1, c2, c3, cf, q0⟩ := h1.cells
  have H := hide h1
  have HT := hide hT
  have HF := hide fr1
  have HK := hide hK
  have hrw := h.st.lt
  have hbw := h.box.lt
  clear h h1 hT fr1 hK
  go_enter Try.func116, Try.ntmps116
  go_wp2_with fail
  generalize World.alloc w _ = W0 at *
  refine HT.out.mono ?_
  rintro e w2 ⟨fr2, hq⟩
  have hK2 := HK.out.fr fr2 (fun h => by have h' : w.heap.size = b := h; omega)
  have hst2 := H.out.st.fr fr2 (fun h => H.out.ne h.symm)
  have HF2 := hide ((HF.out.no (S := fun i => i = b ∨ i = r)).trans' fr2 (fun i hi h => .inl h))
  obtain ⟨h1, rfl, h2⟩ : ((1 : Int) ≤ s.size ∧ e = .returned (.tuple #[.string (s.extract 0 (1 : Int).toNat), .bool true]) ∧ Blk w2 b 9 #[.string (s.extract (1 : Int).toNat s.size)]) := by
    rcases hq with ⟨h1, _⟩ | h
    · omega
    · exact h
  have hR2 : Rdr w2 b r (s.extract 1 s.size) n d := ⟨by simpa using h2, hst2⟩
  obtain ⟨x0, x1, x2, x3, xf, xq⟩ := hR2.cells
  obtain ⟨k0, k1, k2, k3, k4, kf⟩ := hK2.cells5
  have kq := hK2.lt
  obtain ⟨e1, e2⟩ := hd_extract s (by omega)
  have HE1 := hide e1
  have HR := hide hR2
  have HK2 := hide hK2
  clear c0 c1 c2 c3 cf q0 fr2 H HT HK h2 hst2 hK2 e1 hR2
  go_upto_region 7 with fail
  have hbyte : ((s.extract 0 1)[0]'(by omega)).toNat = hdB s := by
    have h0 : 0 < s.data.size := (show 1 ≤ s.size by omega)
    unfold hdB
    congr 1
    show (s.extract 0 1).data[0]'_ = _
    simp [ByteArray.data_extract, h0, Array.getElem?_eq_getElem h0]
  have hnn : ((n : Int) - 1) = ((n - 1 : Nat) : Int) := by omega
  have hR3 : Rdr ((w2.setCell ⟨r, 2, none⟩ (.int .i64 ((n : Int) - 1))).setCell ⟨w.heap.size, 0, none⟩ (.int .u8 (hdB s : Int))) b r (s.extract 1 s.size) ((n - 1 : Nat) : Int) d := by
    rw [hnn]
    exact Rdr.far ⟨HR.out.box.far (HR.out.ne) _, by simpa using HR.out.st.set_ 2 (.int .i64 ((n - 1 : Nat) : Int))⟩ (by omega) (by omega) _
  have hK3 : Blk ((w2.setCell ⟨r, 2, none⟩ (.int .i64 ((n : Int) - 1))).setCell ⟨w.heap.size, 0, none⟩ (.int .u8 (hdB s : Int))) w.heap.size 27 #[.int .u8 (hdB s : Int), .int .i64 0, .string ⟨#[]⟩, .slice none 0 0, .int .i64 0] := by
    have h := (HK2.out.far (p := ⟨r, 2, none⟩) (by show w.heap.size ≠ r; omega) (.int .i64 ((n : Int) - 1))).set_ 0 (.int .u8 (hdB s : Int))
    simpa using h
  have f3 : Fr (fun i => i = b ∨ i = r) w ((w2.setCell ⟨r, 2, none⟩ (.int .i64 ((n : Int) - 1))).setCell ⟨w.heap.size, 0, none⟩ (.int .u8 (hdB s : Int))) := by
    have f := HF2.out
    (repeat (first | with_reducible assumption | with_reducible exact Hid.out ‹_› | with_reducible refine Fr.setNew ?_ (Nat.le_refl _) _ | with_reducible refine Fr.set ?_ (fun _ => .inr rfl) _))
  rw [hk] at hR3 hK3 f3
  rw [hbyte, hk]
  generalize (w2.setCell ⟨r, 2, none⟩ (.int .i64 ((n : Int) - 1))).setCell ⟨w.heap.size, 0, none⟩ (.int .u8 ((3 : Nat) : Int)) = W3 at *
  
  obtain ⟨x0, x1, x2, x3, xf, xq⟩ := hR3.cells
  obtain ⟨k0, k1, k2, k3, k4, kf⟩ := hK3.cells5
  have kq := hK3.lt
  have hnot : ¬ (s.size < 1 ∨ n = 0) := by omega
  have hs1 : (s.extract 1 s.size).size ≤ 4000000 := by rw [ByteArray.size_extract]; omega
  generalize hS : s.extract 1 s.size = s1 at *
  have hpar : parseG g s n = parseK g 3 s1 (n - 1) := by rw [parseG_eq g s n hnot, hk, hS]
  have HPAR := hide hpar
  have HR3 := hide hR3
  have HK3 := hide hK3
  have HF3 := hide f3
  clear hbyte hR3 hK3 f3 hpar hS hnn hnot

  go_wp2_with fail
  refine (number_any b r s1 ((n - 1 : Nat) : Int) d 2 W3 (by decide) HR3.out).mono ?_
  rintro e w4 hq
  obtain ⟨f4, ok, x, s', rfl, hR4, hx, hss, hno, hyes⟩ := hq.cut
  have hK4 := HK3.out.fr f4 (fun h => by have h' : w.heap.size = b := h; omega)
  obtain ⟨k0, k1, k2, k3, k4, kf⟩ := hK4.cells5
  have kq := hK4.lt
  have hx' : x < 65536 := by simpa using hx
  have hwx := i64_nat x (by omega)
  have HF4 := hide (HF3.out.trans' f4 (fun i hi h => .inl h))
  have HK4 := hide hK4
  have HNO := hide hno
  have HYES := hide hyes
  clear x0 x1 x2 x3 xf xq hK4 f4 hq hno hyes hx
  cases ok with
  | false =>
    have hp : parseG g s n = none := by rw [HPAR.out, parseK, if_neg (by decide), if_neg (by decide), if_neg (by decide), if_neg (by decide), if_pos rfl, (HNO.out rfl).2]; rfl
    have HP := hide hp
    clear hp
    go_wp2
    refine bodyPost_ret (v := (.tuple #[.agg #[.int .u8 3, .int .i64 0, .string ⟨#[]⟩, .slice none 0 0, .int .i64 0], .bool false])) (by simp [results, Try.results116, go_sem, *]) rfl ?_
    refine ValP.fail HP.out ?_
    have f := HF4.out
    (repeat (first | with_reducible assumption | with_reducible exact Hid.out ‹_› | with_reducible refine Fr.setNew ?_ (Nat.le_refl _) _ | with_reducible refine Fr.set ?_ (fun _ => .inr rfl) _))
  | true =>
    have HY := hide (HYES.out rfl)
    clear HYES HNO
    rcases hg with ⟨rfl, rfl⟩ | ⟨g', d1, rfl, rfl, hcall, hless⟩
    · have hp : parseG none s n = none := by rw [HPAR.out, parseK, if_neg (by decide), if_neg (by decide), if_neg (by decide), if_neg (by decide), if_pos rfl, HY.out]; rfl
      obtain ⟨x0, x1, x2, x3, xf, xq⟩ := hR4.cells
      have HP := hide hp
      clear hp
      go_wp2
      refine bodyPost_ret (v := (.tuple #[.agg #[.int .u8 3, .int .i64 0, .string ⟨#[]⟩, .slice none 0 0, .int .i64 0], .bool false])) (by simp [results, Try.results116, go_sem, *]) rfl ?_
      refine ValP.fail HP.out ?_
      have f := HF4.out
      (repeat (first | with_reducible assumption | with_reducible exact Hid.out ‹_› | with_reducible refine Fr.setNew ?_ (Nat.le_refl _) _ | with_reducible refine Fr.set ?_ (fun _ => .inr rfl) _))
    · have hd0 : ¬ (((d1 + 1 : Nat) : Int) = 0) := by omega
      obtain ⟨x0, x1, x2, x3, xf, xq⟩ := hR4.cells
      have HCALL := hide hcall
      have HLESS := hide hless
      clear hcall hless
      generalize hdd : ((d1 + 1 : Nat) : Int) = dd at *
      by_cases hm : n - 1 < x
      · have hp : parseG (some g') s n = none := by
          rw [HPAR.out, parseK, if_neg (by decide), if_neg (by decide), if_neg (by decide), if_neg (by decide), if_pos rfl, HY.out]
          show (if n - 1 < x then none else _) = _
          rw [if_pos hm]
        have hm' : ((n - 1 : Nat) : Int) < (x : Int) := by omega
        have HP := hide hp
        clear hp
        go_wp2
        refine bodyPost_ret (v := (.tuple #[.agg #[.int .u8 3, .int .i64 0, .string ⟨#[]⟩, .slice none 0 0, .int .i64 0], .bool false])) (by simp [results, Try.results116, go_sem, *]) rfl ?_
        refine ValP.fail HP.out ?_
        have f := HF4.out
        (repeat (first | with_reducible assumption | with_reducible exact Hid.out ‹_› | with_reducible refine Fr.setNew ?_ (Nat.le_refl _) _ | with_reducible refine Fr.set ?_ (fun _ => .inr rfl) _))
      · have hm' : ¬ ((n - 1 : Nat) : Int) < (x : Int) := by omega
        have HR4 := hide hR4
        have hcW := HK4.out.lt
        have hbW := HR4.out.box.lt
        have hrW := HR4.out.st.lt
        clear hR4
        go_wp2_with fail
        have hdd1 : dd - 1 = (d1 : Int) := by omega
        have hdb : (dd == (0 : Int)) = false := by simpa using hd0
        rw [hdd1, hdb]
        have hK5 := HK4.out.far (p := ⟨r, 3, none⟩) (by show w.heap.size ≠ r; omega) (.int .i64 (d1 : Int))
        have hR5 : Rdr (w4.setCell ⟨r, 3, none⟩ (.int .i64 (d1 : Int))) b r s' ((n - 1 : Nat) : Int) d1 := ⟨HR4.out.box.far (HR4.out.ne) _, by simpa using HR4.out.st.set_ 3 (.int .i64 (d1 : Int))⟩
        have f5 : Fr (fun i => i = b ∨ i = r) w (w4.setCell ⟨r, 3, none⟩ (.int .i64 (d1 : Int))) := by
          have f := HF4.out
          (repeat (first | with_reducible assumption | with_reducible exact Hid.out ‹_› | with_reducible refine Fr.setNew ?_ (Nat.le_refl _) _ | with_reducible refine Fr.set ?_ (fun _ => .inr rfl) _))
        have hsz5 : (w4.setCell ⟨r, 3, none⟩ (.int .i64 (d1 : Int))).heap.size = w4.heap.size := by simp
        generalize w4.setCell ⟨r, 3, none⟩ (.int .i64 (d1 : Int)) = W5 at *
        have hst : LdInv W5 w.heap.size b r d1 x 0 g' s' (n - 1) none 0 [] s' (n - 1) W5 := ⟨Fr.refl _ _, rfl, by simpa using hK5, World.ownsRow_nil _ _ _ _, by simp, hR5, by omega, by omega, by simp⟩
        have HST := hide hst
        have HF5 := hide f5
        clear x0 x1 x2 x3 xf xq k0 k1 k2 k3 k4 kf kq HR4 HK4 HF4 HK3 HF3 hK5 hR5 f5 hst HR3 HR HK2 HF2
        go_loopw [145] (fun i wr => ∃ (j : Nat) (A : Option Addr) (cap : Nat) (l : List T) (s2 : ByteArray) (n2 : Nat), j ≤ x ∧ i = .int .u64 (j : Int) ∧ LdInv W5 w.heap.size b r d1 x j g' s' (n - 1) A cap l s2 n2 wr) (fun i _ => x - (intOf i).toNat)
        case atStart => exact ⟨0, none, 0, [], s', n - 1, Nat.zero_le _, rfl, HST.out⟩
        case round =>
          obtain ⟨j, A, cap, l, s2, n2, hj, rfl, hI⟩ := hrel
          by_cases hlt : j < x
          · have hlt' : (j : Int) < (x : Int) := by omega
            have hcl := HCALL.out s2 n2 b r wr hI.n hI.s hI.rd
            have HCL := hide hcl
            have HI := hide hI
            clear hI hcl
            have hw1 : IntKind.u64.wrap ((j : Int) + 1) = (j : Int) + 1 := by rw [IntKind.wrap_u64]; omega
            go_wp2_with fail
            refine HCL.out.mono ?_
            rintro e w6 hV
            have hcW5 : w.heap.size < W5.heap.size := by omega
            have hbW5 : b < W5.heap.size := by omega
            have hrW5 : r < W5.heap.size := by omega
            have hK6 := HI.out.box.fr hV.fr (fun h => by have h' : w.heap.size = b ∨ w.heap.size = r := h; omega)
            have hs6 := hV.fr.size
            have hs65 := HI.out.fr.size
            have hlen : l.length ≤ 600 := by have := HI.out.len; omega
            have hF6 : Fr (fun i => i = b ∨ i = r) w w6 := (HF5.out.trans' HI.out.fr (fun i hi h => by
              rcases h with h | h
              · exact h
              · exact absurd h (by omega))).trans' hV.fr (fun _ _ h => h)
            have HF6 := hide hF6
            clear hF6
            cases hq : g' s2 n2 with
            | none =>
              obtain ⟨k1, m1, t1, A1, len1, cap1, q1, rfl⟩ := hV.no hq
              have hp : parseG (some g') s n = none := by
                rw [HPAR.out, parseK, if_neg (by decide), if_neg (by decide), if_neg (by decide), if_neg (by decide), if_pos rfl, HY.out]
                show (if n - 1 < x then none else _) = _
                rw [if_neg hm, HI.out.says, show x - j = (x - (j + 1)) + 1 by omega, parseL_none g' _ s2 n2 hq]
                rfl
              obtain ⟨k0, k1', k2, k3, k4, kf⟩ := hK6.cells5
              have kq := hK6.lt
              have HP := hide hp
              clear hp hV hK6 hq
              go_wp2
              refine bodyPost_ret (v := (.tuple #[.agg #[.int .u8 3, .int .i64 0, .string ⟨#[]⟩, .slice A l.length cap, .int .i64 0], .bool false])) (by simp [results, Try.results116, go_sem, *]) rfl ?_
              refine ValP.fail HP.out ?_
              have f := HF6.out
              repeat (first | with_reducible exact f | with_reducible refine Fr.setNew ?_ (Nat.le_refl _) _ | with_reducible refine Fr.alloc ?_ _)
            | some tv =>
              obtain ⟨u, s3, n3⟩ := tv
              obtain ⟨⟨k1, m1, t1, A1, cap1, l1, q1⟩, rfl, rfl, ht, hR6⟩ := hV.yes u s3 n3 hq
              rw [T.val_mk]
              obtain ⟨i0, hi0, hz0, hz1, hz2⟩ := info_parts value_row
              have hown6 := owns_fr HI.out.row hV.fr (fun q hq' h => by have := owns_lt HI.out.row q hq'; have h' : q = b ∨ q = r := h; omega)
              have hol := owns_lt hown6
              have hownA := (hown6.alloc (.cells #[.int .u8 k1, .int .i64 m1, .string t1, .slice A1 l1.length cap1, .int .i64 q1] 27)).alloc (.cells #[.int .u8 k1, .int .i64 m1, .string t1, .slice A1 l1.length cap1, .int .i64 q1] 27)
              have hBW : ∀ w7, ((w6.alloc (.cells #[.int .u8 k1, .int .i64 m1, .string t1, .slice A1 l1.length cap1, .int .i64 q1] 27)).alloc (.cells #[.int .u8 k1, .int .i64 m1, .string t1, .slice A1 l1.length cap1, .int .i64 q1] 27)).grownBy w7 (Value.slice A l.length cap).ownBlock → Blk w7 w.heap.size 27 #[.int .u8 3, .int .i64 0, .string ⟨#[]⟩, .slice A l.length cap, .int .i64 0] := fun w7 hgr =>
                (hgr.block w.heap.size (by simp; omega) (fun h => by have := hol w.heap.size h.symm; omega)).trans ((hK6.alloc _).alloc _)
              obtain ⟨k0, k1', k2, k3, k4, kf⟩ := hK6.cells5
              have kq := hK6.lt
              have HBW := hide hBW
              have HQ := hide hq
              have HLE := hide (HLESS.out _ _ _ _ _ hq)
              have HT6 := hide ht
              have HR6 := hide hR6
              have HFV := hide hV.fr
              have hb5 : W5.heap.size ≤ w6.heap.size := by omega
              clear hV hK6 hq hBW ht hR6 hown6 hol
              go_wp2_with (at_builtin; refine wpList_append_lies _ (by rfl) _ _ _ (by rfl) W5.heap.size 27 i0 _ 5 64 Try.underlying24 hi0 hz0 hz1 hz2 (by rfl) (by omega) _ l.length (rowCells l) (by rfl) hownA ⟨w6.heap.size + 1, 0, none⟩ 1 1 [.int .u8 k1, .int .i64 m1, .string t1, .slice A1 l1.length cap1, .int .i64 q1] (by rfl) (by rfl) (World.news_of_block (Blk.new' _ 27 #[.int .u8 k1, .int .i64 m1, .string t1, .slice A1 l1.length cap1, .int .i64 q1] (by simp))) (by simp [Value.oneCell']) (by omega) (by unfold maxLen; omega) (by omega) (by simp; omega) (w6.heap.size + 1 + 1) (by simp) ?_; intro g2 cap2 w7 hown1 hgrow hat hlt1; have hbw := HBW.out w7 hgrow; obtain ⟨p0, p1, p2, p3, p4, pf⟩ := hbw.cells5; have pq := hbw.lt; clear hbw)
              go_roundw
              case rel => first | exact ⟨j + 1, _, _, l ++ [T.mk k1 m1 t1 A1 cap1 l1 q1], s3, n3, hlt, by go_num, LdInv.push HI.out hcW5 hbW5 hrW5 (by omega) (by omega) hlt HQ.out HLE.out HFV.out HT6.out HR6.out hgrow hown1 (hat.imp id (fun h => by simp; omega))⟩ | ((repeat apply Exists.intro); refine ⟨?_, rfl⟩; exact ⟨j + 1, _, _, l ++ [T.mk k1 m1 t1 A1 cap1 l1 q1], s3, n3, hlt, by go_num, LdInv.push HI.out hcW5 hbW5 hrW5 (by omega) (by omega) hlt HQ.out HLE.out HFV.out HT6.out HR6.out hgrow hown1 (hat.imp id (fun h => by simp; omega))⟩)
              case measure => simp [intOf]; omega
          · have hje : j = x := by omega
            subst hje
            have hcW5 : w.heap.size < W5.heap.size := by omega
            have hbW5 : b < W5.heap.size := by omega
            have hrW5 : r < W5.heap.size := by omega
            obtain ⟨x0, x1, x2, x3, xf, xq⟩ := hI.rd.cells
            obtain ⟨k0, k1, k2, k3, k4, kf⟩ := hI.box.cells5
            have kq := hI.box.lt
            have hd2 : (d1 : Int) + 1 = dd := by omega
            have hp : parseG (some g') s n = some (V.mk 3 0 ⟨#[]⟩ (l.map T.v) 0, s2, n2) := by
              rw [HPAR.out, parseK, if_neg (by decide), if_neg (by decide), if_neg (by decide), if_neg (by decide), if_pos rfl, HY.out]
              show (if n - 1 < j then none else _) = _
              rw [if_neg hm, hI.says, Nat.sub_self]
              simp [parseL]
            have hs65 := hI.fr.size
            have hlen : l.length ≤ 600 := by have := hI.len; omega
            have hT : (T.mk 3 0 ⟨#[]⟩ A cap l 0).In wr W5.heap.size wr.heap.size := owns_row hI.row (lo := W5.heap.size) (hi := wr.heap.size) (fun y hy => by
              obtain ⟨lo, hi, h1, h2, h3, _⟩ := hI.ins y hy
              exact h3.more h1 h2) (by omega) (Nat.le_refl _) (Nat.le_refl _)
            have hFr : Fr (fun i => i = b ∨ i = r) w wr := HF5.out.trans' hI.fr (fun i hi h => by
              rcases h with h | h
              · exact h
              · exact absurd h (by omega))
            have hRd : Rdr (wr.setCell ⟨r, 3, none⟩ (.int .i64 dd)) b r s2 n2 dd := ⟨hI.rd.box.far hI.rd.ne _, by simpa using hI.rd.st.set_ 3 (.int .i64 dd)⟩
            have HP := hide hp
            have HT := hide hT
            have HFr := hide hFr
            have HRd := hide hRd
            clear hp hT hFr hRd hI
            go_wp2
            refine bodyPost_ret (v := (.tuple #[.agg #[.int .u8 3, .int .i64 0, .string ⟨#[]⟩, .slice A l.length cap, .int .i64 0], .bool true])) (by simp [results, Try.results116, go_sem, *]) rfl ?_
            refine ⟨?_, (fun h => by rw [HP.out] at h; cases h), fun u t m h => ?_⟩
            · have f := HFr.out
              (repeat (first | with_reducible assumption | with_reducible exact Hid.out ‹_› | with_reducible refine Fr.setNew ?_ (Nat.le_refl _) _ | with_reducible refine Fr.set ?_ (fun _ => .inr rfl) _))
            · rw [HP.out] at h
              cases h
              refine ⟨T.mk 3 0 ⟨#[]⟩ A cap l 0, by rw [T.v_mk], rfl, ?_, ?_⟩
              · refine (T.In.fr (S := fun i => i = w.heap.size ∨ i = r) HT.out ?_ (Nat.le_refl _) (fun i h0 h1 h2 => by have h2' : i = w.heap.size ∨ i = r := h2; omega)).more (by omega) (by simp)
                repeat (first | with_reducible exact Fr.refl _ _ | with_reducible refine Fr.set ?_ (by simp) _)
              · (repeat (first | with_reducible exact Hid.out ‹_› | with_reducible assumption | with_reducible refine Rdr.far ?_ (by omega) (by omega) _))

end Go.Proofs.Ytihjmipmjogpoaa

/- Chapter 2: the reader's values, all of them. -/
namespace Go.Proofs.Ytihjmipmjogpoaa
open Go.RowKit

theorem cutN_le {s s' : ByteArray} {n x : Nat} (h : cutN s n = some (x, s')) : s'.size ≤ s.size := by
  unfold cutN at h
  split at h
  · injection h with h
    injection h with _ h
    rw [← h, ByteArray.size_extract]
    omega
  · cases h

theorem parseL_le {g : ByteArray → Nat → Got} (hg : ∀ s n u s' n', g s n = some (u, s', n') → s'.size ≤ s.size ∧ n' ≤ n) : ∀ (c : Nat) (s : ByteArray) (n : Nat) (l : List V) (s' : ByteArray) (n' : Nat), parseL g c s n = some (l, s', n') → s'.size ≤ s.size ∧ n' ≤ n := by
  intro c
  induction c with
  | zero => intro s n l s' n' h; simp [parseL] at h; obtain ⟨_, rfl, rfl⟩ := h; omega
  | succ c ih =>
    intro s n l s' n' h
    cases hq : g s n with
    | none => rw [parseL_none g c s n hq] at h; cases h
    | some q =>
      obtain ⟨u, s1, n1⟩ := q
      rw [parseL_step g c s n _ hq] at h
      cases hp : parseL g c s1 n1 with
      | none => simp [hp] at h
      | some y =>
        obtain ⟨l2, s2, n2⟩ := y
        simp [hp] at h
        obtain ⟨_, rfl, rfl⟩ := h
        have h1 := hg _ _ _ _ _ hq
        have h2 := ih _ _ _ _ _ hp
        omega

theorem parseG_le {g : Option (ByteArray → Nat → Got)} (hg : ∀ g', g = some g' → ∀ s n u s' n', g' s n = some (u, s', n') → s'.size ≤ s.size ∧ n' ≤ n) (s : ByteArray) (n : Nat) (u : V) (s' : ByteArray) (n' : Nat) (h : parseG g s n = some (u, s', n')) : s'.size ≤ s.size ∧ n' ≤ n := by
  by_cases h0 : s.size < 1 ∨ n = 0
  · unfold parseG at h; rw [if_pos h0] at h; cases h
  rw [parseG_eq g s n h0] at h
  have hs : (s.extract 1 s.size).size ≤ s.size := by rw [ByteArray.size_extract]; omega
  generalize s.extract 1 s.size = s1 at *
  generalize hdB s = k at *
  unfold parseK at h
  split at h
  · injection h with h; cases h; omega
  split at h
  · cases hc : cutN s1 8 with
    | none => simp [hc] at h
    | some q => obtain ⟨x, s2⟩ := q; have := cutN_le hc; simp [hc] at h; obtain ⟨_, rfl, rfl⟩ := h; omega
  split at h
  · cases hc : cutN s1 4 with
    | none => simp [hc] at h
    | some q => obtain ⟨x, s2⟩ := q; have := cutN_le hc; simp [hc] at h; obtain ⟨_, _, rfl, rfl⟩ := h; omega
  split at h
  · cases hc : cutN s1 2 with
    | none => simp [hc] at h
    | some q =>
      obtain ⟨x, s2⟩ := q
      have := cutN_le hc
      simp [hc] at h
      obtain ⟨_, _, rfl, rfl⟩ := h
      rw [ByteArray.size_extract]
      omega
  split at h
  · cases hc : cutN s1 2 with
    | none => simp [hc] at h
    | some q =>
      obtain ⟨x, s2⟩ := q
      have := cutN_le hc
      cases g with
      | none => simp [hc] at h
      | some g' =>
        simp [hc] at h
        obtain ⟨_, l, hp, _⟩ := h
        have := parseL_le (hg g' rfl) _ _ _ _ _ _ hp
        omega
  · cases h

theorem parse_le (d : Nat) : ∀ (s : ByteArray) (n : Nat) (u : V) (s' : ByteArray) (n' : Nat), parse d s n = some (u, s', n') → s'.size ≤ s.size ∧ n' ≤ n := by
  induction d with
  | zero => exact parseG_le (g := none) (fun _ h => by cases h)
  | succ d ih => exact parseG_le (g := some (parse d)) (fun g' h => by injection h with h; subst h; exact ih)

theorem hdB_pos {s : ByteArray} (h : hdB s = 3) : 1 ≤ s.size := by
  rcases Nat.lt_or_ge s.size 1 with h0 | h0
  · have h1 : s.data.toList = [] := List.eq_nil_of_length_eq_zero (by rw [Array.length_toList]; exact Nat.lt_one_iff.1 h0)
    simp [hdB, h1] at h
  · exact h0

theorem value_any (d : Nat) : d ≤ 16 → ∀ (s : ByteArray) (n b r : Nat) (w : World), n ≤ 512 → s.size ≤ 4000000 → Rdr w b r s n d → Calls Try.prog 116 #[.pointer (some ⟨r, 0, none⟩)] w (ValP b r (parse d s n) d w) := by
  induction d with
  | zero =>
    intro _ s n b r w hn hs h
    by_cases h3 : n = 0 ∨ hdB s ≠ 3
    · exact value_leaf none b r s n _ w hn (by decide) (by decide) hs h h3
    · have h4 : hdB s = 3 := by omega
      exact value_list none b r s n 0 w hn (by decide) hs (hdB_pos h4) (by omega) h h4 (.inl ⟨rfl, rfl⟩)
  | succ d ih =>
    intro hd s n b r w hn hs h
    by_cases h3 : n = 0 ∨ hdB s ≠ 3
    · exact value_leaf (some (parse d)) b r s n _ w hn (by omega) (by omega) hs h h3
    · have h4 : hdB s = 3 := by omega
      exact value_list (some (parse d)) b r s n (d + 1) w hn hd hs (hdB_pos h4) (by omega) h h4 (.inr ⟨parse d, d, rfl, rfl, ih (by omega), parse_le d⟩)

end Go.Proofs.Ytihjmipmjogpoaa

/- Chapter 2: Front. -/
namespace Go.Proofs.Ytihjmipmjogpoaa
open Go.RowKit

/-- What Front leaves. -/
structure FrontP (s : ByteArray) (w : World) (e : Ending) (w' : World) : Prop where
  fr : Fr No w w'
  no : parse 16 s 512 = none → e = .returned (.tuple #[.agg #[.int .u8 0, .int .i64 0, .string ⟨#[]⟩, .slice none 0 0, .int .i64 0], .string ⟨#[]⟩, .int .i64 20])
  yes : ∀ u s' n', parse 16 s 512 = some (u, s', n') → ∃ t : T, t.v = u ∧ e = .returned (.tuple #[t.val, .string s', .int .i64 0]) ∧ t.In w' w.heap.size w'.heap.size

set_option maxRecDepth 100000 in
set_option maxHeartbeats 4000000 in
theorem Front_any (s : ByteArray) (w : World) (hs : s.size ≤ 4000000) : Calls Try.prog 51 #[.string s] w (FrontP s w) := by
  have hO := rover_any s
  have fr1 := (Fr.refl No w).alloc (.cells #[.int .u8 0, .int .i64 0, .string ⟨#[]⟩, .slice none 0 0, .int .i64 0] 27)
  have hK := Blk.new' w 27 #[.int .u8 0, .int .i64 0, .string ⟨#[]⟩, .slice none 0 0, .int .i64 0] rfl
  have hsz : (w.alloc (.cells #[.int .u8 0, .int .i64 0, .string ⟨#[]⟩, .slice none 0 0, .int .i64 0] 27)).heap.size = w.heap.size + 1 := by simp
  go_enter Try.func51, Try.ntmps51
  go_wp2_with fail
  generalize World.alloc w _ = W0 at *
  refine (hO W0).mono ?_
  rintro e w2 ⟨rfl, hR, f2⟩
  rw [hsz] at hR ⊢
  have hV := value_any 16 (by decide) s 512 _ _ w2 (by decide) hs hR
  have HV := hide hV
  have hK2 := hK.fr f2 (fun h => h)
  have HK2 := hide hK2
  have HF2 := hide (fr1.trans f2)
  have hs2 := f2.size
  have HR := hide hR
  clear hV hK hK2 fr1 f2 hO hR
  go_wp2_with fail
  refine HV.out.mono ?_
  rintro e w3 hq
  have f3 : Fr No w w3 := HF2.out.trans' hq.fr (fun i hi h => by have h' : i = w.heap.size + 1 ∨ i = w.heap.size + 1 + 1 := h; omega)
  have hK3 := HK2.out.fr hq.fr (fun h => by have h' : w.heap.size = w.heap.size + 1 ∨ w.heap.size = w.heap.size + 1 + 1 := h; omega)
  have hs3 := hq.fr.size
  have hW : ∀ (k m q : Int) (t : ByteArray) (A : Option Addr) (len cap : Nat), ∃ W, (((((w3.setCell ⟨w.heap.size, 0, none⟩ (.int .u8 k)).setCell ⟨w.heap.size, 1, none⟩ (.int .i64 m)).setCell ⟨w.heap.size, 2, none⟩ (.string t)).setCell ⟨w.heap.size, 3, none⟩ (.slice A len cap)).setCell ⟨w.heap.size, 4, none⟩ (.int .i64 q)) = W ∧
      Blk W w.heap.size 27 #[.int .u8 k, .int .i64 m, .string t, .slice A len cap, .int .i64 q] ∧ Fr (fun i => i = w.heap.size) w3 W ∧ W.heap.size = w3.heap.size := fun k m q t A len cap =>
    ⟨_, rfl, by simpa using hK3.five 0 (.int .u8 k) (.int .i64 m) (.string t) (.slice A len cap) (.int .i64 q), (Fr.refl (fun i => i = w.heap.size) w3).five (fun _ => rfl) 0 _ _ _ _ _, by simp⟩
  cases hp : parse 16 s 512 with
  | none =>
    obtain ⟨k1, m1, t1, A1, len1, cap1, q1, rfl⟩ := hq.no hp
    obtain ⟨W, hWe, hKW, fW, hsW⟩ := hW k1 m1 q1 t1 A1 len1 cap1
    obtain ⟨k0, k1', k2, k3, k4, kf⟩ := hK3.cells5
    have kq := hK3.lt
    have HF3 := hide (f3.trans' fW (fun i hi h => by have h' : i = w.heap.size := h; omega))
    have HP := hide hp
    have HKW := hide hKW
    have HWE := hide hWe
    clear hq hp hK3 f3 hW hKW hWe fW
    go_upto_region 3 with fail
    rw [HWE.out]
    obtain ⟨k0, k1', k2, k3, k4, kf⟩ := HKW.out.cells5
    have kq := HKW.out.lt
    go_wp2
    refine bodyPost_ret (v := (.tuple #[.agg #[.int .u8 0, .int .i64 0, .string ⟨#[]⟩, .slice none 0 0, .int .i64 0], .string ⟨#[]⟩, .int .i64 20])) (by simp [results, Try.results51, go_sem, *]) rfl ?_
    refine ⟨?_, fun _ => rfl, (fun _ _ _ h => by rw [HP.out] at h; cases h)⟩
    have f := HF3.out
    repeat (first | with_reducible exact f | with_reducible refine Fr.setNew ?_ (Nat.le_refl _) _)
  | some tv =>
    obtain ⟨u, s3, n3⟩ := tv
    obtain ⟨⟨k1, m1, t1, A1, cap1, l1, q1⟩, rfl, rfl, ht, hR6⟩ := hq.yes u s3 n3 hp
    rw [T.val_mk]
    obtain ⟨W, hWe, hKW, fW, hsW⟩ := hW k1 m1 q1 t1 A1 l1.length cap1
    obtain ⟨k0, k1', k2, k3, k4, kf⟩ := hK3.cells5
    have kq := hK3.lt
    have HF3 := hide (f3.trans' fW (fun i hi h => by have h' : i = w.heap.size := h; omega))
    have HP := hide hp
    have HT := hide (ht.fr fW (Nat.le_refl _) (fun i h0 h1 h2 => by have h' : i = w.heap.size := h2; omega))
    have hRW := hR6.fr fW (fun h => by have h' : w.heap.size + 1 = w.heap.size := h; omega) (fun h => by have h' : w.heap.size + 1 + 1 = w.heap.size := h; omega)
    have HRW := hide hRW
    have HKW := hide hKW
    have HWE := hide hWe
    clear hq hp hK3 f3 ht hR6 hW hKW hWe fW hRW
    go_upto_region 3 with fail
    rw [HWE.out]
    obtain ⟨k0, k1', k2, k3, k4, kf⟩ := HKW.out.cells5
    have kq := HKW.out.lt
    obtain ⟨x0, x1, x2, x3, xf, xq⟩ := HRW.out.cells
    have hB := HRW.out.box
    clear HWE
    go_wp2_with fail
    go_region_with (go_at_call 142; (refine (rrest_any _ s3 _ ?_).mono ?_); (first | exact hB | exact hB.drew); rintro e w4 ⟨rfl, hw4⟩; subst hw4)
    all_goals
      go_simp
      go_wp2
      refine bodyPost_ret (v := (.tuple #[.agg #[.int .u8 k1, .int .i64 m1, .string t1, .slice A1 l1.length cap1, .int .i64 q1], .string s3, .int .i64 0])) (by simp [results, Try.results51, go_sem, *]) rfl ?_
      refine ⟨?_, (fun h => by rw [HP.out] at h; cases h), fun u s' n' h => ?_⟩
      · have f := HF3.out
        repeat (first | with_reducible exact f | with_reducible refine Fr.setNew ?_ (Nat.le_refl _) _ | with_reducible refine Fr.drew ?_)
      · rw [HP.out] at h
        cases h
        refine ⟨T.mk k1 m1 t1 A1 cap1 l1 q1, rfl, rfl, ?_⟩
        refine (T.In.fr (S := fun i => i = w.heap.size) HT.out ?_ (by omega) (fun i h0 h1 h2 => by have h' : i = w.heap.size := h2; omega)).more (by omega) (by simp; omega)
        repeat (first | with_reducible exact Fr.refl _ _ | with_reducible refine Fr.set ?_ (by simp) _ | with_reducible refine Fr.drew ?_)

end Go.Proofs.Ytihjmipmjogpoaa

/- Chapter 2: Read. -/
namespace Go.Proofs.Ytihjmipmjogpoaa
open Go.RowKit

abbrev zeroVal : Value := .agg #[.int .u8 0, .int .i64 0, .string ⟨#[]⟩, .slice none 0 0, .int .i64 0]

/-- What Read leaves. -/
structure ReadP (s : ByteArray) (w : World) (e : Ending) (w' : World) : Prop where
  fr : Fr No w w'
  big : 262144 < s.size → e = .returned (.tuple #[zeroVal, .int .i64 4])
  no : s.size ≤ 262144 → (∀ u n', parse 16 s 512 ≠ some (u, ⟨#[]⟩, n')) → e = .returned (.tuple #[zeroVal, .int .i64 20])
  yes : ∀ u n', s.size ≤ 262144 → parse 16 s 512 = some (u, ⟨#[]⟩, n') → ∃ t : T, t.v = u ∧ e = .returned (.tuple #[t.val, .int .i64 0]) ∧ t.In w' w.heap.size w'.heap.size

theorem notEmpty {s : ByteArray} (h : ¬ s = ⟨#[]⟩) : s.toList.isEmpty = false := by
  cases s with
  | mk a =>
    rw [Lib.toList_data]
    cases hl : a.toList with
    | nil => exact absurd (by rw [show a = #[] from by simpa using hl]) h
    | cons x l => rfl

set_option maxRecDepth 100000 in
set_option maxHeartbeats 4000000 in
theorem Read_any (s : ByteArray) (w : World) : Calls Try.prog 48 #[.string s] w (ReadP s w) := by
  have fr1 := (Fr.refl No w).alloc (.cells #[.int .u8 0, .int .i64 0, .string ⟨#[]⟩, .slice none 0 0, .int .i64 0] 27)
  have hK := Blk.new' w 27 #[.int .u8 0, .int .i64 0, .string ⟨#[]⟩, .slice none 0 0, .int .i64 0] rfl
  by_cases hbig : 262144 < s.size
  · have hb' : (262144 : Int) < (s.size : Int) := by omega
    go_enter Try.func48, Try.ntmps48
    go_wp2
    refine bodyPost_ret (v := (.tuple #[.agg #[.int .u8 0, .int .i64 0, .string ⟨#[]⟩, .slice none 0 0, .int .i64 0], .int .i64 4])) (by simp [results, Try.results48, go_sem, *]) rfl ?_
    refine ⟨?_, fun _ => rfl, (fun h => by omega), (fun _ _ h => by omega)⟩
    repeat (first | with_reducible exact fr1 | with_reducible refine Fr.setNew ?_ (Nat.le_refl _) _)
  · have hb' : ¬ (262144 : Int) < (s.size : Int) := by omega
    have hF := fun w => Front_any s w (by omega)
    have hsz : (w.alloc (.cells #[.int .u8 0, .int .i64 0, .string ⟨#[]⟩, .slice none 0 0, .int .i64 0] 27)).heap.size = w.heap.size + 1 := by simp
    go_enter Try.func48, Try.ntmps48
    go_wp2_with fail
    generalize World.alloc w _ = W0 at *
    refine (hF W0).mono ?_
    rintro e w2 hq
    have hK2 := hK.fr hq.fr (fun h => h)
    have hs2 := hq.fr.size
    have HF2 := hide (fr1.trans hq.fr)
    obtain ⟨k0, k1, k2, k3, k4, kf⟩ := hK2.cells5
    have kq := hK2.lt
    cases hp : parse 16 s 512 with
    | none =>
      have he := hq.no hp
      subst he
      have HP := hide hp
      clear hq hp hF hK hK2 fr1
      go_wp2
      refine bodyPost_ret (v := (.tuple #[.agg #[.int .u8 0, .int .i64 0, .string ⟨#[]⟩, .slice none 0 0, .int .i64 0], .int .i64 20])) (by simp [results, Try.results48, go_sem, *]) rfl ?_
      refine ⟨?_, (fun h => absurd h hbig), fun _ _ => rfl, (fun _ _ _ h => by rw [HP.out] at h; cases h)⟩
      have f := HF2.out
      repeat (first | with_reducible exact f | with_reducible refine Fr.setNew ?_ (by first | (simp; done) | (simp; omega)) _ | with_reducible refine Fr.alloc ?_ _)
    | some tv =>
      obtain ⟨u, s3, n3⟩ := tv
      obtain ⟨⟨k1, m1, t1, A1, cap1, l1, q1⟩, rfl, rfl, ht⟩ := hq.yes u s3 n3 hp
      rw [T.val_mk]
      have HP := hide hp
      have HT := hide ht
      clear hq hp hF hK hK2 fr1 ht
      by_cases hs3 : s3 = ⟨#[]⟩
      · subst hs3
        go_wp2
        refine bodyPost_ret (v := (.tuple #[.agg #[.int .u8 k1, .int .i64 m1, .string t1, .slice A1 l1.length cap1, .int .i64 q1], .int .i64 0])) (by simp [results, Try.results48, go_sem, *]) rfl ?_
        refine ⟨?_, (fun h => absurd h hbig), (fun _ h => absurd HP.out (h _ _)), fun u n' _ h => ?_⟩
        · have f := HF2.out
          repeat (first | with_reducible exact f | with_reducible refine Fr.setNew ?_ (by first | (simp; done) | (simp; omega)) _ | with_reducible refine Fr.alloc ?_ _)
        · rw [HP.out] at h
          cases h
          refine ⟨T.mk k1 m1 t1 A1 cap1 l1 q1, rfl, rfl, ?_⟩
          refine (T.In.fr (S := fun i => i = w.heap.size) HT.out ?_ (by omega) (fun i h0 h1 h2 => by have h' : i = w.heap.size := h2; omega)).more (by omega) (by simp)
          repeat (first | with_reducible exact Fr.refl _ w2 | with_reducible refine Fr.set ?_ (by simp) _ | with_reducible refine Fr.alloc ?_ _)
      · have hs4 : s3.toList.isEmpty = false := notEmpty hs3
        go_wp2
        refine bodyPost_ret (v := (.tuple #[.agg #[.int .u8 0, .int .i64 0, .string ⟨#[]⟩, .slice none 0 0, .int .i64 0], .int .i64 20])) (by simp [results, Try.results48, go_sem, *]) rfl ?_
        refine ⟨?_, (fun h => absurd h hbig), fun _ _ => rfl, (fun _ _ _ h => by rw [HP.out] at h; cases h; exact absurd rfl hs3)⟩
        have f := HF2.out
        repeat (first | with_reducible exact f | with_reducible refine Fr.setNew ?_ (by first | (simp; done) | (simp; omega)) _ | with_reducible refine Fr.alloc ?_ _)

end Go.Proofs.Ytihjmipmjogpoaa

/- Chapter 2: Parts. -/
namespace Go.Proofs.Ytihjmipmjogpoaa
open Go.RowKit

theorem Parts_any (t : T) (w : World) (lo hi : Nat) (ht : t.In w lo hi) (hh : hi ≤ w.heap.size) :
    Calls Try.prog 56 #[t.val] w fun e w' => e = .returned (.int .i64 (t.v.meas : Int)) ∧ Fr No w w' := by
  have IH := fun w' h h' => measure_any t w' lo hi h h'
  cases t with
  | mk k n s A cap l r =>
    rw [T.val_mk] at *
    generalize (T.mk k n s A cap l r).v.meas = z at *
    go_enter Try.func56, Try.ntmps56
    go_wp2_with fail
    refine (IH _ (ht.no ((Fr.refl No w).alloc _) hh) (by simp; omega)).mono ?_
    rintro e w2 ⟨rfl, fr2⟩
    go_wp2
    go_ret
    exact ⟨rfl, ((Fr.refl No w).alloc _).trans fr2⟩

end Go.Proofs.Ytihjmipmjogpoaa

/- Chapter 2: Each: the function that it gives. -/
namespace Go.Proofs.Ytihjmipmjogpoaa
open Go.RowKit

/-- What Each gives. -/
structure EachP (v : V) (w : World) (e : Ending) (w' : World) : Prop where
  fr : Fr No w w'
  no : v.may = false → e = .returned (.func (.func 103) #[] #[])
  yes : v.may = true → ∃ (k n : Int) (s : ByteArray) (A : Option Addr) (cap : Nat) (l : List T) (r : Int), e = .returned (.func (.func 105) #[] #[.pointer (some ⟨w.heap.size, 0, none⟩)]) ∧
    (T.mk k n s A cap l r).v = v ∧ Blk w' w.heap.size 27 #[.int .u8 k, .int .i64 n, .string s, .slice A l.length cap, .int .i64 r] ∧ (T.mk k n s A cap l r).In w' (w.heap.size + 1) w'.heap.size

theorem Each_no (t : T) (w : World) (lo hi : Nat) (ht : t.In w lo hi) (hh : hi ≤ w.heap.size) (hm : t.v.may = false) : Calls Try.prog 41 #[t.val] w (EachP t.v w) := by
  have hM := fun w' h h' => may_any t w' lo hi h h'
  rw [hm] at hM
  cases t with
  | mk k n s A cap l r =>
    rw [T.val_mk] at *
    generalize (T.mk k n s A cap l r).v = u at *
    go_enter Try.func41, Try.ntmps41
    go_wp2_with fail
    refine (hM _ (ht.no ((Fr.refl No w).alloc _) hh) (by simp; omega)).mono ?_
    rintro e w2 ⟨rfl, fr2⟩
    have HM := hide hm
    clear hm hM
    go_wp2
    go_ret
    exact ⟨((Fr.refl No w).alloc _).trans fr2, fun _ => rfl, fun h => by rw [HM.out] at h; cases h⟩

end Go.Proofs.Ytihjmipmjogpoaa

/- Chapter 2: Each: of a value that may be. -/
namespace Go.Proofs.Ytihjmipmjogpoaa
open Go.RowKit

set_option maxHeartbeats 1000000 in
theorem Each_yes (t : T) (w : World) (lo hi : Nat) (ht : t.In w lo hi) (hh : hi ≤ w.heap.size) (hm : t.v.may = true) : Calls Try.prog 41 #[t.val] w (EachP t.v w) := by
  have hM := fun w' h h' => may_any t w' lo hi h h'
  have hO := own_any t
  rw [hm] at hM
  cases t with
  | mk k n s A cap l r =>
    rw [T.val_mk] at *
    have fr1 := (Fr.refl No w).alloc (.cells #[.int .u8 k, .int .i64 n, .string s, .slice A l.length cap, .int .i64 r] 27)
    have hK := Blk.new' w 27 #[.int .u8 k, .int .i64 n, .string s, .slice A l.length cap, .int .i64 r] rfl
    have ht1 := ht.no fr1 hh
    have hs1 := Nat.le_trans hh fr1.size
    have hsz : (w.alloc (.cells #[.int .u8 k, .int .i64 n, .string s, .slice A l.length cap, .int .i64 r] 27)).heap.size = w.heap.size + 1 := by simp
    generalize (T.mk k n s A cap l r).v = u at *
    go_enter Try.func41, Try.ntmps41
    go_wp2_with fail
    generalize World.alloc w _ = W0 at *
    refine (hM _ ht1 hs1).mono ?_
    rintro e w2 ⟨rfl, fr2⟩
    have hK2 := hK.fr fr2 fun h => h
    obtain ⟨c0, c1, c2, c3, c4, cf⟩ := hK2.cells5
    have q0 := hK2.lt
    have hO2 := hO w2 lo hi (ht1.no fr2 hs1) (Nat.le_trans hs1 fr2.size)
    have HO := hide hO2
    have HM := hide hm
    have HF := hide (fr1.trans fr2)
    have HK := hide hK2
    have hs2 := fr2.size
    clear hm hM hO hO2 fr1 fr2 hK hK2 ht ht1
    go_wp2_with fail
    refine HO.out.mono ?_
    rintro e w4 ⟨⟨k3, n3, s3, A3, cap3, l3, r3⟩, rfl, hv3, how, fr4⟩
    rw [T.val_mk]
    have hK4 := HK.out.fr fr4 fun h => h
    obtain ⟨d0, d1, d2, d3, d4, df⟩ := hK4.cells5
    have q4 := hK4.lt
    have HF4 := hide (HF.out.trans fr4)
    have HOW := hide how
    have HV := hide hv3
    have HK4 := hide hK4
    clear hK4 fr4 how hv3 c0 c1 c2 c3 c4 cf
    go_wp2
    go_ret
    refine ⟨?_, (fun h => by rw [HM.out] at h; cases h), fun _ => ⟨k3, n3, s3, A3, cap3, l3, r3, rfl, HV.out, ?_, ?_⟩⟩
    · have f := HF4.out
      repeat (first | with_reducible exact f | with_reducible refine Fr.setNew ?_ (Nat.le_refl _) _)
    · simpa using HK4.out.five 0 (.int .u8 k3) (.int .i64 n3) (.string s3) (.slice A3 l3.length cap3) (.int .i64 r3)
    · refine (T.In.fr (S := fun i => i = w.heap.size) HOW.out.inn ?_ (Nat.le_refl _) (fun i h0 h1 h2 => by have h' : i = w.heap.size := h2; omega)).more (by omega) (by simp)
      repeat (first | with_reducible exact Fr.refl _ w4 | with_reducible refine Fr.set ?_ (by simp) _)

end Go.Proofs.Ytihjmipmjogpoaa

/- Chapter 2: the closed value of awake. -/
namespace Go.Proofs.Ytihjmipmjogpoaa
open Go.RowKit

/-- The value that awake builds. -/
def awV : V := .mk 3 0 ⟨#[]⟩ [.mk 1 1 ⟨#[]⟩ [] 0, .mk 3 0 ⟨#[]⟩ [.mk 4 0 ⟨#[]⟩ [] 7] 0] 0
def awB : List Nat := [3, 0, 2, 1, 128, 0, 0, 0, 0, 0, 0, 1, 3, 0, 1, 4, 0, 0, 0, 7]
def awS : ByteArray := ⟨#[3, 0, 2, 1, 128, 0, 0, 0, 0, 0, 0, 1, 3, 0, 1, 4, 0, 0, 0, 7]⟩

theorem aw_enc : awV.enc = awB := by simp [awV, awB, V.enc_mk, hiB]
theorem aw_parse : parse 16 awS 512 = some (awV, ⟨#[]⟩, 508) := by
  rfl

end Go.Proofs.Ytihjmipmjogpoaa

/- Texts joined: S16, S17, A3, S19, S21. -/
import Derived.Test.YtihjmipmjogpoaaJn13
/- Chapter 2: the document's answer: Sort. -/
namespace Go.Proofs.Ytihjmipmjogpoaa
open Go.RowKit

/-- Where the document's sorting stands. -/
structure RS (w : World) (l : List T) (i : Nat) (A : Option Addr) (cap : Nat) (C : List T) (wr : World) : Prop where
  len : C.length = i
  perm : C.Perm (l.take i)
  srt : C.Pairwise leT
  own : wr.ownsRow w.heap.size 27 5 (.slice A i cap) i (rowCells C)
  fr : Fr No w wr

/-- What the document's Sort answers. -/
def RSortP (l : List T) (w : World) (e : Ending) (w' : World) : Prop :=
  ((l.map T.v).all V.may = true → ∃ A cap C, e = .returned (.tuple #[.slice A C.length cap, .int .i64 0]) ∧ C.Perm l ∧ C.Pairwise leT ∧ w'.ownsRow w.heap.size 27 5 (.slice A C.length cap) C.length (rowCells C) ∧ Fr No w w') ∧
    ((l.map T.v).all V.may = false → e = .returned (.tuple #[.slice none 0 0, .int .i64 2]) ∧ Fr No w w')

theorem RS.next {w : World} {l : List T} {i : Nat} {A : Option Addr} {cap : Nat} {C : List T} {wr w2 : World} (h : RS w l i A cap C wr) {x : T} (hx : l[i]? = some x) {k : Nat} (hk : k ≤ i) (hl : k = 0 ∨ ∃ y, C[k - 1]? = some y ∧ leT y x) (hu : ∀ y ∈ C.drop k, leT x y)
    {g cp : Nat} (hr : Rw w2 w.heap.size g cp (C.take k ++ x :: C.drop k)) (f : Fr No w w2) : RS w l (i + 1) (some ⟨g, 0, none⟩) cp (C.take k ++ x :: C.drop k) w2 := by
  have hlen : (C.take k ++ x :: C.drop k).length = i + 1 := by have := h.len; simp; omega
  have hins := insert_row (s := k) (x := x) h.srt hl (by
    by_cases h' : C.length ≤ k
    · exact .inl h'
    · refine .inr ⟨C[k], List.getElem?_eq_getElem _, hu _ ?_⟩
      rw [List.drop_eq_getElem_cons (by omega)]
      exact List.mem_cons_self)
  obtain ⟨hi, rfl⟩ := List.getElem?_eq_some_iff.1 hx
  refine ⟨hlen, ?_, hins.1, by have := hr; unfold Rw at this; rw [hlen] at this; exact this, f⟩
  rw [List.take_succ_eq_append_getElem hi]
  refine hins.2.trans ?_
  refine (h.perm.cons _).trans ?_
  exact (List.perm_append_singleton _ _).symm

set_option maxRecDepth 100000 in
set_option maxHeartbeats 8000000 in
theorem refSort_any (A : Option Addr) (cap : Nat) (l : List T) (hl : l.length ≤ 1000000) (w : World) (lo hj : Nat) (ht : (T.row A cap l).In w lo hj) (hh : hj ≤ w.heap.size) :
    Calls Try.prog 77 #[.slice A l.length cap] w (RSortP l w) := by
  have hA := fun w' h h' => refMayAll_any A cap l w' lo hj h h'
  have hO := reforder_any
  obtain ⟨i0, hi0, hz0, hz1, hz2⟩ := info_parts value_info
  cases ha : (l.map T.v).all V.may with
  | false =>
    rw [ha] at hA
    have HA := hide ha
    clear ha hO hi0 hz0 hz1 hz2
    go_enter Try.func77, Try.ntmps77
    go_wp2_with fail
    refine (hA w ht hh).mono ?_
    rintro e w2 ⟨rfl, f2⟩
    have HF := hide f2
    clear hA ht f2
    go_wp2
    go_ret2
    refine ⟨fun h => ?_, fun _ => ⟨rfl, HF.out⟩⟩
    rw [HA.out] at h; cases h
  | true =>
    rw [ha] at hA
    have HA := hide ha
    have HO := hide hO
    have hok : ∀ x ∈ l, x.v.ok = true := fun x hx => may_ok (List.all_eq_true.1 ha x.v (List.mem_map_of_mem hx))
    have HOK := hide hok
    clear ha hO hok
    go_enter Try.func77, Try.ntmps77
    go_wp2_with fail
    refine (hA w ht hh).mono ?_
    rintro e w2 ⟨rfl, f2⟩
    have HF := hide f2
    have HT := hide ht
    clear hA ht f2
    go_wp2_with fail
    go_loopw [4, 5] (fun v s wr => ∃ (i : Nat) (A2 : Option Addr) (cap2 : Nat) (C : List T), i ≤ l.length ∧ s = .int .i64 i ∧ v = .slice A2 i cap2 ∧ RS w l i A2 cap2 C wr) (fun _ s _ => l.length - (intOf s).toNat)
    case atStart => exact ⟨0, none, 0, [], Nat.zero_le _, rfl, rfl, rfl, by simp, .nil, World.ownsRow_nil _ _ _ _, HF.out⟩
    case round =>
      obtain ⟨i, A2, cap2, C, hi, rfl, rfl, inv⟩ := hrel
      by_cases hlt : i < l.length
      · obtain ⟨b, o, kx, nx, sx, Ax, capx, lx, rx, rfl, hb0, hb1, hx, hin, e0, e1, e2, e3, e4⟩ := T.elem (HT.out.no inv.fr hh) hlt
        have hs := inv.fr.size
        have g0 : b < wr.heap.size := by omega
        have hwb : b < w.heap.size := by omega
        have hii : (i : Int) ≤ 1000000 := by omega
        have hxl : l[i]? = some (T.mk kx nx sx Ax capx lx rx) := by rw [List.getElem?_eq_getElem hlt, hx]
        have HI := hide inv
        have HX := hide hx
        have HXL := hide hxl
        clear inv hx hin e0 e1 e2 e3 e4 hxl
        obtain ⟨wo, rfl⟩ : ∃ wo : World, wo = wr := ⟨_, rfl⟩
        go_wp2_with fail
        go_loopw [6] (fun s wr => ∃ k : Nat, s = .int .i64 k ∧ k ≤ i ∧ (∀ y ∈ C.drop k, leT (T.mk kx nx sx Ax capx lx rx) y) ∧ Fr No wo wr) (fun s _ => (intOf s).toNat)
        case atStart => exact ⟨i, rfl, Nat.le_refl _, by rw [List.drop_of_length_le (by have := HI.out.len; omega)]; simp, Fr.refl _ _⟩
        case round =>
          obtain ⟨k, rfl, hk, hu, fr⟩ := hrel
          have hki : (k : Int) ≤ 1000000 := by omega
          have hinT := HT.out.no (HI.out.fr.trans fr) hh
          have hsz := fr.size
          have g1 : b < wr.heap.size := by omega
          by_cases hk0 : 0 < k
          · obtain ⟨g, c0, hvv, -⟩ := HI.out.own.form (by omega)
            simp only [Value.slice.injEq, true_and] at hvv
            obtain ⟨rfl, rfl⟩ := hvv
            obtain ⟨k1, hk1⟩ : ∃ k1, k = k1 + 1 := ⟨k - 1, by omega⟩
            have hCl := HI.out.len
            obtain ⟨y, hy⟩ : ∃ y, C[k1]? = some y := ⟨_, List.getElem?_eq_getElem (by omega)⟩
            have hmem : y ∈ l := List.mem_of_mem_take (HI.out.perm.mem_iff.1 (List.mem_of_getElem? hy))
            have hyin := (T.in_mk.1 hinT).2.2 y hmem
            have hxm : T.mk kx nx sx Ax capx lx rx ∈ l := List.mem_of_getElem? HXL.out
            have hxin := (T.in_mk.1 hinT).2.2 _ hxm
            have hcmp := fun w2 (f : Fr No wr w2) => HO.out y (T.mk kx nx sx Ax capx lx rx) w2 lo hj lo hj (hyin.no f (by omega)) (by have := f.size; omega) (hxin.no f (by omega)) (by have := f.size; omega) (HOK.out y hmem) (HOK.out _ hxm)
            obtain ⟨e0, e1, e2, e3, e4⟩ := T.cells_at hinT hlt HX.out
            have hr1 := owns_fr HI.out.own fr (fun _ _ h => h)
            have HY := hide hy
            obtain ⟨ky, ny, sy, Ay, cy, ly, ry⟩ := y
            obtain ⟨p0, p1, p2, p3, p4, pf, pl⟩ := owns_five hr1 hy
            have hdrop : C.drop k1 = T.mk ky ny sy Ay cy ly ry :: C.drop k := by
              obtain ⟨hq, hq2⟩ := List.getElem?_eq_some_iff.1 hy
              rw [List.drop_eq_getElem_cons hq, hq2, hk1]
            have HDR := hide hdrop
            have HC := hide hcmp
            have HU := hide hu
            have HFR := hide fr
            have HK1 := hide hk1
            have ek : (k : Int) - 1 = (k1 : Int) := by omega
            have hd : decide (0 < k) = true := by simpa using hk0
            have h1k : (1 : Int) ≤ (k : Int) := by omega
            have hk1i : (k1 : Int) ≤ 1000000 := by omega
            have hk1n : k1 < i := by omega
            have gg : g < wr.heap.size := pl
            clear hk1 hCl hy hmem hyin hxm hxin hcmp hr1 hu fr hdrop hinT
            have hw : IntKind.i64.wrap (k1 : Int) = (k1 : Int) := IntWalk.i64_in _ (by omega)
            go_wp2_with fail
            go_still_tail 12, (by kernel_rfl)
            clear hw
            change wpList _ _ _ _ _ wr.drew
            have F2 := (Fr.refl No wr).drew
            generalize wr.drew = w2 at F2 ⊢
            have hc2 := HC.out w2 F2
            rw [T.val_mk, T.val_mk] at hc2
            have hle1 := fun (h : 0 < (T.mk ky ny sy Ay cy ly ry).v.ord (T.mk kx nx sx Ax capx lx rx).v) => (by unfold leT; have := ord_anti (T.mk ky ny sy Ay cy ly ry).v (T.mk kx nx sx Ax capx lx rx).v; omega : leT (T.mk kx nx sx Ax capx lx rx) (T.mk ky ny sy Ay cy ly ry))
            have hle2 := fun (h : ¬ 0 < (T.mk ky ny sy Ay cy ly ry).v.ord (T.mk kx nx sx Ax capx lx rx).v) => (by unfold leT; omega : leT (T.mk ky ny sy Ay cy ly ry) (T.mk kx nx sx Ax capx lx rx))
            generalize (T.mk ky ny sy Ay cy ly ry).v.ord (T.mk kx nx sx Ax capx lx rx).v = cc at hc2 hle1 hle2
            have HL1 := hide hle1
            have HL2 := hide hle2
            have HF2 := hide F2
            clear p0 p1 p2 p3 p4 pf pl F2 e0 e1 e2 e3 e4 hle1 hle2
            go_wp2_with fail
            refine hc2.mono ?_
            rintro e wc ⟨rfl, fc⟩
            have HFC := hide ((HFR.out.trans HF2.out).trans fc)
            clear fc hc2
            by_cases hpos : 0 < cc
            · have hcd : decide (0 < cc) = true := by simpa using hpos
              have HLE := hide (HL1.out hpos)
              go_wp2
              go_roundw
              case rel =>
                refine ⟨k1, by go_num, by omega, fun z hz => ?_, HFC.out⟩
                rw [HDR.out] at hz
                rcases List.mem_cons.1 hz with rfl | hz
                · exact HLE.out
                · exact HU.out z hz
              case measure => have := HK1.out; simp [intOf]; omega
            · have hcd : decide (0 < cc) = false := by simpa using hpos
              have hlow : k = 0 ∨ ∃ y, C[k - 1]? = some y ∧ leT y (T.mk kx nx sx Ax capx lx rx) := .inr ⟨_, by have := HK1.out; rw [show k - 1 = k1 by omega]; exact HY.out, HL2.out (by omega)⟩
              have HLO := hide hlow
              have HFX := HFC
              clear hlow
              generalize wc = wq at *
              have hinT := HT.out.no (HI.out.fr.trans HFX.out) hh
              obtain ⟨e0, e1, e2, e3, e4⟩ := T.cells_at hinT hlt HX.out
              have hsq := HFX.out.size
              have g1q : b < wq.heap.size := by omega
              have own0 := owns_fr HI.out.own HFX.out (fun _ _ h => h)
              have ownA := own0.alloc (.cells #[.int .u8 kx, .int .i64 nx, .string sx, .slice Ax lx.length capx, .int .i64 rx] 27)
              have hszw : w.heap.size ≤ wq.heap.size := by omega
              have hbase := owns_lt own0
              have HBASE := hide hbase
              clear hinT own0 hbase
              go_wp2_with (at_builtin; refine wpList_append_lies _ (by rfl) _ _ _ (by rfl) w.heap.size 27 i0 _ 5 64 Try.underlying24 hi0 hz0 hz1 hz2 (by rfl) (by omega) _ i (rowCells C) (by rfl) ownA ⟨wq.heap.size, 0, none⟩ 1 1 [.int .u8 kx, .int .i64 nx, .string sx, .slice Ax lx.length capx, .int .i64 rx] (by rfl) (by rfl) (World.news_of_block (heap_alloc_new wq _)) (by simp [Value.oneCell']) (by omega) (by unfold maxLen; omega) (by omega) (by simp; omega) (wq.heap.size + 1) (by simp) ?_; intro g2 cp w4 hown1 hgrow hat hlt1)
              have hCl := HI.out.len
              have f4 : Fr No w w4 := ((HI.out.fr.trans HFX.out).alloc (.cells #[.int .u8 kx, .int .i64 nx, .string sx, .slice Ax lx.length capx, .int .i64 rx] 27)).trans' (fr_grown hgrow) (fun i hi h => by have := HBASE.out i h.symm; omega)
              have hg2 := (owns_lt hown1 g2 rfl).1
              have hrow : Rw w4 w.heap.size g2 cp (C ++ [T.mk kx nx sx Ax capx lx rx]) := by
                unfold Rw
                rw [List.length_append, hCl, rowCells_snoc]
                exact hown1
              have HROW := hide hrow
              have HF4 := hide f4
              clear hown1 hgrow hat ownA hrow f4 hCl e0 e1 e2 e3 e4 HBASE
              go_loopw [7] (fun s wr => ∃ (j : Nat) (z : T), s = .int .i64 j ∧ k ≤ j ∧ j ≤ i ∧ Rw wr w.heap.size g2 cp (C.take j ++ z :: C.drop j) ∧ Fr (fun i => i = g2) w4 wr) (fun s _ => (intOf s).toNat)
              case atStart =>
                refine ⟨i, T.mk kx nx sx Ax capx lx rx, by first | rfl | go_num, hk, Nat.le_refl _, ?_, Fr.refl _ _⟩
                have := HROW.out
                rw [List.take_of_length_le (by have := HI.out.len; omega), List.drop_of_length_le (by have := HI.out.len; omega)]
                exact this
              case round =>
                obtain ⟨j, z, rfl, hkj, hji, hr, fr⟩ := hrel
                have hCl := HI.out.len
                have hjj : (j : Int) ≤ 1000000 := by omega
                have hlenR : (C.take j ++ z :: C.drop j).length = i + 1 := by simp; omega
                have hr1 := hr
                unfold Rw at hr1
                rw [hlenR] at hr1
                have hsz4 := HF4.out.size
                have hsz5 := fr.size
                by_cases hkl : k < j
                · obtain ⟨j1, hj1⟩ : ∃ j1, j = j1 + 1 := ⟨j - 1, by omega⟩
                  obtain ⟨y, hy⟩ : ∃ y, C[j1]? = some y := ⟨_, List.getElem?_eq_getElem (by omega)⟩
                  have hLy : (C.take j ++ z :: C.drop j)[j1]? = some y := by
                    rw [List.getElem?_append_left (by simp; omega), List.getElem?_take, if_pos (by omega), hy]
                  have hset : (C.take j ++ z :: C.drop j).set j y = C.take j1 ++ y :: C.drop j1 := by
                    obtain ⟨hq, hq2⟩ := List.getElem?_eq_some_iff.1 hy
                    have hjl : (C.take j).length = j := by simp; omega
                    rw [List.set_append_right _ _ (by omega), show j - (C.take j).length = 0 by omega, List.set_cons_zero]
                    rw [show C.drop j1 = y :: C.drop j by rw [List.drop_eq_getElem_cons hq, hq2, hj1], show C.take j = C.take j1 ++ [y] by rw [hj1, List.take_succ_eq_append_getElem hq, hq2]]
                    simp only [List.append_assoc, List.cons_append, List.nil_append]
                  have hLz : (C.take j ++ z :: C.drop j)[j]? = some z := by
                    rw [List.getElem?_append_right (by simp; omega)]
                    simp
                    rw [show j - min j C.length = 0 by omega]
                    rfl
                  obtain ⟨ky, ny, sy, Ay, cy, ly, ry⟩ := y
                  obtain ⟨kz, nz, sz, Az, cz, lz, rz⟩ := z
                  obtain ⟨p0, p1, p2, p3, p4, pf, pl⟩ := owns_five hr1 hLy
                  obtain ⟨q0, q1, q2, q3, q4, qf, ql⟩ := owns_five hr1 hLz
                  have ej : (j : Int) - 1 = (j1 : Int) := by omega
                  have h1j : (1 : Int) ≤ (j : Int) := by omega
                  have hj1i : (j1 : Int) ≤ 1000000 := by omega
                  have hj1n : j1 < i + 1 := by omega
                  have hjn : j < i + 1 := by omega
                  have HR := hide hr
                  have HF := hide fr
                  have HSET := hide hset
                  have HLR := hide hlenR
                  have HJ1 := hide hj1
                  clear hr hr1 fr hset hLy hLz hy hlenR hCl hj1
                  go_wp2
                  go_roundw
                  case rel =>
                    refine ⟨j1, T.mk ky ny sy Ay cy ly ry, by go_num, by have := HJ1.out; omega, by omega, ?_, HF.out.trans (five_fr wr g2 (j * 5) ky ny sy Ay ly.length cy ry)⟩
                    rw [← HSET.out]
                    exact Rw.set HR.out (by rw [HLR.out]; exact hjn) ky ny sy Ay cy ly ry
                  case measure => have := HJ1.out; simp [intOf]; omega
                · obtain rfl : k = j := by omega
                  have hLz : (C.take k ++ z :: C.drop k)[k]? = some z := by
                    rw [List.getElem?_append_right (by simp; omega)]
                    simp
                    rw [show k - min k C.length = 0 by omega]
                    rfl
                  have hset : (C.take k ++ z :: C.drop k).set k (T.mk kx nx sx Ax capx lx rx) = C.take k ++ T.mk kx nx sx Ax capx lx rx :: C.drop k := by
                    have hjl : (C.take k).length = k := by simp; omega
                    rw [List.set_append_right _ _ (by omega), show k - (C.take k).length = 0 by omega, List.set_cons_zero]
                  have fw : Fr No w wr := HF4.out.trans' fr (fun i hi h => by have h' : i = g2 := h; omega)
                  obtain ⟨kz, nz, sz, Az, cz, lz, rz⟩ := z
                  obtain ⟨p0, p1, p2, p3, p4, pf, pl⟩ := owns_five hr1 hLz
                  have hinT := HT.out.no fw hh
                  obtain ⟨e0, e1, e2, e3, e4⟩ := T.cells_at hinT hlt HX.out
                  have gb : b < wr.heap.size := by omega
                  have hne : b ≠ g2 := by omega
                  have hkn : k < i + 1 := by omega
                  have HR := hide hr
                  have HFW := hide fw
                  have HSET := hide hset
                  have HLR := hide hlenR
                  clear hr hr1 fr hset hLz hlenR hCl fw hinT
                  go_wp2
                  go_roundw
                  case rel =>
                    refine ⟨i + 1, some ⟨g2, 0, none⟩, cp, _, hlt, by go_num, by first | rfl | simp, HI.out.next HXL.out hk HLO.out HU.out (g := g2) (cp := cp) ?_ (HFW.out.trans' (five_fr wr g2 (k * 5) kx nx sx Ax lx.length capx rx) (fun i hi h => by have h' : i = g2 := h; omega))⟩
                    rw [← HSET.out]
                    exact Rw.set HR.out (by rw [HLR.out]; exact hkn) kx nx sx Ax capx lx rx
                  case measure => simp [intOf]; omega
          · have hd : decide (0 < k) = false := by simpa using hk0
            have hlow : k = 0 ∨ ∃ y, C[k - 1]? = some y ∧ leT y (T.mk kx nx sx Ax capx lx rx) := .inl (by omega)
            have HLO := hide hlow
            have HU := hide hu
            have HFR := hide fr
            clear hlow hu fr hinT
            go_wp2_with fail
            go_quiet (fail)
            generalize hwq : World.drewN wr _ = wq
            have HFX : Hid (Fr No wo wq) := by rw [← hwq]; exact HFR.out.trans ((Fr.refl No wr).drewN _)
            clear hwq
            have hinT := HT.out.no (HI.out.fr.trans HFX.out) hh
            obtain ⟨e0, e1, e2, e3, e4⟩ := T.cells_at hinT hlt HX.out
            have hsq := HFX.out.size
            have g1q : b < wq.heap.size := by omega
            have own0 := owns_fr HI.out.own HFX.out (fun _ _ h => h)
            have ownA := own0.alloc (.cells #[.int .u8 kx, .int .i64 nx, .string sx, .slice Ax lx.length capx, .int .i64 rx] 27)
            have hszw : w.heap.size ≤ wq.heap.size := by omega
            have hbase := owns_lt own0
            have HBASE := hide hbase
            clear hinT own0 hbase
            go_wp2_with (at_builtin; refine wpList_append_lies _ (by rfl) _ _ _ (by rfl) w.heap.size 27 i0 _ 5 64 Try.underlying24 hi0 hz0 hz1 hz2 (by rfl) (by omega) _ i (rowCells C) (by rfl) ownA ⟨wq.heap.size, 0, none⟩ 1 1 [.int .u8 kx, .int .i64 nx, .string sx, .slice Ax lx.length capx, .int .i64 rx] (by rfl) (by rfl) (World.news_of_block (heap_alloc_new wq _)) (by simp [Value.oneCell']) (by omega) (by unfold maxLen; omega) (by omega) (by simp; omega) (wq.heap.size + 1) (by simp) ?_; intro g2 cp w4 hown1 hgrow hat hlt1)
            have hCl := HI.out.len
            have f4 : Fr No w w4 := ((HI.out.fr.trans HFX.out).alloc (.cells #[.int .u8 kx, .int .i64 nx, .string sx, .slice Ax lx.length capx, .int .i64 rx] 27)).trans' (fr_grown hgrow) (fun i hi h => by have := HBASE.out i h.symm; omega)
            have hg2 := (owns_lt hown1 g2 rfl).1
            have hrow : Rw w4 w.heap.size g2 cp (C ++ [T.mk kx nx sx Ax capx lx rx]) := by
              unfold Rw
              rw [List.length_append, hCl, rowCells_snoc]
              exact hown1
            have HROW := hide hrow
            have HF4 := hide f4
            clear hown1 hgrow hat ownA hrow f4 hCl e0 e1 e2 e3 e4 HBASE
            go_loopw [7] (fun s wr => ∃ (j : Nat) (z : T), s = .int .i64 j ∧ k ≤ j ∧ j ≤ i ∧ Rw wr w.heap.size g2 cp (C.take j ++ z :: C.drop j) ∧ Fr (fun i => i = g2) w4 wr) (fun s _ => (intOf s).toNat)
            case atStart =>
              refine ⟨i, T.mk kx nx sx Ax capx lx rx, by first | rfl | go_num, hk, Nat.le_refl _, ?_, Fr.refl _ _⟩
              have := HROW.out
              rw [List.take_of_length_le (by have := HI.out.len; omega), List.drop_of_length_le (by have := HI.out.len; omega)]
              exact this
            case round =>
              obtain ⟨j, z, rfl, hkj, hji, hr, fr⟩ := hrel
              have hCl := HI.out.len
              have hjj : (j : Int) ≤ 1000000 := by omega
              have hlenR : (C.take j ++ z :: C.drop j).length = i + 1 := by simp; omega
              have hr1 := hr
              unfold Rw at hr1
              rw [hlenR] at hr1
              have hsz4 := HF4.out.size
              have hsz5 := fr.size
              by_cases hkl : k < j
              · obtain ⟨j1, hj1⟩ : ∃ j1, j = j1 + 1 := ⟨j - 1, by omega⟩
                obtain ⟨y, hy⟩ : ∃ y, C[j1]? = some y := ⟨_, List.getElem?_eq_getElem (by omega)⟩
                have hLy : (C.take j ++ z :: C.drop j)[j1]? = some y := by
                  rw [List.getElem?_append_left (by simp; omega), List.getElem?_take, if_pos (by omega), hy]
                have hset : (C.take j ++ z :: C.drop j).set j y = C.take j1 ++ y :: C.drop j1 := by
                  obtain ⟨hq, hq2⟩ := List.getElem?_eq_some_iff.1 hy
                  have hjl : (C.take j).length = j := by simp; omega
                  rw [List.set_append_right _ _ (by omega), show j - (C.take j).length = 0 by omega, List.set_cons_zero]
                  rw [show C.drop j1 = y :: C.drop j by rw [List.drop_eq_getElem_cons hq, hq2, hj1], show C.take j = C.take j1 ++ [y] by rw [hj1, List.take_succ_eq_append_getElem hq, hq2]]
                  simp only [List.append_assoc, List.cons_append, List.nil_append]
                have hLz : (C.take j ++ z :: C.drop j)[j]? = some z := by
                  rw [List.getElem?_append_right (by simp; omega)]
                  simp
                  rw [show j - min j C.length = 0 by omega]
                  rfl
                obtain ⟨ky, ny, sy, Ay, cy, ly, ry⟩ := y
                obtain ⟨kz, nz, sz, Az, cz, lz, rz⟩ := z
                obtain ⟨p0, p1, p2, p3, p4, pf, pl⟩ := owns_five hr1 hLy
                obtain ⟨q0, q1, q2, q3, q4, qf, ql⟩ := owns_five hr1 hLz
                have ej : (j : Int) - 1 = (j1 : Int) := by omega
                have h1j : (1 : Int) ≤ (j : Int) := by omega
                have hj1i : (j1 : Int) ≤ 1000000 := by omega
                have hj1n : j1 < i + 1 := by omega
                have hjn : j < i + 1 := by omega
                have HR := hide hr
                have HF := hide fr
                have HSET := hide hset
                have HLR := hide hlenR
                have HJ1 := hide hj1
                clear hr hr1 fr hset hLy hLz hy hlenR hCl hj1
                go_wp2
                go_roundw
                case rel =>
                  refine ⟨j1, T.mk ky ny sy Ay cy ly ry, by go_num, by have := HJ1.out; omega, by omega, ?_, HF.out.trans (five_fr wr g2 (j * 5) ky ny sy Ay ly.length cy ry)⟩
                  rw [← HSET.out]
                  exact Rw.set HR.out (by rw [HLR.out]; exact hjn) ky ny sy Ay cy ly ry
                case measure => have := HJ1.out; simp [intOf]; omega
              · obtain rfl : k = j := by omega
                have hLz : (C.take k ++ z :: C.drop k)[k]? = some z := by
                  rw [List.getElem?_append_right (by simp; omega)]
                  simp
                  rw [show k - min k C.length = 0 by omega]
                  rfl
                have hset : (C.take k ++ z :: C.drop k).set k (T.mk kx nx sx Ax capx lx rx) = C.take k ++ T.mk kx nx sx Ax capx lx rx :: C.drop k := by
                  have hjl : (C.take k).length = k := by simp; omega
                  rw [List.set_append_right _ _ (by omega), show k - (C.take k).length = 0 by omega, List.set_cons_zero]
                have fw : Fr No w wr := HF4.out.trans' fr (fun i hi h => by have h' : i = g2 := h; omega)
                obtain ⟨kz, nz, sz, Az, cz, lz, rz⟩ := z
                obtain ⟨p0, p1, p2, p3, p4, pf, pl⟩ := owns_five hr1 hLz
                have hinT := HT.out.no fw hh
                obtain ⟨e0, e1, e2, e3, e4⟩ := T.cells_at hinT hlt HX.out
                have gb : b < wr.heap.size := by omega
                have hne : b ≠ g2 := by omega
                have hkn : k < i + 1 := by omega
                have HR := hide hr
                have HFW := hide fw
                have HSET := hide hset
                have HLR := hide hlenR
                clear hr hr1 fr hset hLz hlenR hCl fw hinT
                go_wp2
                go_roundw
                case rel =>
                  refine ⟨i + 1, some ⟨g2, 0, none⟩, cp, _, hlt, by go_num, by first | rfl | simp, HI.out.next HXL.out hk HLO.out HU.out (g := g2) (cp := cp) ?_ (HFW.out.trans' (five_fr wr g2 (k * 5) kx nx sx Ax lx.length capx rx) (fun i hi h => by have h' : i = g2 := h; omega))⟩
                  rw [← HSET.out]
                  exact Rw.set HR.out (by rw [HLR.out]; exact hkn) kx nx sx Ax capx lx rx
                case measure => simp [intOf]; omega
      · obtain rfl : l.length = i := by omega
        have hlen := inv.len
        have HI := hide inv
        clear inv
        go_wp2
        go_ret2
        have I := HI.out
        refine ⟨fun _ => ⟨A2, cap2, C, ?_, by have := I.perm; rwa [List.take_of_length_le (Nat.le_refl _)] at this, I.srt, by rw [I.len]; exact I.own, I.fr⟩, fun h => by rw [HA.out] at h; cases h⟩
        rw [I.len]; rfl

end Go.Proofs.Ytihjmipmjogpoaa

/- Chapter 2: the document's answer: SameAll, of rows of the same values. -/
namespace Go.Proofs.Ytihjmipmjogpoaa
open Go.RowKit

set_option maxRecDepth 100000 in
set_option maxHeartbeats 4000000 in
theorem sameAll_any (A : Option Addr) (cap : Nat) (l : List T) (A' : Option Addr) (cap' : Nat) (l' : List T) (w : World) (hj : Nat) (ht : (T.row A cap l).In w 0 hj) (ht' : (T.row A' cap' l').In w 0 hj) (hh : hj ≤ w.heap.size)
    (hv : l.map T.v = l'.map T.v) (hm : (l.map T.v).all V.may = true) (hl : l.length ≤ 1000000) :
    Calls Try.prog 78 #[.slice A l.length cap, .slice A' l'.length cap'] w fun e w' => e = .returned (.bool true) ∧ Fr No w w' := by
  have hS := refSame_any
  have hlen : l.length = l'.length := by have := congrArg List.length hv; simpa using this
  have hne : (l.length != l'.length) = false := by simp [hlen]
  have hsame : ∀ (i : Nat) (x y : T), l[i]? = some x → l'[i]? = some y → x.v.same2 y.v = true := fun i x y hx hy => by
    have h1 : (l.map T.v)[i]? = some x.v := by rw [List.getElem?_map, hx]; rfl
    have h2 : (l.map T.v)[i]? = some y.v := by rw [hv, List.getElem?_map, hy]; rfl
    rw [h1] at h2
    injection h2 with h2
    rw [← h2]
    exact same2_self (List.all_eq_true.1 hm _ (List.mem_of_getElem? h1))
  have HS := hide hS
  have HSM := hide hsame
  have HLEN := hide hlen
  have HT := hide ht
  have HT' := hide ht'
  clear hS hsame hlen hv hm ht ht'
  obtain ⟨n', hn'⟩ : ∃ n', l'.length = n' := ⟨_, rfl⟩
  rw [hn'] at hne ⊢
  have HN := hide hn'
  have hnn : l.length = n' := HLEN.out.trans hn'
  obtain rfl := hnn
  clear hn' hne
  go_enter Try.func78, Try.ntmps78
  go_wp2_with fail
  go_loopw [5] (fun s wr => ∃ i : Nat, s = .int .i64 i ∧ i ≤ l.length ∧ Fr No w wr) (fun s _ => l.length - (intOf s).toNat)
  case atStart => exact ⟨0, rfl, Nat.zero_le _, Fr.refl _ _⟩
  case round =>
    obtain ⟨i, rfl, hi, fr⟩ := hrel
    have hs := fr.size
    by_cases hlt : i < l.length
    · obtain ⟨b, o, k1, n1, s1, A1, c1, l1, r1, rfl, hb0, hb1, hx, hin, e0, e1, e2, e3, e4⟩ := T.elem (HT.out.no fr hh) hlt
      obtain ⟨b', o', k2, n2, s2, A2, c2, l2, r2, rfl, hb0', hb1', hy, hin', f0, f1, f2, f3, f4⟩ := T.elem (HT'.out.no fr hh) (j := i) (by rw [HN.out]; exact hlt)
      have hsm := HSM.out i _ _ (by rw [List.getElem?_eq_getElem hlt, hx]) (by rw [List.getElem?_eq_getElem (by rw [HN.out]; exact hlt), hy])
      have hcall := fun w2 (f : Fr No wr w2) => HS.out (T.mk k1 n1 s1 A1 c1 l1 r1) (T.mk k2 n2 s2 A2 c2 l2 r2) w2 0 hj (hin.no f (by omega)) (hin'.no f (by omega)) (by have := f.size; omega)
      rw [hsm, T.val_mk, T.val_mk] at hcall
      have HC := hide hcall
      have HF := hide fr
      have g0 : b < wr.heap.size := by omega
      have g1 : b' < wr.heap.size := by omega
      have hii : (i : Int) ≤ 1000000 := by omega
      clear hx hy hin hin' hsm hcall fr
      go_wp2_with fail
      go_still_tail 8, (by kernel_rfl)
      change wpList _ _ _ _ _ wr.drew
      have F2 := (Fr.refl No wr).drew
      generalize wr.drew = w2 at F2 ⊢
      have hc2 := HC.out w2 F2
      have HF2 := hide F2
      clear e0 e1 e2 e3 e4 f0 f1 f2 f3 f4 F2
      go_wp2_with fail
      refine hc2.mono ?_
      rintro e wc ⟨rfl, fc⟩
      have HFC := hide ((HF.out.trans HF2.out).trans fc)
      clear fc hc2
      go_wp2
      go_roundw
      case rel => exact ⟨i + 1, by go_num, hlt, HFC.out⟩
      case measure => simp [intOf]; omega
    · have HF := hide fr
      clear fr
      go_wp2
      go_ret
      exact ⟨rfl, HF.out⟩

end Go.Proofs.Ytihjmipmjogpoaa

/- Chapter 2: the law's own smallAll. -/
namespace Go.Proofs.Ytihjmipmjogpoaa
open Go.RowKit

/-- What smallAll says of some values. -/
def SmallAll (l : List V) : Prop := l.length ≤ 600 ∧ (∀ v ∈ l, v.size ≤ 1200 ∧ v.ht ≤ 40) ∧ (l.map V.size).sum ≤ 3600

def SmallAllP (l : List V) (w : World) (e : Ending) (w' : World) : Prop := (∃ b : Bool, e = .returned (.bool b) ∧ (b = true → SmallAll l)) ∧ Fr No w w'

set_option maxRecDepth 100000 in
set_option maxHeartbeats 4000000 in
theorem smallAll_any (A : Option Addr) (cap : Nat) (l : List T) (w : World) (lo hi : Nat) (ht : (T.row A cap l).In w lo hi) (hh : hi ≤ w.heap.size) :
    Calls Try.prog 53 #[.slice A l.length cap] w (SmallAllP (l.map T.v) w) := by
  have hlen := (T.in_mk.1 ht).1.len1
  by_cases hbig : (600 : Int) < (l.length : Int)
  · go_enter Try.func53, Try.ntmps53
    go_wp2
    go_ret
    exact ⟨⟨false, rfl, (fun h => by cases h)⟩, Fr.refl _ _⟩
  · have hbig' : l.length ≤ 600 := by omega
    go_enter Try.func53, Try.ntmps53
    go_wp2_with fail
    go_loopw [3, 4, 5] (fun v i _ wr => ∃ j m : Nat, j ≤ l.length ∧ i = .int .i64 (j : Int) ∧ v = .int .i64 (m : Int) ∧ m = (((l.map T.v).take j).map V.size).sum ∧ m ≤ 3600 ∧ (∀ x ∈ (l.map T.v).take j, x.size ≤ 1200 ∧ x.ht ≤ 40) ∧ Fr No w wr) (fun _ i _ _ => l.length - (intOf i).toNat)
    case atStart => exact ⟨0, 0, Nat.zero_le _, rfl, rfl, by simp, by omega, by simp, Fr.refl _ _⟩
    case round =>
      obtain ⟨j, m, hj, rfl, rfl, hm, hmr, hall, fr⟩ := hrel
      have HM := hide hm
      have HA := hide hall
      clear hm hall
      by_cases hlt : j < l.length
      · obtain ⟨b, o, k1, n1, s1, A1, cap1, l1, r1, rfl, hb0, hb1', hx, hin, e0, e1, e2, e3, e4⟩ := T.elem (ht.no fr hh) hlt
        have hc := small_any l[j] 1200 40 wr lo hi (by rw [hx]; exact hin) (by have := fr.size; omega) (by omega) (by omega) (by omega) (by omega)
        have hj' : j < (l.map T.v).length := by simpa using hlt
        have hxv : (l.map T.v)[j] = (T.mk k1 n1 s1 A1 cap1 l1 r1).v := by rw [List.getElem_map, hx]
        rw [hx, T.val_mk] at hc
        generalize (T.mk k1 n1 s1 A1 cap1 l1 r1).v = u at *
        have g0 : b < wr.heap.size := by have := fr.size; omega
        have HF := hide fr
        have HX := hide hxv
        have hup := u.size_pos
        by_cases hfit : (u.size : Int) ≤ 1200 ∧ (u.ht : Int) ≤ 40
        · rw [smallOf_yes hfit] at hc
          have HC := hide hc
          obtain ⟨hf1, hf2⟩ := hfit
          have hnn : decide ((u.size : Int) < 0) = false := by simp
          clear hxv hx fr hc hin
          generalize hq : u.size = q at *
          have HQ := hide hq
          clear hq
          by_cases h24 : (2400 : Int) < (m : Int)
          · go_wp2_with fail
            refine HC.out.mono ?_
            rintro e w2 ⟨rfl, fr2⟩
            have HF2 := hide (HF.out.trans fr2)
            clear fr2
            go_wp2
            go_ret
            exact ⟨⟨false, rfl, (fun h => by cases h)⟩, HF2.out⟩
          · go_wp2_with fail
            refine HC.out.mono ?_
            rintro e w2 ⟨rfl, fr2⟩
            have HF2 := hide (HF.out.trans fr2)
            clear fr2
            go_wp2
            go_roundw
            case rel =>
              have ht2 : (l.map T.v).take (j + 1) = (l.map T.v).take j ++ [u] := by rw [List.take_succ_eq_append_getElem hj', HX.out]
              refine ⟨j + 1, m + q, hlt, by go_num, by go_num, ?_, by omega, ?_, HF2.out⟩
              · rw [ht2, List.map_append, List.sum_append_nat, ← HM.out, ← HQ.out]; simp
              · intro x hx2
                rw [ht2, List.mem_append] at hx2
                rcases hx2 with h | h
                · exact HA.out x h
                · simp at h; subst h; exact ⟨by rw [HQ.out]; omega, by omega⟩
            case measure => simp [intOf]; omega
        · rw [smallOf_no hfit] at hc
          have HC := hide hc
          clear hxv hx fr hc hin hfit
          go_wp2_with fail
          refine HC.out.mono ?_
          rintro e w2 ⟨rfl, fr2⟩
          have HF2 := hide (HF.out.trans fr2)
          clear fr2
          go_wp2
          go_ret
          exact ⟨⟨false, rfl, (fun h => by cases h)⟩, HF2.out⟩
      · obtain rfl : l.length = j := by omega
        have HW := hide fr
        clear fr
        go_wp2
        go_ret
        have ht2 : (l.map T.v).take l.length = l.map T.v := List.take_of_length_le (by simp)
        have h1 := HM.out
        have h2 := HA.out
        rw [ht2] at h1 h2
        exact ⟨⟨true, rfl, fun _ => ⟨by simpa using hbig', h2, by omega⟩⟩, HW.out⟩

end Go.Proofs.Ytihjmipmjogpoaa

/- Chapter 2: what the sorts of one list have in common; a sorted row, written over. -/
namespace Go.Proofs.Ytihjmipmjogpoaa
open Go.RowKit

def errOf (L : List V) : Int := if L.all V.may = true then 0 else 2
def valsOf (L : List V) : List V := if L.all V.may = true then L else []

theorem valsOf_may (L : List V) : (valsOf L).all V.may = true := by
  unfold valsOf
  split
  · assumption
  · rfl

theorem valsOf_mem {L : List V} {v : V} (h : v ∈ valsOf L) : v ∈ L := by
  unfold valsOf at h
  split at h
  · exact h
  · simp at h

/-- What Sort answers, whatever the list. -/
theorem SortP.one {L : List V} {w : World} {e : Ending} {w' : World} (h : SortP L w e w') : ∃ A cap C, e = .returned (.tuple #[.slice A C.length cap, .int .i64 (errOf L)]) ∧ SortR (valsOf L) w A cap C w' := by
  unfold errOf valsOf
  cases ha : L.all V.may with
  | true =>
    obtain ⟨A, cap, C, h1, h2⟩ := h.1 ha
    exact ⟨A, cap, C, h1, h2⟩
  | false =>
    obtain ⟨h1, h2⟩ := h.2 ha
    exact ⟨none, 0, [], h1, ⟨.refl _, .nil, World.ownsRow_nil _ _ _ _, by simp, by simp, by simp, h2⟩⟩

/-- What the document's Sort answers, whatever the list. -/
structure RSortR (l : List T) (w : World) (A : Option Addr) (cap : Nat) (C : List T) (w' : World) : Prop where
  perm : (C.map T.v).Perm (valsOf (l.map T.v))
  srt : C.Pairwise leT
  mem : ∀ x ∈ C, x ∈ l
  own : w'.ownsRow w.heap.size 27 5 (.slice A C.length cap) C.length (rowCells C)
  fr : Fr No w w'

theorem RSortP.one {l : List T} {w : World} {e : Ending} {w' : World} (h : RSortP l w e w') : ∃ A cap C, e = .returned (.tuple #[.slice A C.length cap, .int .i64 (errOf (l.map T.v))]) ∧ RSortR l w A cap C w' := by
  unfold errOf
  cases ha : (l.map T.v).all V.may with
  | true =>
    obtain ⟨A, cap, C, h1, h2, h3, h4, h5⟩ := h.1 ha
    exact ⟨A, cap, C, h1, ⟨by unfold valsOf; rw [if_pos ha]; exact h2.map T.v, h3, fun x hx => h2.mem_iff.1 hx, h4, h5⟩⟩
  | false =>
    obtain ⟨h1, h2⟩ := h.2 ha
    exact ⟨none, 0, [], h1, ⟨by unfold valsOf; rw [ha]; exact .refl _, .nil, by simp, World.ownsRow_nil _ _ _ _, h2⟩⟩

/-- Two sorted rows of the same values, that may be, are of the same values in the same order. -/
theorem sorted_one {C D : List T} {M : List V} (hm : M.all V.may = true) (pC : (C.map T.v).Perm M) (pD : (D.map T.v).Perm M) (sC : C.Pairwise leT) (sD : D.Pairwise leT) : C.map T.v = D.map T.v := by
  have ok : ∀ {E : List T}, (E.map T.v).Perm M → E.Pairwise leT → (E.map T.v).Pairwise fun a b => a.ord b ≤ 0 ∧ a.ok = true ∧ b.ok = true := by
    intro E p s
    have hok : ∀ x ∈ E, x.v.ok = true := fun x hx => may_ok (List.all_eq_true.1 hm _ (p.mem_iff.1 (List.mem_map_of_mem hx)))
    rw [List.pairwise_map]
    exact s.imp_of_mem fun hx hy h => ⟨h, hok _ hx, hok _ hy⟩
  refine order_one (le := fun a b => a.ord b ≤ 0 ∧ a.ok = true ∧ b.ok = true) (fun a b h h' => ?_) (pC.trans pD.symm) (ok pC sC) (ok pD sD)
  refine ord_eq a b h.2.1 h.2.2 ?_
  have := ord_anti a b
  have := h.1
  have := h'.1
  omega

/-- The mark of what is written over. -/
def m9 : T := .mk 1 (-9) ⟨#[]⟩ none 0 [] 0

/-- Where the writing over of a sorted row stands. -/
structure SpL (w0 : World) (base hi : Nat) (A : Option Addr) (cap : Nat) (C : List T) (i : Nat) (wr : World) : Prop where
  own : wr.ownsRow base 27 5 (.slice A C.length cap) C.length (rowCells (List.replicate i m9 ++ C.drop i))
  sp : ∀ (j : Nat) (x : T), C[j]? = some x → i ≤ j → x.Sp wr base hi
  fr : Fr (fun b => (Value.slice A C.length cap).ownBlock = some b ∨ ∃ x ∈ C, b ∈ x.blocks) w0 wr

theorem SpL.begin {L : List V} {w w' wi : World} {A : Option Addr} {cap : Nat} {C : List T} (h : SortR L w A cap C w') (f : Fr No w' wi) : SpL wi w.heap.size w'.heap.size A cap C 0 wi :=
  ⟨by simpa using owns_fr h.own f (fun _ _ h => h), fun j x hx _ => T.Sp.fr f x (fun _ _ h => h) (h.sp x (List.mem_of_getElem? hx)), Fr.refl _ _⟩

theorem nodup_of {C : List T} (h : ((C.map T.blocks).flatten).Nodup) {i j : Nat} {x y : T} (hx : C[i]? = some x) (hy : C[j]? = some y) (hij : i ≠ j) : ∀ b ∈ x.blocks, b ∉ y.blocks := by
  obtain ⟨hi, rfl⟩ := List.getElem?_eq_some_iff.1 hx
  obtain ⟨hj, rfl⟩ := List.getElem?_eq_some_iff.1 hy
  intro b hb hb'
  rcases Nat.lt_or_ge i j with h' | h'
  · refine nodup_at (L := C.map T.blocks) h (i := i) (j := j) (by simpa using hi) (by simpa using hj) h' (b := b) ?_ ?_
    · simpa using hb
    · simpa using hb'
  · refine nodup_at (L := C.map T.blocks) h (i := j) (j := i) (by simpa using hj) (by simpa using hi) (by omega) (b := b) ?_ ?_
    · simpa using hb'
    · simpa using hb

theorem nodup_one {C : List T} (h : ((C.map T.blocks).flatten).Nodup) {x : T} (hx : x ∈ C) : x.blocks.Nodup := by
  induction C with
  | nil => simp at hx
  | cons y C ih =>
    rw [List.map_cons, List.flatten_cons, List.nodup_append] at h
    rcases List.mem_cons.1 hx with rfl | hx
    · exact h.1
    · exact ih h.2.1 hx

theorem rep_at {C : List T} {i : Nat} {x : T} (h : C[i]? = some x) : (List.replicate i m9 ++ C.drop i)[i]? = some x ∧ (List.replicate i m9 ++ C.drop i).set i m9 = List.replicate (i + 1) m9 ++ C.drop (i + 1) ∧ (List.replicate i m9 ++ C.drop i).length = C.length := by
  obtain ⟨hi, rfl⟩ := List.getElem?_eq_some_iff.1 h
  refine ⟨?_, ?_, by simp; omega⟩
  · rw [List.getElem?_append_right (by simp)]
    simp
  · rw [List.set_append_right _ _ (by simp), List.drop_eq_getElem_cons hi, List.length_replicate, Nat.sub_self, List.set_cons_zero, List.replicate_succ', List.append_assoc]
    rfl

/-- One more is written over. -/
theorem SpL.next {L : List V} {w w' w0 wr w2 : World} {A : Option Addr} {cap : Nat} {C : List T} {i g : Nat} {x : T} (hs : SortR L w A cap C w') (h : SpL w0 w.heap.size w'.heap.size A cap C i wr) (hx : C[i]? = some x) (hA : A = some ⟨g, 0, none⟩) (f : Fr (fun b => b ∈ x.blocks) wr w2) :
    SpL w0 w.heap.size w'.heap.size A cap C (i + 1) (five w2 g (i * 5) 1 (-9) ⟨#[]⟩ none 0 0 0) := by
  subst hA
  have hxm : x ∈ C := List.mem_of_getElem? hx
  have hsep : ∀ y ∈ C, g ∉ y.blocks := fun y hy hg => hs.sep y hy g hg rfl
  have f5 := five_fr w2 g (i * 5) 1 (-9) ⟨#[]⟩ none 0 0 0
  obtain ⟨r1, r2, r3⟩ := rep_at hx
  have hi := (List.getElem?_eq_some_iff.1 hx).1
  have o2 := owns_fr h.own f (fun b hb hb' => by
    simp [Value.ownBlock] at hb
    subst hb
    exact hsep x hxm hb')
  refine ⟨?_, fun j y hy hj => ?_, ?_⟩
  · have := owns_set5 o2 r3 hi 1 (-9) ⟨#[]⟩ none 0 [] 0
    rw [show T.mk 1 (-9) ⟨#[]⟩ none 0 [] 0 = m9 from rfl, r2] at this
    exact this
  · have h1 := h.sp j y hy (by omega)
    have h2 := T.Sp.fr f y (fun b hb hb' => nodup_of hs.nd hx hy (by omega) b hb' hb) h1
    exact T.Sp.fr f5 y (fun b hb hb' => by have e : b = g := hb'; subst e; exact hsep y (List.mem_of_getElem? hy) hb) h2
  · refine (h.fr.trans' f fun b _ hb => .inr ⟨x, hxm, hb⟩).trans' f5 fun b _ hb => ?_
    have e : b = g := hb
    subst e
    exact .inl rfl

end Go.Proofs.Ytihjmipmjogpoaa

/- Chapter 2: ValueTotal: what the orders of three values have in common. -/
namespace Go.Proofs.Ytihjmipmjogpoaa
open Go.RowKit

def ordX (u v : V) : Int := if (u.may && v.may) = true then u.ord v else 0
def ordE (u v : V) : Int := if (u.may && v.may) = true then 0 else 2

theorem vorderX_any (a b : T) (w : World) (lo hi : Nat) (ha : a.In w lo hi) (hb : b.In w lo hi) (hh : hi ≤ w.heap.size) :
    Calls Try.prog 55 #[a.val, b.val] w fun e w' => e = .returned (.tuple #[.int .i64 (ordX a.v b.v), .int .i64 (ordE a.v b.v)]) ∧ Fr No w w' := vorder_any a b w lo hi ha hb hh

theorem ordX_anti (u v : V) : ordX v u = -ordX u v := by
  unfold ordX
  rw [Bool.and_comm v.may u.may]
  split
  · exact ord_anti u v
  · rfl

theorem ordE_comm (u v : V) : ordE v u = ordE u v := by
  unfold ordE
  rw [Bool.and_comm v.may u.may]

/-- What the order of two values is, and whether they are the same. -/
def OneO (E X : Int) (S : Bool) : Prop := (E = 2 ∧ X = 0 ∧ S = false) ∨ (E = 0 ∧ X = -1 ∧ S = false) ∨ (E = 0 ∧ X = 0 ∧ S = true) ∨ (E = 0 ∧ X = 1 ∧ S = false)

theorem ord_one (u v : V) : OneO (ordE u v) (ordX u v) (u.same2 v) := by
  unfold OneO ordE ordX V.same2
  cases h : (u.may && v.may) with
  | false => simp
  | true => rcases ord_range u v with h' | h' | h' <;> simp [h']

theorem ord_three (u v z : V) : ordE u v = 0 → ordE v z = 0 → ordE u z = 0 ∧ Tri (ordX u v) (ordX v z) (ordX u z) := by
  unfold ordE ordX
  intro h1 h2
  have e1 : (u.may && v.may) = true := by
    cases h : (u.may && v.may) with
    | true => rfl
    | false => rw [h] at h1; cases h1
  have e2 : (v.may && z.may) = true := by
    cases h : (v.may && z.may) with
    | true => rfl
    | false => rw [h] at h2; cases h2
  have e3 : (u.may && z.may) = true := by simp at e1 e2 ⊢; exact ⟨e1.1, e2.2⟩
  rw [if_pos e1, if_pos e2, if_pos e3, if_pos e3]
  exact ⟨rfl, ord_tri u v z⟩

/-- The ways that three orders may be together, as the statement asks. -/
def ThreeO (E G X Z W H : Int) : Prop :=
  E = 2 ∨ (E = 0 ∧ G = 2) ∨ (E = 0 ∧ G = 0 ∧ H = 0 ∧ (X = 1 ∨ (X = -1 ∧ Z = 1) ∨ (X = 0 ∧ Z = 1) ∨ (X = -1 ∧ Z = -1 ∧ W = -1) ∨ (X = -1 ∧ Z = 0 ∧ W = -1) ∨ (X = 0 ∧ Z = -1 ∧ W = -1) ∨ (X = 0 ∧ Z = 0 ∧ W = 0)))

theorem ord_ways (u v z : V) : ThreeO (ordE u v) (ordE v z) (ordX u v) (ordX v z) (ordX u z) (ordE u z) := by
  have h1 := ord_one u v
  have h2 := ord_one v z
  have h3 := ord_three u v z
  unfold OneO at h1 h2
  unfold ThreeO
  generalize ordE u v = E at *
  generalize ordE v z = G at *
  generalize ordE u z = H at *
  generalize ordX u v = X at *
  generalize ordX v z = Z at *
  generalize ordX u z = W at *
  rcases h1 with ⟨rfl, rfl, -⟩ | ⟨rfl, rfl, -⟩ | ⟨rfl, rfl, -⟩ | ⟨rfl, rfl, -⟩
  · simp
  all_goals
    rcases h2 with ⟨rfl, rfl, -⟩ | ⟨rfl, rfl, -⟩ | ⟨rfl, rfl, -⟩ | ⟨rfl, rfl, -⟩
    · simp
    all_goals
      obtain ⟨rfl, t1, t2, t3⟩ := h3 rfl rfl
      simp at t1 t2 t3 ⊢
      try first | exact t1 | exact t2 | exact t3

/-- Three values that came in, boxed, and a list. -/
structure ABC (w wi : World) (A : Option Addr) (cap : Nat) (l : List T) (a b c : T) : Prop where
  ba : Blk wi w.heap.size 27 a.cells.toArray
  bb : Blk wi (w.heap.size + 1) 27 b.cells.toArray
  bc : Blk wi (w.heap.size + 1 + 1) 27 c.cells.toArray
  ia : a.In wi 0 w.heap.size
  ib : b.In wi 0 w.heap.size
  ic : c.In wi 0 w.heap.size
  il : (T.row A cap l).In wi 0 w.heap.size
  f : Fr No w wi

theorem ABC.no {w wi wj : World} {A : Option Addr} {cap : Nat} {l : List T} {a b c : T} (h : ABC w wi A cap l a b c) (f : Fr No wi wj) : ABC w wj A cap l a b c :=
  ⟨h.ba.fr f fun h => h, h.bb.fr f fun h => h, h.bc.fr f fun h => h, h.ia.no f h.f.size, h.ib.no f h.f.size, h.ic.no f h.f.size, h.il.no f h.f.size, h.f.trans f⟩

theorem ABC.cells {w wi : World} {A : Option Addr} {cap : Nat} {l : List T} {k n : Int} {s : ByteArray} {B : Option Addr} {cb : Nat} {la : List T} {r : Int} {k1 n1 : Int} {s1 : ByteArray} {B1 : Option Addr} {cb1 : Nat} {lb : List T} {r1 : Int} {k2 n2 : Int} {s2 : ByteArray} {B2 : Option Addr} {cb2 : Nat} {lc : List T} {r2 : Int}
    (h : ABC w wi A cap l (.mk k n s B cb la r) (.mk k1 n1 s1 B1 cb1 lb r1) (.mk k2 n2 s2 B2 cb2 lc r2)) :
    (wi.cell? ⟨w.heap.size, 0, none⟩ = some (.int .u8 k) ∧ wi.cell? ⟨w.heap.size, 1, none⟩ = some (.int .i64 n) ∧ wi.cell? ⟨w.heap.size, 2, none⟩ = some (.string s) ∧ wi.cell? ⟨w.heap.size, 3, none⟩ = some (.slice B la.length cb) ∧ wi.cell? ⟨w.heap.size, 4, none⟩ = some (.int .i64 r)) ∧
      (wi.cell? ⟨w.heap.size + 1, 0, none⟩ = some (.int .u8 k1) ∧ wi.cell? ⟨w.heap.size + 1, 1, none⟩ = some (.int .i64 n1) ∧ wi.cell? ⟨w.heap.size + 1, 2, none⟩ = some (.string s1) ∧ wi.cell? ⟨w.heap.size + 1, 3, none⟩ = some (.slice B1 lb.length cb1) ∧ wi.cell? ⟨w.heap.size + 1, 4, none⟩ = some (.int .i64 r1)) ∧
      (wi.cell? ⟨w.heap.size + 1 + 1, 0, none⟩ = some (.int .u8 k2) ∧ wi.cell? ⟨w.heap.size + 1 + 1, 1, none⟩ = some (.int .i64 n2) ∧ wi.cell? ⟨w.heap.size + 1 + 1, 2, none⟩ = some (.string s2) ∧ wi.cell? ⟨w.heap.size + 1 + 1, 3, none⟩ = some (.slice B2 lc.length cb2) ∧ wi.cell? ⟨w.heap.size + 1 + 1, 4, none⟩ = some (.int .i64 r2)) ∧
      w.heap.size < wi.heap.size ∧ w.heap.size + 1 < wi.heap.size ∧ w.heap.size + 1 + 1 < wi.heap.size := by
  obtain ⟨a0, a1, a2, a3, a4, -⟩ := Blk.cells5 h.ba
  obtain ⟨b0, b1, b2, b3, b4, -⟩ := Blk.cells5 h.bb
  obtain ⟨c0, c1, c2, c3, c4, -⟩ := Blk.cells5 h.bc
  exact ⟨⟨a0, a1, a2, a3, a4⟩, ⟨b0, b1, b2, b3, b4⟩, ⟨c0, c1, c2, c3, c4⟩, h.ba.lt, h.bb.lt, h.bc.lt⟩

/-- Where the turning round of a row stands: m parts are left. -/
structure Bck (w : World) (l : List T) (m : Nat) (A : Option Addr) (cap : Nat) (B : List T) (wr : World) : Prop where
  eq : B = (l.drop m).reverse
  own : wr.ownsRow w.heap.size 27 5 (.slice A (l.length - m) cap) (l.length - m) (rowCells B)
  fr : Fr No w wr
  nil : m = l.length → A = none ∧ cap = 0

theorem Bck.next {w : World} {l : List T} {m : Nat} {A : Option Addr} {cap : Nat} {B : List T} {wr w3 : World} {x : T} (h : Bck w l (m + 1) A cap B wr) (hm : m < l.length) (hx : l[m]? = some x) {g cp : Nat} {o : Obj}
    (hown : w3.ownsRow w.heap.size 27 5 (.slice (some ⟨g, 0, none⟩) (l.length - (m + 1) + 1) cp) (l.length - (m + 1) + 1) (rowCells B ++ x.cells)) (hgrow : (wr.alloc o).grownBy w3 (Value.slice A (l.length - (m + 1)) cap).ownBlock) :
    Bck w l m (some ⟨g, 0, none⟩) cp (B ++ [x]) w3 := by
  have hol := owns_lt h.own
  obtain ⟨hi, hx'⟩ := List.getElem?_eq_some_iff.1 hx
  refine ⟨?_, ?_, ?_, fun e => by omega⟩
  · rw [h.eq, List.drop_eq_getElem_cons hm, hx', List.reverse_cons]
  · rw [rowCells_snoc]
    have e : l.length - (m + 1) + 1 = l.length - m := by omega
    rw [e] at hown
    exact hown
  · exact (h.fr.alloc o).trans' (fr_grown hgrow) (fun i hi h => by have := hol i h.symm; omega)

end Go.Proofs.Ytihjmipmjogpoaa

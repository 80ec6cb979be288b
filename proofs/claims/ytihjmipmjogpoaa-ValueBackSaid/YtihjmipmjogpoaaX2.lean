import Derived.Test.YtihjmipmjogpoaaProg
import Derived.Test.YtihjmipmjogpoaaX1
import Derived.WalkLawsBesides
import Derived.BigQuiet
import Derived.Deep.QuietTactic
namespace Go.Proofs.Ytihjmipmjogpoaa
open Go.RowKit

/-- Where the loop of 'take' stands behind some rounds. -/
structure TakeInv (w : World) (L a c : Nat) (X : Array Value) (wr : World) : Prop where
  fr : Fr (· = L) w wr
  c0 : wr.cell? ⟨L, 0, none⟩ = some (.int .i64 (a : Int))
  c1 : wr.cell? ⟨L, 1, none⟩ = some (.int .i64 (c : Int))
  f0 : wr.frozen? ⟨L, 0, none⟩ = false
  f1 : wr.frozen? ⟨L, 1, none⟩ = false
  b0 : Blk wr w.heap.size 27 X
  b1 : Blk wr (w.heap.size + 1) 27 X

theorem took_done {n : Int} {s : ByteArray} {A : Option Addr} {cap : Nat} {l : List T} {r : Int} {w W : World} {L p q : Nat} {b : Bool} (hs : sizeTo (l.map T.v) l.length ≤ p - 1) (hp : 1 ≤ p) (hq : 1 ≤ q)
    (hall : fitsTo (l.map T.v) (q - 1) l.length) (hb : b = fok 3 n s l.length r) (hF : Fr (· = L) w W)
    (h0 : W.cell? ⟨L, 0, none⟩ = some (.int .i64 ((p - 1 - sizeTo (l.map T.v) l.length : Nat) : Int))) (h1 : W.cell? ⟨L, 1, none⟩ = some (.int .i64 (((q - 1 : Nat) : Int) + 1)))
    (f0 : W.frozen? ⟨L, 0, none⟩ = false) (f1 : W.frozen? ⟨L, 1, none⟩ = false) : Took L p q (T.mk 3 n s A cap l r).v w (.returned (.bool b)) W := by
  rw [T.v_mk]
  have hl : (l.map T.v).length = l.length := List.length_map ..
  obtain ⟨e1, e2⟩ := fits_done (n := n) (s := s) (l := l.map T.v) (r := r) (by rw [hl]; exact hs) hp hq (by rw [hl]; exact hall)
  rw [hl] at e1 e2
  refine ⟨by rw [e1, hb], hF, fun h => ?_⟩
  rw [e2, h0, h1]
  exact ⟨by congr 3; omega, by congr 2; omega, f0, f1⟩

set_option maxHeartbeats 4000000 in
theorem take_any (t : T) : ∀ (w : World) (L p q lo hi : Nat), t.In w lo hi → hi ≤ L → L < w.heap.size →
    w.cell? ⟨L, 0, none⟩ = some (.int .i64 (p : Int)) → w.cell? ⟨L, 1, none⟩ = some (.int .i64 (q : Int)) →
    w.frozen? ⟨L, 0, none⟩ = false → w.frozen? ⟨L, 1, none⟩ = false → p ≤ 512 → q ≤ 16 →
    Calls Try.prog 150 #[.pointer (some ⟨L, 0, none⟩), t.val] w (Took L p q t.v w) := by
  induction t using T.ind with
  | h k n s A cap l r ih =>
    intro w L p q lo hi ht hh hL hp hq hf0 hf1 hp1 hq1
    have hL' : L ≤ w.heap.size := Nat.le_of_lt hL
    rw [T.val]
    by_cases hp0 : p = 0
    · subst hp0
      have e0 := fits_zero (T.mk k n s A cap l r).v q
      have hp : w.cell? ⟨L, 0, none⟩ = some (.int .i64 0) := by simpa using hp
      go_enter Try.func150, Try.ntmps150
      go_wp2
      go_ret
      exact took_no e0 ((Fr.refl _ w).alloc _)
    by_cases hk : k = 3
    · subst hk
      have hp00 : ((p : Int) == 0) = false := by simp; omega
      have hp2 : (1 : Int) ≤ p := by omega
      have fit : Fit 3 n s l.length cap r := (T.in_mk.1 ht).1
      by_cases hq0 : q = 0
      · subst hq0
        have e0 : (T.mk 3 n s A cap l r).v.fits p 0 = false := by rw [T.v_mk]; exact fits_short (.inr rfl)
        go_enter Try.func150, Try.ntmps150
        go_wp2_with fail
        go_quiet (fail)
        go_wp2
        go_ret
        exact took_no e0 (((((Fr.refl _ w).set (by simp) _).alloc _).alloc _).drewN _)
      · have hq00 : ((q : Int) == 0) = false := by simp; omega
        have hq2 : (1 : Int) ≤ q := by omega
        by_cases hlen : (p : Int) - 1 < (l.length : Int)
        · have e0 : (T.mk 3 n s A cap l r).v.fits p q = false := by rw [T.v_mk]; exact fits_short (.inl (by simp; omega))
          go_enter Try.func150, Try.ntmps150
          go_wp2_with fail
          go_quiet (fail)
          go_wp2
          go_ret
          exact took_no e0 (((((Fr.refl _ w).set (by simp) _).alloc _).alloc _).drewN _)
        · have hlen' : (l.length : Int) ≤ (p : Int) - 1 := by omega
          have hd : decide ((p : Int) - 1 < (l.length : Int)) = false := by simp; omega
          go_enter Try.func150, Try.ntmps150
          go_wp2_with fail
          go_quiet (fail)
          go_wp2
          go_loopw [68] (fun i wr => ∃ j : Nat, j ≤ l.length ∧ i = .int .i64 j ∧ fitsTo (l.map T.v) (q - 1) j ∧ sizeTo (l.map T.v) j ≤ p - 1 ∧
              TakeInv w L (p - 1 - sizeTo (l.map T.v) j) (q - 1) #[.int .u8 3, .int .i64 n, .string s, .slice A l.length cap, .int .i64 r] wr)
            (fun i _ => l.length - (intOf i).toNat)
          case atStart =>
            refine ⟨0, Nat.zero_le _, rfl, fitsTo_zero _ _, by rw [sizeTo_zero]; omega, ?_⟩
            rw [sizeTo_zero]
            refine ⟨((((((Fr.refl _ w).set (by simp) _).alloc _).alloc _).drewN _).set (by simp) _), ?_, ?_, ?_, ?_, ?_, ?_⟩
            · have e : ((p - 1 - 0 : Nat) : Int) = (p : Int) - 1 := by omega
              rw [e]
              go_simp
            · have e : ((q - 1 : Nat) : Int) = (q : Int) - 1 := by omega
              rw [e]
              refine World.cell?_setCell_same _ _ _ (u := .int .i64 (q : Int)) ?_
              go_simp
            · go_simp
            · go_simp
            · exact ((((Blk.new' (w.setCell ⟨L, 0, none⟩ (.int .i64 ((p : Int) - 1))) 27 _ (by simp)).alloc _).drewN _).far (p := ⟨L, 1, none⟩) (by simp; omega) _)
            · exact ((((Blk.new' ((w.setCell ⟨L, 0, none⟩ (.int .i64 ((p : Int) - 1))).alloc _) 27 _ (by simp)).drewN _).far (p := ⟨L, 1, none⟩) (by simp; omega) _))
          case round =>
            obtain ⟨j, hj, rfl, hall, hsz, inv⟩ := hrel
            have HA := hide hall
            clear hall
            have c0 := inv.c0
            have c1 := inv.c1
            have wf0 := inv.f0
            have wf1 := inv.f1
            have hsz0 := inv.fr.size
            have hLr : L < wr.heap.size := by omega
            have hLr' := Nat.le_of_lt hLr
            have hb0 := inv.b0.lt
            have hb1 := inv.b1.lt
            by_cases hlt : j < l.length
            · obtain ⟨b, o, k1, n1, s1, A1, cap1, l1, r1, rfl, hb0, hb1, hx, hin, e0, e1, e2, e3, e4⟩ := T.elem (ht.fr inv.fr (by omega) (fun i _ h1 => by omega)) hlt
              have IH := ih l[j] (List.getElem_mem hlt)
              rw [hx] at IH
              have HX := hide hx
              clear hx ih
              have hle := Nat.le_of_lt hlt
              go_wp2_with fail
              refine (IH _ L (p - 1 - sizeTo (l.map T.v) j) (q - 1) lo hi ?_ hh ?_ ?_ ?_ ?_ ?_ ?_ ?_).mono ?_
              · exact hin.no ((Fr.refl No wr).alloc _) (by omega)
              · simp; omega
              · go_simp
              · go_simp
              · go_simp
              · go_simp
              · omega
              · omega
              rintro e w2 ⟨rfl, fr2, took⟩
              have HT := hide took
              clear took
              cases hf : (T.mk k1 n1 s1 A1 cap1 l1 r1).v.fits (p - 1 - sizeTo (l.map T.v) j) (q - 1)
              · go_wp2
                go_ret
                refine took_no ?_ (((inv.fr.alloc _).trans fr2))
                rw [T.v_mk]
                refine fits_stop (j := j) (by simpa using hlt) (by omega) ?_
                rw [List.getElem_map, HX.out]; exact hf
              · go_wp2
                go_roundw
                case rel =>
                  obtain ⟨k0, k1', k2, k3⟩ := HT.out hf
                  have hs := sizeTo_succ (l.map T.v) j (by simpa using hlt)
                  rw [List.getElem_map, HX.out] at hs
                  simp only [V.fits, Bool.and_eq_true, decide_eq_true_eq] at hf
                  obtain ⟨⟨ho, hz⟩, hdp⟩ := hf
                  refine ⟨j + 1, hlt, by go_num, fitsTo_succ HA.out (by simpa using hlt) (by rw [List.getElem_map, HX.out]; exact ho) (by rw [List.getElem_map, HX.out]; exact hdp), by omega, ?_⟩
                  refine ⟨(inv.fr.alloc _).trans fr2, ?_, k1', k2, k3, (inv.b0.alloc _).fr fr2 (by omega), (inv.b1.alloc _).fr fr2 (by omega)⟩
                  rw [k0, hs, Nat.sub_sub _ (sizeTo _ _) (V.size _)]
                case measure => simp [intOf]; omega
            · have d1 : wr.cell? ⟨w.heap.size + 1, 1, none⟩ = some (.int .i64 n) := inv.b1.cell 1
              have d2 : wr.cell? ⟨w.heap.size + 1, 2, none⟩ = some (.string s) := inv.b1.cell 2
              have d3 : wr.cell? ⟨w.heap.size + 1, 3, none⟩ = some (.slice A l.length cap) := inv.b1.cell 3
              have d4 : wr.cell? ⟨w.heap.size + 1, 4, none⟩ = some (.int .i64 r) := inv.b1.cell 4
              have df := inv.b1.frozen 3
              have hne : ¬ L = w.heap.size + 1 := by omega
              have hne' : ¬ w.heap.size + 1 = L := by omega
              obtain rfl : l.length = j := by omega
              have HT := hide ht
              have HI := hide inv
              clear ht inv ih
              go_wp2
              all_goals
                go_ret
                refine took_done hsz (by omega) (by omega) HA.out (by first | (simp [fok, *]; done) | (simp [fok, *]; omega)) ((HI.out.fr.set (by simp) _).setNew (by simp) _) ?_ ?_ ?_ ?_ <;> simp [go_sem, *]
    · exact take_leaf k n s A cap l r w L p q hL hL' hp hq hf0 hf1 (by omega) hp1 hk

end Go.Proofs.Ytihjmipmjogpoaa

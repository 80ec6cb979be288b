/- Texts joined: X2, B1, X3, B2, X4, B3, M, B4. -/
import Derived.Test.YtihjmipmjogpoaaJn1
import Derived.Test.YtihjmipmjogpoaaProg
import Derived.WalkLawsBesides
import Derived.BigQuiet
import Derived.Deep.QuietTactic
import Derived.Deep.RegionHeld3
import Derived.Deep.AppendLies
import Derived.Deep.RegionLaw
import Derived.Recover
namespace Go.Proofs.Ytihjmipmjogpoaa
open Go.RowKit

/-- Where the loop of 'take' stands behind some rounds. -/
structure TakeInv (w : World) (L a c : Nat) (X : Array Value) (wr : World) : Prop where
  fr : Fr (· = L) w wr
  c0 : wr.cell? ⟨L, 0, none⟩ = some (.int .i64 (a : Int))
  c1 : wr.cell? ⟨L, 1, none⟩ = some (.int .i64 (c : Int))
  f0 : wr.frozen? ⟨L, 0, none⟩ = false
  f1 : wr.frozen? ⟨L, 1, none⟩ = false
  b0 : Blk wr w.heap.size 27 X
  b1 : Blk wr (w.heap.size + 1) 27 X

theorem took_done {n : Int} {s : ByteArray} {A : Option Addr} {cap : Nat} {l : List T} {r : Int} {w W : World} {L p q : Nat} {b : Bool} (hs : sizeTo (l.map T.v) l.length ≤ p - 1) (hp : 1 ≤ p) (hq : 1 ≤ q)
    (hall : fitsTo (l.map T.v) (q - 1) l.length) (hb : b = fok 3 n s l.length r) (hF : Fr (· = L) w W)
    (h0 : W.cell? ⟨L, 0, none⟩ = some (.int .i64 ((p - 1 - sizeTo (l.map T.v) l.length : Nat) : Int))) (h1 : W.cell? ⟨L, 1, none⟩ = some (.int .i64 (((q - 1 : Nat) : Int) + 1)))
    (f0 : W.frozen? ⟨L, 0, none⟩ = false) (f1 : W.frozen? ⟨L, 1, none⟩ = false) : Took L p q (T.mk 3 n s A cap l r).v w (.returned (.bool b)) W := by
  rw [T.v_mk]
  have hl : (l.map T.v).length = l.length := List.length_map ..
  obtain ⟨e1, e2⟩ := fits_done (n := n) (s := s) (l := l.map T.v) (r := r) (by rw [hl]; exact hs) hp hq (by rw [hl]; exact hall)
  rw [hl] at e1 e2
  refine ⟨by rw [e1, hb], hF, fun h => ?_⟩
  rw [e2, h0, h1]
  exact ⟨by congr 3; omega, by congr 2; omega, f0, f1⟩

set_option maxHeartbeats 4000000 in
theorem take_any (t : T) : ∀ (w : World) (L p q lo hi : Nat), t.In w lo hi → hi ≤ L → L < w.heap.size →
    w.cell? ⟨L, 0, none⟩ = some (.int .i64 (p : Int)) → w.cell? ⟨L, 1, none⟩ = some (.int .i64 (q : Int)) →
    w.frozen? ⟨L, 0, none⟩ = false → w.frozen? ⟨L, 1, none⟩ = false → p ≤ 512 → q ≤ 16 →
    Calls Try.prog 150 #[.pointer (some ⟨L, 0, none⟩), t.val] w (Took L p q t.v w) := by
  induction t using T.ind with
  | h k n s A cap l r ih =>
    intro w L p q lo hi ht hh hL hp hq hf0 hf1 hp1 hq1
    have hL' : L ≤ w.heap.size := Nat.le_of_lt hL
    rw [T.val]
    by_cases hp0 : p = 0
    · subst hp0
      have e0 := fits_zero (T.mk k n s A cap l r).v q
      have hp : w.cell? ⟨L, 0, none⟩ = some (.int .i64 0) := by simpa using hp
      go_enter Try.func150, Try.ntmps150
      go_wp2
      go_ret
      exact took_no e0 ((Fr.refl _ w).alloc _)
    by_cases hk : k = 3
    · subst hk
      have hp00 : ((p : Int) == 0) = false := by simp; omega
      have hp2 : (1 : Int) ≤ p := by omega
      have fit : Fit 3 n s l.length cap r := (T.in_mk.1 ht).1
      by_cases hq0 : q = 0
      · subst hq0
        have e0 : (T.mk 3 n s A cap l r).v.fits p 0 = false := by rw [T.v_mk]; exact fits_short (.inr rfl)
        go_enter Try.func150, Try.ntmps150
        go_wp2_with fail
        go_quiet (fail)
        go_wp2
        go_ret
        exact took_no e0 (((((Fr.refl _ w).set (by simp) _).alloc _).alloc _).drewN _)
      · have hq00 : ((q : Int) == 0) = false := by simp; omega
        have hq2 : (1 : Int) ≤ q := by omega
        by_cases hlen : (p : Int) - 1 < (l.length : Int)
        · have e0 : (T.mk 3 n s A cap l r).v.fits p q = false := by rw [T.v_mk]; exact fits_short (.inl (by simp; omega))
          go_enter Try.func150, Try.ntmps150
          go_wp2_with fail
          go_quiet (fail)
          go_wp2
          go_ret
          exact took_no e0 (((((Fr.refl _ w).set (by simp) _).alloc _).alloc _).drewN _)
        · have hlen' : (l.length : Int) ≤ (p : Int) - 1 := by omega
          have hd : decide ((p : Int) - 1 < (l.length : Int)) = false := by simp; omega
          go_enter Try.func150, Try.ntmps150
          go_wp2_with fail
          go_quiet (fail)
          go_wp2
          go_loopw [68] (fun i wr => ∃ j : Nat, j ≤ l.length ∧ i = .int .i64 j ∧ fitsTo (l.map T.v) (q - 1) j ∧ sizeTo (l.map T.v) j ≤ p - 1 ∧
              TakeInv w L (p - 1 - sizeTo (l.map T.v) j) (q - 1) #[.int .u8 3, .int .i64 n, .string s, .slice A l.length cap, .int .i64 r] wr)
            (fun i _ => l.length - (intOf i).toNat)
          case atStart =>
            refine ⟨0, Nat.zero_le _, rfl, fitsTo_zero _ _, by rw [sizeTo_zero]; omega, ?_⟩
            rw [sizeTo_zero]
            refine ⟨((((((Fr.refl _ w).set (by simp) _).alloc _).alloc _).drewN _).set (by simp) _), ?_, ?_, ?_, ?_, ?_, ?_⟩
            · have e : ((p - 1 - 0 : Nat) : Int) = (p : Int) - 1 := by omega
              rw [e]
              go_simp
            · have e : ((q - 1 : Nat) : Int) = (q : Int) - 1 := by omega
              rw [e]
              refine World.cell?_setCell_same _ _ _ (u := .int .i64 (q : Int)) ?_
              go_simp
            · go_simp
            · go_simp
            · exact ((((Blk.new' (w.setCell ⟨L, 0, none⟩ (.int .i64 ((p : Int) - 1))) 27 _ (by simp)).alloc _).drewN _).far (p := ⟨L, 1, none⟩) (by simp; omega) _)
            · exact ((((Blk.new' ((w.setCell ⟨L, 0, none⟩ (.int .i64 ((p : Int) - 1))).alloc _) 27 _ (by simp)).drewN _).far (p := ⟨L, 1, none⟩) (by simp; omega) _))
          case round =>
            obtain ⟨j, hj, rfl, hall, hsz, inv⟩ := hrel
            have HA := hide hall
            clear hall
            have c0 := inv.c0
            have c1 := inv.c1
            have wf0 := inv.f0
            have wf1 := inv.f1
            have hsz0 := inv.fr.size
            have hLr : L < wr.heap.size := by omega
            have hLr' := Nat.le_of_lt hLr
            have hb0 := inv.b0.lt
            have hb1 := inv.b1.lt
            by_cases hlt : j < l.length
            · obtain ⟨b, o, k1, n1, s1, A1, cap1, l1, r1, rfl, hb0, hb1, hx, hin, e0, e1, e2, e3, e4⟩ := T.elem (ht.fr inv.fr (by omega) (fun i _ h1 => by omega)) hlt
              have IH := ih l[j] (List.getElem_mem hlt)
              rw [hx] at IH
              have HX := hide hx
              clear hx ih
              have hle := Nat.le_of_lt hlt
              go_wp2_with fail
              refine (IH _ L (p - 1 - sizeTo (l.map T.v) j) (q - 1) lo hi ?_ hh ?_ ?_ ?_ ?_ ?_ ?_ ?_).mono ?_
              · exact hin.no ((Fr.refl No wr).alloc _) (by omega)
              · simp; omega
              · go_simp
              · go_simp
              · go_simp
              · go_simp
              · omega
              · omega
              rintro e w2 ⟨rfl, fr2, took⟩
              have HT := hide took
              clear took
              cases hf : (T.mk k1 n1 s1 A1 cap1 l1 r1).v.fits (p - 1 - sizeTo (l.map T.v) j) (q - 1)
              · go_wp2
                go_ret
                refine took_no ?_ (((inv.fr.alloc _).trans fr2))
                rw [T.v_mk]
                refine fits_stop (j := j) (by simpa using hlt) (by omega) ?_
                rw [List.getElem_map, HX.out]; exact hf
              · go_wp2
                go_roundw
                case rel =>
                  obtain ⟨k0, k1', k2, k3⟩ := HT.out hf
                  have hs := sizeTo_succ (l.map T.v) j (by simpa using hlt)
                  rw [List.getElem_map, HX.out] at hs
                  simp only [V.fits, Bool.and_eq_true, decide_eq_true_eq] at hf
                  obtain ⟨⟨ho, hz⟩, hdp⟩ := hf
                  refine ⟨j + 1, hlt, by go_num, fitsTo_succ HA.out (by simpa using hlt) (by rw [List.getElem_map, HX.out]; exact ho) (by rw [List.getElem_map, HX.out]; exact hdp), by omega, ?_⟩
                  refine ⟨(inv.fr.alloc _).trans fr2, ?_, k1', k2, k3, (inv.b0.alloc _).fr fr2 (by omega), (inv.b1.alloc _).fr fr2 (by omega)⟩
                  rw [k0, hs, Nat.sub_sub _ (sizeTo _ _) (V.size _)]
                case measure => simp [intOf]; omega
            · have d1 : wr.cell? ⟨w.heap.size + 1, 1, none⟩ = some (.int .i64 n) := inv.b1.cell 1
              have d2 : wr.cell? ⟨w.heap.size + 1, 2, none⟩ = some (.string s) := inv.b1.cell 2
              have d3 : wr.cell? ⟨w.heap.size + 1, 3, none⟩ = some (.slice A l.length cap) := inv.b1.cell 3
              have d4 : wr.cell? ⟨w.heap.size + 1, 4, none⟩ = some (.int .i64 r) := inv.b1.cell 4
              have df := inv.b1.frozen 3
              have hne : ¬ L = w.heap.size + 1 := by omega
              have hne' : ¬ w.heap.size + 1 = L := by omega
              obtain rfl : l.length = j := by omega
              have HT := hide ht
              have HI := hide inv
              clear ht inv ih
              go_wp2
              all_goals
                go_ret
                refine took_done hsz (by omega) (by omega) HA.out (by first | (simp [fok, *]; done) | (simp [fok, *]; omega)) ((HI.out.fr.set (by simp) _).setNew (by simp) _) ?_ ?_ ?_ ?_ <;> simp [go_sem, *]
    · exact take_leaf k n s A cap l r w L p q hL hL' hp hq hf0 hf1 (by omega) hp1 hk

end Go.Proofs.Ytihjmipmjogpoaa

/- measure, May, Parts: whether a value may be, and how many parts it has. -/
namespace Go.Proofs.Ytihjmipmjogpoaa
open Go.RowKit

/-- How many parts; 0: it may not be. -/
def V.meas (v : V) : Nat := if v.may = true then v.size else 0

theorem T.val_mk (k n : Int) (s : ByteArray) (A : Option Addr) (cap : Nat) (l : List T) (r : Int) :
    (T.mk k n s A cap l r).val = .agg #[.int .u8 k, .int .i64 n, .string s, .slice A l.length cap, .int .i64 r] := rfl

set_option maxHeartbeats 1000000 in
theorem measure_any (t : T) (w : World) (lo hi : Nat) (ht : t.In w lo hi) (hh : hi ≤ w.heap.size) :
    Calls Try.prog 119 #[t.val] w fun e w' => e = .returned (.int .i64 (t.v.meas : Int)) ∧ Fr No w w' := by
  cases t with
  | mk k n s A cap l r =>
    have IH := take_any (.mk k n s A cap l r)
    rw [T.val_mk] at *
    have HT := hide ht
    clear ht
    go_enter Try.func119, Try.ntmps119
    go_wp2_with fail
    refine (IH _ (w.heap.size + 1) 512 16 lo hi ?_ ?_ ?_ ?_ ?_ ?_ ?_ ?_ ?_).mono ?_
    · exact HT.out.no (((Fr.refl No w).alloc _).alloc _) hh
    · omega
    · simp
    · go_simp
    · go_simp
    · go_simp
    · go_simp
    · omega
    · omega
    rintro e w2 ⟨rfl, fr2, took⟩
    have hF : Fr No w w2 := (((Fr.refl No w).alloc _).alloc _).trans' fr2 fun i hi h => by omega
    have HK := hide took
    clear took IH
    cases hf : (T.mk k n s A cap l r).v.fits 512 16
    · have hm : (T.mk k n s A cap l r).v.meas = 0 := by simp [V.meas, V.may, hf]
      have HM := hide hm
      have HF := hide hF
      clear hF hm hf
      go_wp2
      go_ret
      exact ⟨by rw [HM.out]; rfl, HF.out⟩
    · have hm : (T.mk k n s A cap l r).v.meas = (T.mk k n s A cap l r).v.size := by simp [V.meas, V.may, hf]
      have HM := hide hm
      obtain ⟨c0, c1, f0, f1⟩ := HK.out hf
      have hle : (T.mk k n s A cap l r).v.size ≤ 512 := by
        simp [V.fits] at hf; omega
      clear hm hf
      generalize (T.mk k n s A cap l r).v.size = z at *
      have e : ((512 - z : Nat) : Int) = 512 - (z : Int) := by omega
      rw [e] at c0
      clear e
      go_wp2
      go_ret
      exact ⟨by rw [HM.out]; go_num, hF⟩

set_option maxHeartbeats 1000000 in
theorem may_any (t : T) (w : World) (lo hi : Nat) (ht : t.In w lo hi) (hh : hi ≤ w.heap.size) :
    Calls Try.prog 58 #[t.val] w fun e w' => e = .returned (.bool t.v.may) ∧ Fr No w w' := by
  have IH := fun w' h h' => measure_any t w' lo hi h h'
  cases hm : t.v.may
  · have HM : t.v.meas = 0 := by simp [V.meas, hm]
    rw [HM] at IH
    cases t with
    | mk k n s A cap l r =>
      rw [T.val_mk] at *
      go_enter Try.func58, Try.ntmps58
      go_wp2_with fail
      refine (IH _ (ht.no ((Fr.refl No w).alloc _) hh) (by simp; omega)).mono ?_
      rintro e w2 ⟨rfl, fr2⟩
      go_wp2
      go_ret
      exact ⟨rfl, ((Fr.refl No w).alloc _).trans fr2⟩
  · have HM : 0 < t.v.meas := by simp [V.meas, hm]; exact t.v.size_pos
    cases t with
    | mk k n s A cap l r =>
      rw [T.val_mk] at *
      generalize (T.mk k n s A cap l r).v.meas = z at *
      go_enter Try.func58, Try.ntmps58
      go_wp2_with fail
      refine (IH _ (ht.no ((Fr.refl No w).alloc _) hh) (by simp; omega)).mono ?_
      rintro e w2 ⟨rfl, fr2⟩
      go_wp2
      go_ret
      exact ⟨by simp, ((Fr.refl No w).alloc _).trans fr2⟩

set_option maxHeartbeats 1000000 in
theorem parts_any (t : T) (w : World) (lo hi : Nat) (ht : t.In w lo hi) (hh : hi ≤ w.heap.size) :
    Calls Try.prog 56 #[t.val] w fun e w' => e = .returned (.int .i64 (t.v.meas : Int)) ∧ Fr No w w' := by
  have IH := fun w' h h' => measure_any t w' lo hi h h'
  cases t with
  | mk k n s A cap l r =>
    rw [T.val_mk] at *
    generalize (T.mk k n s A cap l r).v.meas = z at *
    go_enter Try.func56, Try.ntmps56
    go_wp2_with fail
    refine (IH _ (ht.no ((Fr.refl No w).alloc _) hh) (by simp; omega)).mono ?_
    rintro e w2 ⟨rfl, fr2⟩
    go_wp2
    go_ret
    exact ⟨rfl, ((Fr.refl No w).alloc _).trans fr2⟩

end Go.Proofs.Ytihjmipmjogpoaa

namespace Go.Proofs.Ytihjmipmjogpoaa
open Go.RowKit
theorem value_info : (Try.prog.info? 27).map (fun i => (i.zero, i.size, i.bytes)) = some (some (.agg #[.int .u8 0, .int .i64 0, .string ⟨#[]⟩, .slice none 0 0, .int .i64 0]), 5, 64) := by kernel_rfl

theorem run_make_rowN {P : Program} (t e : TypeId) (i : TypeInfo) (z : Value) (ht : P.underlying t = some (.slice e)) (hi : P.info? e = some i) (hz : i.zero = some z)
    (kl kc : IntKind) (n c : Nat) (hnc : n ≤ c) (hbytes : i.bytes * c ≤ 281474976710656) (h63 : c ≤ 9223372036854775807) (w : World) :
    (Instr.makeSlice t (.int kl (n : Int)) (.int kc (c : Int))).run P w = .ok (.slice (some ⟨w.heap.size, 0, none⟩) n c) (w.alloc (.cells (madeCells z.cells (c * i.size)) e)) := by
  have hb : (i.bytes : Int) * (c : Int) ≤ 281474976710656 := by
    have h : ((i.bytes * c : Nat) : Int) ≤ 281474976710656 := by omega
    rwa [Int.natCast_mul] at h
  have hr := run_make (P := P) w t e i z ht hi hz kl kc n c (by omega) (by omega) hb (by omega)
  simp only [Int.toNat_natCast] at hr
  exact hr

/-- A value of the same data in memory of its own, all of it new. -/
def OwnP (v : V) (w : World) (e : Ending) (w' : World) : Prop :=
  ∃ t' : T, e = .returned t'.val ∧ t'.v = v ∧ t'.Ow w' w.heap.size w'.heap.size ∧ Fr No w w'

/-- Where the loop of 'own' stands. -/
structure OwnInv (w : World) (X Z : Array Value) (l : List T) (j : Nat) (l' : List T) (wr : World) : Prop where
  len : l'.length = j
  vs : l'.map T.v = (l.take j).map T.v
  fr : Fr No w wr
  b0 : Blk wr w.heap.size 27 X
  b1 : Blk wr (w.heap.size + 1) 27 Z
  row : ∃ cs, Blk wr (w.heap.size + 1 + 1) 27 cs ∧ cs.size = l.length * 5 ∧ RowIs cs 0 l'
  forest : Forest wr (w.heap.size + 3) wr.heap.size l'
  big : w.heap.size + 3 ≤ wr.heap.size

set_option maxHeartbeats 1000000 in
theorem own_any (t : T) : ∀ (w : World) (lo hi : Nat), t.In w lo hi → hi ≤ w.heap.size → Calls Try.prog 104 #[t.val] w (OwnP t.v w) := by
  induction t using T.ind with
  | h k n s A cap l r ih =>
    intro w lo hi ht hh
    rw [T.val_mk]
    have fit := (T.in_mk.1 ht).1
    have hlen := fit.len1
    obtain ⟨i0, hi0, hz0, hz1, hz2⟩ := info_parts value_info
    have hmk := fun W => run_make_rowN (P := Try.prog) 24 27 i0 _ Try.underlying24 hi0 hz0 .i64 .i64 l.length l.length (Nat.le_refl _) (by rw [hz2]; omega) (by omega) W
    rw [hz1] at hmk
    clear hi0 hz0 hz1 hz2
    by_cases hl : l.length = 0
    · have hl0 : ((l.length : Int) == 0) = true := by simp [hl]
      obtain rfl : l = [] := List.eq_nil_of_length_eq_zero hl
      clear hmk
      go_enter Try.func104, Try.ntmps104
      go_wp2
      refine bodyPost_ret (v := .agg #[.int .u8 k, .int .i64 n, .string s, .slice none 0 0, .int .i64 r]) (by simp [results, Try.results104, go_sem]) rfl ?_
      refine ⟨T.mk k n s none 0 [] r, rfl, by simp [T.v_mk], T.ow_nil ⟨fit.k0, fit.k1, fit.n0, fit.n1, fit.s1, by simp, Nat.le_refl _, fit.r0, fit.r1⟩, ?_⟩
      exact ((Fr.refl No w).alloc _).alloc _
    · have hl0 : ((l.length : Int) == 0) = false := by simp; intro h; subst h; simp at hl
      have hl1 : (0 : Int) < (l.length : Int) := by omega
      go_enter Try.func104, Try.ntmps104
      go_wp2_with fail
      go_loopw [19] (fun i wr => ∃ (j : Nat) (l' : List T), j ≤ l.length ∧ i = .int .i64 j ∧
          OwnInv w #[.int .u8 k, .int .i64 n, .string s, .slice A l.length cap, .int .i64 r] #[.int .u8 0, .int .i64 0, .string ⟨#[]⟩, .slice none 0 0, .int .i64 0] l j l' wr)
        (fun i _ => l.length - (intOf i).toNat)
      case atStart =>
        refine ⟨0, [], Nat.zero_le _, rfl, rfl, by simp, (((Fr.refl No w).alloc _).alloc _).alloc _, ((Blk.new' w 27 _ rfl).alloc _).alloc _, (Blk.new' (w.alloc _) 27 _ (by simp)).alloc _,
          ⟨_, Blk.new' ((w.alloc _).alloc _) 27 _ (by simp), size_madeCells _ _, RowIs.nil _ _⟩, Forest.nil _ _ _, by simp⟩
      case round =>
        obtain ⟨j, l', hj, rfl, inv⟩ := hrel
        have fr := inv.fr
        have big := inv.big
        by_cases hlt : j < l.length
        · obtain ⟨b, o, k1, n1, s1, A1, cap1, l1, r1, rfl, hb0, hb1, hx, hin, e0, e1, e2, e3, e4⟩ := T.elem (ht.no fr hh) hlt
          have IH := ih l[j] (List.getElem_mem hlt)
          rw [hx] at IH
          have HX := hide hx
          have hle := Nat.le_of_lt hlt
          have HI := hide inv
          clear hx ih inv hmk
          go_wp2_with fail
          refine (IH _ lo hi (hin.no ((Fr.refl No wr).alloc _) (by omega)) (by simp; omega)).mono ?_
          rintro e w2 ⟨t', rfl, hv, ow, fr2⟩
          have HV := hide hv
          clear hv
          simp only [World.size_alloc] at ow
          cases t' with
          | mk k2 n2 s2 A2 cap2 l2 r2 =>
            rw [T.val_mk]
            obtain ⟨cs, hb, hcs, hrow⟩ := HI.out.row
            have blk2 := (hb.alloc (.cells #[.int .u8 k1, .int .i64 n1, .string s1, .slice A1 l1.length cap1, .int .i64 r1] 27)).fr fr2 (fun h => h)
            obtain ⟨y0, x0⟩ : ∃ y, w2.cell? ⟨w.heap.size + 1 + 1, j * 5, none⟩ = some y := ⟨cs[j * 5]'(by omega), by rw [blk2.cell]; exact Array.getElem?_eq_getElem _⟩
            obtain ⟨y1, x1⟩ : ∃ y, w2.cell? ⟨w.heap.size + 1 + 1, j * 5 + 1, none⟩ = some y := ⟨cs[j * 5 + 1]'(by omega), by rw [blk2.cell]; exact Array.getElem?_eq_getElem _⟩
            obtain ⟨y2, x2⟩ : ∃ y, w2.cell? ⟨w.heap.size + 1 + 1, j * 5 + 2, none⟩ = some y := ⟨cs[j * 5 + 2]'(by omega), by rw [blk2.cell]; exact Array.getElem?_eq_getElem _⟩
            obtain ⟨y3, x3⟩ : ∃ y, w2.cell? ⟨w.heap.size + 1 + 1, j * 5 + 3, none⟩ = some y := ⟨cs[j * 5 + 3]'(by omega), by rw [blk2.cell]; exact Array.getElem?_eq_getElem _⟩
            obtain ⟨y4, x4⟩ : ∃ y, w2.cell? ⟨w.heap.size + 1 + 1, j * 5 + 4, none⟩ = some y := ⟨cs[j * 5 + 4]'(by omega), by rw [blk2.cell]; exact Array.getElem?_eq_getElem _⟩
            have xf := blk2.frozen
            have HB := hide blk2
            have HR := hide hrow
            have HC := hide hcs
            have HO := hide ow
            clear blk2 hb hrow hcs ow
            go_wp2
            go_roundw
            case rel =>
              have inv := HI.out
              have hcs := HC.out
              have hsz2 := fr2.size
              simp only [World.size_alloc] at hsz2
              have hfar : ∀ {g : Nat} {X : Array Value}, g < w.heap.size + 2 → Blk wr g 27 X → Blk (((((w2.setCell ⟨w.heap.size + 1 + 1, j * 5, none⟩ (.int .u8 k2)).setCell ⟨w.heap.size + 1 + 1, j * 5 + 1, none⟩ (.int .i64 n2)).setCell ⟨w.heap.size + 1 + 1, j * 5 + 2, none⟩ (.string s2)).setCell
                  ⟨w.heap.size + 1 + 1, j * 5 + 3, none⟩ (.slice A2 l2.length cap2)).setCell ⟨w.heap.size + 1 + 1, j * 5 + 4, none⟩ (.int .i64 r2)) g 27 X := fun {g X} hg hX =>
                (((((((hX.alloc _).fr fr2 (fun h => h)).far (by simp; omega) _).far (by simp; omega) _).far (by simp; omega) _).far (by simp; omega) _).far (by simp; omega) _)
              have hst : Fr (· = w.heap.size + 1 + 1) w2 (((((w2.setCell ⟨w.heap.size + 1 + 1, j * 5, none⟩ (.int .u8 k2)).setCell ⟨w.heap.size + 1 + 1, j * 5 + 1, none⟩ (.int .i64 n2)).setCell ⟨w.heap.size + 1 + 1, j * 5 + 2, none⟩ (.string s2)).setCell
                  ⟨w.heap.size + 1 + 1, j * 5 + 3, none⟩ (.slice A2 l2.length cap2)).setCell ⟨w.heap.size + 1 + 1, j * 5 + 4, none⟩ (.int .i64 r2)) := (Fr.refl (fun i => i = w.heap.size + 1 + 1) w2).five (fun _ => rfl) _ _ _ _ _ _
              refine ⟨j + 1, l' ++ [T.mk k2 n2 s2 A2 cap2 l2 r2], hlt, by go_num, by simp [inv.len], ?_, ?_, hfar (by omega) inv.b0, hfar (by omega) inv.b1, ⟨_, HB.out.five _ _ _ _ _ _, ?_, ?_⟩, ?_, ?_⟩
              · rw [List.map_append, inv.vs, List.take_succ_eq_append_getElem hlt, List.map_append, List.map_singleton, List.map_singleton, HV.out, HX.out]
              · exact (((fr.alloc _).thenNo fr2).five (by omega) _ _ _ _ _ _)
              · simpa using hcs
              · have := HR.out.five (k := k2) (n := n2) (s := s2) (A := A2) (cap := cap2) (l1 := l2) (r := r2) (by rw [inv.len, hcs]; omega)
                simpa [inv.len] using this
              · have h1 : Forest w2 (w.heap.size + 3) (wr.heap.size + 1) l' := ((inv.forest.no ((Fr.refl No wr).alloc _) (Nat.le_refl _)).no fr2 (by simp)).more (Nat.le_refl _) (by omega)
                have h2 := h1.snoc HO.out (by omega) hsz2
                simpa using h2.fr hst (Nat.le_refl _) (fun i hi _ e => by omega)
              · simp; omega
            case measure => simp [intOf]; omega
        · obtain rfl : l.length = j := by omega
          have c0 : wr.cell? ⟨w.heap.size, 0, none⟩ = some (.int .u8 k) := inv.b0.cell 0
          have c1 : wr.cell? ⟨w.heap.size, 1, none⟩ = some (.int .i64 n) := inv.b0.cell 1
          have c2 : wr.cell? ⟨w.heap.size, 2, none⟩ = some (.string s) := inv.b0.cell 2
          have c3 : wr.cell? ⟨w.heap.size, 3, none⟩ = some (.slice A l.length cap) := inv.b0.cell 3
          have c4 : wr.cell? ⟨w.heap.size, 4, none⟩ = some (.int .i64 r) := inv.b0.cell 4
          have cf := inv.b0.frozen 3
          have d0 : wr.cell? ⟨w.heap.size + 1, 0, none⟩ = some (.int .u8 0) := inv.b1.cell 0
          have d1 : wr.cell? ⟨w.heap.size + 1, 1, none⟩ = some (.int .i64 0) := inv.b1.cell 1
          have d2 : wr.cell? ⟨w.heap.size + 1, 2, none⟩ = some (.string ⟨#[]⟩) := inv.b1.cell 2
          have d3 : wr.cell? ⟨w.heap.size + 1, 3, none⟩ = some (.slice none 0 0) := inv.b1.cell 3
          have d4 : wr.cell? ⟨w.heap.size + 1, 4, none⟩ = some (.int .i64 0) := inv.b1.cell 4
          have df := inv.b1.frozen
          have HI := hide inv
          clear inv hmk ih
          go_wp2
          have inv := HI.out
          refine bodyPost_ret (v := .agg #[.int .u8 k, .int .i64 n, .string s, .slice (some ⟨w.heap.size + 1 + 1, 0, none⟩) l.length l.length, .int .i64 r]) (by simp [results, Try.results104, go_sem, *]) rfl ?_
          generalize hW : World.setCell _ _ _ = W
          have hfr : Fr (fun i => i = w.heap.size ∨ i = w.heap.size + 1) wr W := by
            rw [← hW]
            repeat (first | with_reducible exact Fr.refl _ wr | with_reducible refine Fr.set ?_ (by simp) _)
          obtain ⟨cs, hb, hcs, hrow⟩ := inv.row
          have hl' := inv.len
          have hb' : Blk W (w.heap.size + 1 + 1) 27 cs := hb.fr hfr (by omega)
          have hF : Forest W (w.heap.size + 3) wr.heap.size l' := inv.forest.fr hfr (Nat.le_refl _) (fun i h0 h1 h2 => by omega)
          have hsz := hfr.size
          refine ⟨T.mk k n s (some ⟨w.heap.size + 1 + 1, 0, none⟩) l.length l' r, by rw [T.val_mk, hl'], ?_, ?_, inv.fr.trans' hfr (fun i hi h => by omega)⟩
          · rw [T.v_mk, T.v_mk, inv.vs, List.take_of_length_le (Nat.le_refl _)]
          · refine T.ow_mk ⟨fit.k0, fit.k1, fit.n0, fit.n1, fit.s1, by omega, by omega, fit.r0, fit.r1⟩ (hF.more (by omega) hsz) hb' hrow (by omega) (by omega) (fun hm => ?_)
            have := hF.blocks _ hm
            omega
end Go.Proofs.Ytihjmipmjogpoaa

/- value.Own and brand.own: a value in memory of its own. -/
namespace Go.Proofs.Ytihjmipmjogpoaa
open Go.RowKit

/-- The zero value. -/
def T.zero : T := .mk 0 0 ⟨#[]⟩ none 0 [] 0
def V.zero : V := .mk 0 0 ⟨#[]⟩ [] 0
theorem T.zero_v : T.zero.v = V.zero := by simp [T.zero, T.v_mk, V.zero]
theorem T.zero_ow (w : World) (lo hi : Nat) : T.zero.Ow w lo hi := T.ow_nil ⟨by decide, by decide, by decide, by decide, by decide, by decide, by decide, by decide, by decide⟩
theorem T.zero_val : T.zero.val = .agg #[.int .u8 0, .int .i64 0, .string ⟨#[]⟩, .slice none 0 0, .int .i64 0] := rfl

/-- A value in new memory, and an error's number. -/
def OwnE (v : V) (n : Int) (w : World) (e : Ending) (w' : World) : Prop :=
  ∃ t' : T, e = .returned (.tuple #[t'.val, .int .i64 n]) ∧ t'.v = v ∧ t'.Ow w' w.heap.size w'.heap.size ∧ Fr No w w'

set_option maxHeartbeats 1000000 in
theorem Own_any (t : T) (w : World) (lo hi : Nat) (ht : t.In w lo hi) (hh : hi ≤ w.heap.size) :
    Calls Try.prog 61 #[t.val] w (OwnE (if t.v.may = true then t.v else V.zero) (if t.v.may = true then 0 else 2) w) := by
  have hM := fun w' h h' => may_any t w' lo hi h h'
  have hO := fun w' h h' => own_any t w' lo hi h h'
  cases t with
  | mk k n s A cap l r =>
    rw [T.val_mk] at *
    cases hm : (T.mk k n s A cap l r).v.may
    · rw [hm] at hM
      go_enter Try.func61, Try.ntmps61
      go_wp2_with fail
      refine (hM _ (ht.no (((Fr.refl No w).alloc _).alloc _) hh) (by simp; omega)).mono ?_
      rintro e w2 ⟨rfl, fr2⟩
      have hsz := fr2.size
      simp only [World.size_alloc] at hsz
      have hs0 : w.heap.size + 1 < w2.heap.size := by omega
      have b1 := (Blk.new' (w.alloc (.cells #[.int .u8 k, .int .i64 n, .string s, .slice A l.length cap, .int .i64 r] 27)) 27 #[.int .u8 0, .int .i64 0, .string ⟨#[]⟩, .slice none 0 0, .int .i64 0] (g := w.heap.size + 1) (by simp)).fr fr2 (fun h => h)
      obtain ⟨d0, d1, d2, d3, d4, df⟩ := b1.cells5
      have hF2 : Fr No w w2 := (((Fr.refl No w).alloc _).alloc _).trans fr2
      have HF := hide hF2
      clear b1 hO hF2
      go_wp2
      refine bodyPost_ret (v := .tuple #[.agg #[.int .u8 0, .int .i64 0, .string ⟨#[]⟩, .slice none 0 0, .int .i64 0], .int .i64 2]) (by simp [results, Try.results61, go_sem, *]) rfl ?_
      have hF2 := HF.out
      exact ⟨T.zero, rfl, T.zero_v, T.zero_ow _ _ _, (by repeat (first | with_reducible exact hF2 | with_reducible refine Fr.setNew ?_ (by simp) _ | with_reducible refine Fr.alloc ?_ _))⟩
    · rw [hm] at hM
      go_enter Try.func61, Try.ntmps61
      go_wp2_with fail
      refine (hM _ (ht.no (((Fr.refl No w).alloc _).alloc _) hh) (by simp; omega)).mono ?_
      rintro e w2 ⟨rfl, fr2⟩
      have hsz := fr2.size
      simp only [World.size_alloc] at hsz
      have hs0 : w.heap.size + 1 < w2.heap.size := by omega
      have b0 := ((Blk.new' w 27 #[.int .u8 k, .int .i64 n, .string s, .slice A l.length cap, .int .i64 r] (g := w.heap.size) rfl).alloc (.cells #[.int .u8 0, .int .i64 0, .string ⟨#[]⟩, .slice none 0 0, .int .i64 0] 27)).fr fr2 (fun h => h)
      have b1 := (Blk.new' (w.alloc (.cells #[.int .u8 k, .int .i64 n, .string s, .slice A l.length cap, .int .i64 r] 27)) 27 #[.int .u8 0, .int .i64 0, .string ⟨#[]⟩, .slice none 0 0, .int .i64 0] (g := w.heap.size + 1) (by simp)).fr fr2 (fun h => h)
      obtain ⟨c0, c1, c2, c3, c4, cf⟩ := b0.cells5
      obtain ⟨d0, d1, d2, d3, d4, df⟩ := b1.cells5
      have hF2 : Fr No w w2 := (((Fr.refl No w).alloc _).alloc _).trans fr2
      have HT := hide (ht.no hF2 hh)
      clear ht
      have HF := hide hF2
      have HB := hide b1
      clear b1 b0 hF2
      go_wp2_with fail
      refine (hO _ HT.out (by omega)).mono ?_
      rintro e w3 ⟨t', rfl, hv, ow, fr3⟩
      have b1 := HB.out.fr fr3 (fun h => h)
      obtain ⟨d0, d1, d2, d3, d4, df⟩ := b1.cells5
      have hF2 := HF.out.trans fr3
      have HF2 := hide hF2
      have HV := hide hv
      have HO := hide ow
      have hsz3 := fr3.size
      clear hv ow hF2 b1
      cases t' with
      | mk k2 n2 s2 A2 cap2 l2 r2 =>
        rw [T.val_mk]
        go_wp2
        refine bodyPost_ret (v := .tuple #[.agg #[.int .u8 k2, .int .i64 n2, .string s2, .slice A2 l2.length cap2, .int .i64 r2], .int .i64 0]) (by simp [results, Try.results61, go_sem, *]) rfl ?_
        have hF2 := HF2.out
        refine ⟨T.mk k2 n2 s2 A2 cap2 l2 r2, rfl, HV.out, ?_, (by repeat (first | with_reducible exact hF2 | with_reducible refine Fr.setNew ?_ (by simp) _ | with_reducible refine Fr.alloc ?_ _))⟩
        refine (HO.out.fr (S := (· = w.heap.size + 1)) ?_ (Nat.le_refl _) (fun i h0 h1 h2 => by omega)).more (by omega) (by simp)
        repeat (first | with_reducible exact Fr.refl _ w3 | with_reducible refine Fr.set ?_ (by simp) _)

end Go.Proofs.Ytihjmipmjogpoaa

namespace Go.Proofs.Ytihjmipmjogpoaa
open Go.RowKit

/-- What a pair's or a row's mark looks like, out of what its parts' do. -/
def listMk (ps : List (Value → Prop)) (m : Value) : Prop :=
  match ps with
  | [p, q] => ∃ x y, m = .iface 180 (.agg #[x, y]) ∧ p x ∧ q y
  | _ => ∃ A len cap, m = .iface 183 (.agg #[.slice A len cap])

def mkOf (k n : Int) (s : ByteArray) (ps : List (Value → Prop)) (r : Int) (m : Value) : Prop :=
  if k = 1 then m = .iface 176 (.int .i64 n)
  else if k = 2 then m = .iface 177 (.string s)
  else if k = 4 then m = .iface 178 (.int .i64 r)
  else if k = 3 then listMk ps m
  else m = .iface 185 (.agg #[])

/-- What the mark of a value looks like. -/
def IsMk : V → Value → Prop
  | .mk k n s l r => mkOf k n s (l.map IsMk) r
termination_by v => v

theorem IsMk_mk (k n : Int) (s : ByteArray) (l : List V) (r : Int) : IsMk (.mk k n s l r) = mkOf k n s (l.map IsMk) r := by rw [IsMk]

theorem listMk_row {ps : List (Value → Prop)} {m : Value} (h : ps.length ≠ 2) : listMk ps m = ∃ A len cap, m = .iface 183 (.agg #[.slice A len cap]) := by
  match ps, h with
  | [], _ => rfl
  | [p], _ => rfl
  | [p, q], h => simp at h
  | p :: q :: x :: ps, _ => rfl

theorem mkOf.iface {k n : Int} {s : ByteArray} {ps : List (Value → Prop)} {r : Int} {m : Value} (h : mkOf k n s ps r m) : ∃ ty x, m = .iface ty x := by
  unfold mkOf at h
  by_cases h1 : k = 1
  · rw [if_pos h1] at h; exact ⟨_, _, h⟩
  rw [if_neg h1] at h
  by_cases h2 : k = 2
  · rw [if_pos h2] at h; exact ⟨_, _, h⟩
  rw [if_neg h2] at h
  by_cases h4 : k = 4
  · rw [if_pos h4] at h; exact ⟨_, _, h⟩
  rw [if_neg h4] at h
  by_cases h3 : k = 3
  · rw [if_pos h3] at h
    by_cases hl : ps.length = 2
    · obtain ⟨p, q, rfl⟩ : ∃ p q, ps = [p, q] := by
        match ps, hl with
        | [p, q], _ => exact ⟨p, q, rfl⟩
      obtain ⟨x, y, h, _⟩ := h; exact ⟨_, _, h⟩
    · rw [listMk_row hl] at h
      obtain ⟨A, le, ca, h⟩ := h; exact ⟨_, _, h⟩
  · rw [if_neg h3] at h; exact ⟨_, _, h⟩

theorem IsMk.iface {v : V} {m : Value} (h : IsMk v m) : ∃ ty x, m = .iface ty x := by
  cases v with
  | mk k n s l r => rw [IsMk_mk] at h; exact mkOf.iface h

def MarkP (v : V) (w : World) (e : Ending) (w' : World) : Prop := ∃ m, e = .returned m ∧ IsMk v m ∧ Fr No w w'

theorem Fr.grownNo {a w : World} (h : Fr No a w) : a.grownBy w none := ⟨h.os, h.tape, h.output, h.size, fun k hk _ => h.block k hk (fun h => h)⟩

theorem owns_no {a w : World} {base : Nat} {e : TypeId} {size : Nat} {v : Value} {n : Nat} {xs : List Value} (h : a.ownsRow base e size v n xs) (hf : Fr No a w) : w.ownsRow base e size v n xs :=
  h.kept hf.grownNo (by cases v.ownBlock <;> simp)

theorem mark_after {W0 w2 : World} {g base j : Nat} {v m : Value} {xs : List Value} (hb : Blk W0 g 183 #[v]) (ho : W0.ownsRow base 45 1 v j xs) (fr : Fr No W0.drew w2) :
    (w2.alloc (.cells #[m] 45)).ownsRow base 45 1 v j xs ∧ (w2.alloc (.cells #[m] 45)).cell? ⟨g, 0, none⟩ = some v ∧ (w2.alloc (.cells #[m] 45)).frozen? ⟨g, 0, none⟩ = false ∧ w2.cell? ⟨g, 0, none⟩ = some v ∧ W0.heap.size ≤ w2.heap.size ∧ g < w2.heap.size := by
  have h1 : Blk w2 g 183 #[v] := Blk.fr (a := W0.drew) hb fr (fun h => h)
  have h2 := h1.alloc (.cells #[m] 45)
  exact ⟨(owns_no (a := W0.drew) ho fr).alloc _, h2.cell 0, h2.frozen 0, h1.cell 0, fr.size, h1.lt⟩

theorem mark_grown {W w3 : World} {g : Nat} {v : Value} (hg : W.grownBy w3 v.ownBlock) (hc : W.cell? ⟨g, 0, none⟩ = some v) (hf : W.frozen? ⟨g, 0, none⟩ = false) (hlt : g < W.heap.size) (hne : some g ≠ v.ownBlock) :
    w3.cell? ⟨g, 0, none⟩ = some v ∧ w3.frozen? ⟨g, 0, none⟩ = false :=
  ⟨(hg.cell_far ⟨g, 0, none⟩ hlt hne).trans hc, (hg.frozen_far ⟨g, 0, none⟩ hlt hne).trans hf⟩

structure MarkInv (w : World) (X : Array Value) (j : Nat) (wr : World) : Prop where
  fr : Fr No w wr
  big : w.heap.size + 2 ≤ wr.heap.size
  row : ∃ v xs, Blk wr (w.heap.size + 1) 183 #[v] ∧ wr.ownsRow (w.heap.size + 2) 45 1 v j xs

theorem mark_info : (Try.prog.info? 45).map (fun i => (i.zero, i.size, i.bytes)) = some (some .nilIface, 1, 16) := by kernel_rfl

theorem at2 {α : Type} {l : List α} (h : l.length = 2) : ∃ a b, l = [a, b] := by
  match l, h with
  | [a, b], _ => exact ⟨a, b, rfl⟩

set_option maxRecDepth 100000 in
set_option maxHeartbeats 2000000 in
theorem mark_any (t : T) : ∀ (w : World) (lo hi : Nat), t.In w lo hi → hi ≤ w.heap.size → Calls Try.prog 93 #[t.val] w (MarkP t.v w) := by
  induction t using T.ind with
  | h k n s A cap l r ih =>
    intro w lo hi ht hh
    rw [T.val_mk]
    have fit := (T.in_mk.1 ht).1
    have hlen := fit.len1
    by_cases h3 : k = 3
    · subst h3
      by_cases hl2 : l.length = 2
      · obtain ⟨x1, x2, rfl⟩ := at2 hl2
        obtain ⟨b, o, k1, n1, s1, A1, cap1, l1, r1, rfl, hb0, hb1, rfl, hin, e0, e1, e2, e3, e4⟩ := T.elem ht (j := 0) (by simp)
        obtain ⟨b', o', k2, n2, s2, A2, cap2, l2, r2, hbb, hb0', hb1', rfl, hin', f0, f1, f2, f3, f4⟩ := T.elem ht (j := 1) (by simp)
        simp only [Option.some.injEq, Addr.mk.injEq, and_true] at hbb
        obtain ⟨rfl, rfl⟩ := hbb
        have IH1 := ih _ (by simp : T.mk k1 n1 s1 A1 cap1 l1 r1 ∈ _)
        have IH2 := ih _ (by simp : T.mk k2 n2 s2 A2 cap2 l2 r2 ∈ _)
        rw [T.val_mk] at IH1 IH2
        simp only [Nat.zero_mul, Nat.add_zero, Nat.one_mul] at e0 e1 e2 e3 e4 f0 f1 f2 f3 f4
        have hbw : b < w.heap.size := by omega
        have hbw' : b ≤ w.heap.size := by omega
        clear ih hl2
        go_enter Try.func93, Try.ntmps93
        go_wp2_with fail
        have frw := (Fr.refl No w).alloc (.cells #[.int .u8 3, .int .i64 n, .string s, .slice (some ⟨b, o, none⟩) 2 cap, .int .i64 r] 27)
        obtain ⟨c0, c1, c2, c3, c4, cf⟩ := (Blk.new w 27 #[.int .u8 3, .int .i64 n, .string s, .slice (some ⟨b, o, none⟩) 2 cap, .int .i64 r]).cells5
        have hin1 := hin.no frw hh
        have hin2 := hin'.no frw hh
        rw [← frw.cells _ _ hbw] at e0 e1 e2 e3 e4 f0 f1 f2 f3 f4
        have hsz0 : (w.alloc (.cells #[.int .u8 3, .int .i64 n, .string s, .slice (some ⟨b, o, none⟩) 2 cap, .int .i64 r] 27)).heap.size = w.heap.size + 1 := by simp
        generalize w.alloc (.cells #[.int .u8 3, .int .i64 n, .string s, .slice (some ⟨b, o, none⟩) 2 cap, .int .i64 r] 27) = W0 at *
        have hb2 : b < W0.heap.size := by omega
        have hb3 : w.heap.size < W0.heap.size := by omega
        have HF := hide frw
        have HZ := hide hsz0
        clear frw hsz0 hin hin' ht
        have hh0 : hi ≤ W0.heap.size := by have := HZ.out; omega
        go_region_held3 (fun w' => (∀ c i, c < W0.heap.size → w'.cell? ⟨c, i, none⟩ = W0.cell? ⟨c, i, none⟩) ∧ Fr No W0 w')
          (first | exact ⟨fun _ _ _ => rfl, Fr.drew (Fr.refl No W0)⟩ | (have hq : Fr No W0 _ := (‹_ ∧ Fr No W0 _›).2.trans ‹Fr No _ _›; exact ⟨hq.cells, hq⟩))
          (first
            | (go_at_call 93; have hs0 := (‹_ ∧ Fr No W0 _›).2; ((with_reducible refine (IH1 _ lo hi ?_ ?_).mono ?_); (exact hin1.no hs0 hh0); (exact Nat.le_trans hh0 hs0.size); rintro e w2 ⟨m1, rfl, hm1, fr1⟩; obtain ⟨ty1, y1, rfl⟩ := hm1.iface))
            | (go_at_call 93; have hs0 := (‹_ ∧ Fr No W0 _›).2; ((with_reducible refine (IH2 _ lo hi ?_ ?_).mono ?_); (exact hin2.no hs0 hh0); (exact Nat.le_trans hh0 hs0.size); rintro e w3 ⟨m2, rfl, hm2, fr2⟩; obtain ⟨ty2, y2, rfl⟩ := hm2.iface)))
        go_wp2
        go_ret
        refine ⟨_, rfl, ?_, ?_⟩
        · rw [T.v_mk, IsMk_mk]
          exact ⟨_, _, rfl, hm1, hm2⟩
        · exact HF.out.trans (‹Fr No W0 w2›.trans fr2)
      · have hl2' : ((l.length : Int) == 2) = false := by simp; omega
        obtain ⟨i0, hi0, hz0, hz1, hz2⟩ := info_parts mark_info
        go_enter Try.func93, Try.ntmps93
        go_wp2_with fail
        go_loopw [44] (fun i wr => ∃ j : Nat, j ≤ l.length ∧ i = .int .i64 j ∧ MarkInv w #[] j wr) (fun i _ => l.length - (intOf i).toNat)
        case atStart =>
          exact ⟨0, Nat.zero_le _, rfl, ((Fr.refl No w).alloc _).alloc _, by simp, _, [], Blk.new' (w.alloc _) 183 _ (by simp), World.ownsRow_nil _ _ _ _⟩
        case round =>
          obtain ⟨j, hj, rfl, inv⟩ := hrel
          have fr := inv.fr
          have big := inv.big
          obtain ⟨v, xs, blk, own⟩ := inv.row
          by_cases hlt : j < l.length
          · obtain ⟨b, o, k1, n1, s1, A1, cap1, l1, r1, rfl, hb0, hb1, hx, hin, e0, e1, e2, e3, e4⟩ := T.elem (ht.no fr hh) hlt
            have IH := ih l[j] (List.getElem_mem hlt)
            rw [hx, T.val_mk] at IH
            have HX := hide hx
            have hle := Nat.le_of_lt hlt
            clear hx ih inv
            have HT := hide ht
            clear ht
            go_wp2_with fail
            have blk1 := blk.alloc (.cells #[.int .u8 k1, .int .i64 n1, .string s1, .slice A1 l1.length cap1, .int .i64 r1] 27)
            have own1 := own.alloc (.cells #[.int .u8 k1, .int .i64 n1, .string s1, .slice A1 l1.length cap1, .int .i64 r1] 27)
            obtain ⟨x0, x1, x2, x3, x4, xf⟩ := (Blk.new wr 27 #[.int .u8 k1, .int .i64 n1, .string s1, .slice A1 l1.length cap1, .int .i64 r1]).cells5
            have frA := (Fr.refl No wr).alloc (.cells #[.int .u8 k1, .int .i64 n1, .string s1, .slice A1 l1.length cap1, .int .i64 r1] 27)
            have hinA := hin.no frA (by omega)
            have hszA : (wr.alloc (.cells #[.int .u8 k1, .int .i64 n1, .string s1, .slice A1 l1.length cap1, .int .i64 r1] 27)).heap.size = wr.heap.size + 1 := by simp
            generalize wr.alloc (.cells #[.int .u8 k1, .int .i64 n1, .string s1, .slice A1 l1.length cap1, .int .i64 r1] 27) = W0 at *
            have c0 := blk1.cell 0
            simp only [List.getElem?_toArray, List.getElem?_cons_zero] at c0
            have hv0 : ¬ v.ownBlock = some (w.heap.size + 1) := fun h => by have := own.lt _ h; omega
            have hv1 : ¬ v.ownBlock = some wr.heap.size := fun h => by have := own.lt _ h; omega
            have hq0 : w.heap.size + 1 < W0.heap.size := by omega
            have hq1 : wr.heap.size < W0.heap.size := by omega
            have hh0 : hi ≤ W0.heap.size := by omega
            have HF := hide frA
            have HZ := hide hszA
            have HB := hide blk1
            have HB0 := hide blk
            have HO := hide own
            have HO1 := hide own1
            have f0 := blk1.frozen 0
            have hv0' : some (w.heap.size + 1) ≠ v.ownBlock := Ne.symm hv0
            clear frA hszA blk1 hin e0 e1 e2 e3 e4 blk own own1
            go_region_law (first
              | ((refine step_append_lies _ (by rfl) _ _ _ (by rfl) (w.heap.size + 2) 45 i0 _ 1 16 Try.underlying181 hi0 hz0 hz1 hz2 rfl (by omega) v j xs (by rfl) ownD ⟨w2.heap.size, 0, none⟩ 1 1 [.iface ty1 y1] (by rfl) (by rfl) (cell_one_new _ _ _) (by simp [Value.oneCell']) (by omega) (by unfold maxLen; omega) (by omega) (by simp; omega) _ rfl ?_); intro g cp w3 hown3 hgrow hat hlt3; obtain ⟨c3, f3⟩ := mark_grown hgrow c2D f2D (by simp; omega) hv0')
              | (go_simp; go_at_call 93; (with_reducible refine (IH _ lo hi ?_ ?_).mono ?_); (exact hinA.no ((Fr.refl No W0).drew) hh0); (exact hh0); rintro e w2 ⟨m1, rfl, hm1, fr1⟩; obtain ⟨ty1, y1, rfl⟩ := hm1.iface; obtain ⟨ownD, c2D, f2D, c2, hsz2, hlt2⟩ := mark_after (m := .iface ty1 y1) HB.out HO1.out fr1))
            all_goals
              go_wp2
              go_roundw
              case rel =>
                have hb2 : Blk w3 (w.heap.size + 1) 183 #[v] := (hgrow.block (w.heap.size + 1) (by simp; omega) hv0').trans ((Blk.fr (a := W0.drew) HB.out fr1 (fun h => h)).alloc _)
                have hF : Fr No w w3 := (((((fr.thenNo HF.out).drew).thenNo fr1).alloc _).grown hgrow (fun c hc hlt => by have := HO.out.lt c hc; omega))
                exact ⟨j + 1, hlt, by go_num, hF.setNew (by simp) _, Nat.le_trans (by omega) (show w2.heap.size ≤ _ by have := hgrow.size; simp at this ⊢; omega), _, _, hb2.set_ 0 _, ownsRow_setCell_below hown3 (by simp) _⟩
              case measure => simp [intOf]; omega
          · obtain rfl : l.length = j := by omega
            have c0 := blk.cell 0
            simp only [List.getElem?_toArray, List.getElem?_cons_zero] at c0
            obtain ⟨A', n', c', rfl⟩ : ∃ A' n' c', v = .slice A' n' c' := by
              rcases own.2 with ⟨rfl, _⟩ | ⟨g, cp, cur, rfl, _⟩
              · exact ⟨_, _, _, rfl⟩
              · exact ⟨_, _, _, rfl⟩
            have HI := hide inv
            have HO := hide own
            clear inv own ih
            go_wp2
            go_ret
            refine ⟨_, rfl, ?_, HI.out.fr⟩
            rw [T.v_mk, IsMk_mk]
            show listMk _ _
            rw [listMk_row (by simpa using hl2)]
            exact ⟨_, _, _, rfl⟩
    · by_cases h1 : k = 1
      · subst h1
        go_enter Try.func93, Try.ntmps93
        go_wp2
        go_ret
        exact ⟨_, rfl, by rw [T.v_mk, IsMk_mk]; rfl, (Fr.refl No w).alloc _⟩
      have k1 : (k == 1) = false := by simp; exact h1
      by_cases h2 : k = 2
      · subst h2
        go_enter Try.func93, Try.ntmps93
        go_wp2
        go_ret
        exact ⟨_, rfl, by rw [T.v_mk, IsMk_mk]; rfl, (Fr.refl No w).alloc _⟩
      have k2 : (k == 2) = false := by simp; exact h2
      by_cases h4 : k = 4
      · subst h4
        go_enter Try.func93, Try.ntmps93
        go_wp2
        go_ret
        exact ⟨_, rfl, by rw [T.v_mk, IsMk_mk]; rfl, (Fr.refl No w).alloc _⟩
      have k4 : (k == 4) = false := by simp; exact h4
      have k3 : (k == 3) = false := by simp; exact h3
      go_enter Try.func93, Try.ntmps93
      go_wp2
      go_ret
      exact ⟨_, rfl, by rw [T.v_mk, IsMk_mk, mkOf, if_neg h1, if_neg h2, if_neg h4, if_neg h3]; rfl, (Fr.refl No w).alloc _⟩
end Go.Proofs.Ytihjmipmjogpoaa

/- brand.Of: the mark of a value that may be. -/
namespace Go.Proofs.Ytihjmipmjogpoaa
open Go.RowKit

def OfP (v : V) (w : World) (e : Ending) (w' : World) : Prop :=
  (v.may = true → ∃ m, e = .returned (.tuple #[m, .int .i64 0]) ∧ IsMk v m ∧ Fr No w w') ∧ (v.may = false → e = .returned (.tuple #[.nilIface, .int .i64 2]) ∧ Fr No w w')

set_option maxHeartbeats 1000000 in
theorem Of_any (t : T) (w : World) (lo hi : Nat) (ht : t.In w lo hi) (hh : hi ≤ w.heap.size) : Calls Try.prog 29 #[t.val] w (OfP t.v w) := by
  have hM := fun w' h h' => may_any t w' lo hi h h'
  have hO := fun w' h h' => mark_any t w' lo hi h h'
  cases t with
  | mk k n s A cap l r =>
    rw [T.val_mk] at *
    cases hm : (T.mk k n s A cap l r).v.may
    · rw [hm] at hM
      have HM := hide hm
      clear hm hO
      go_enter Try.func29, Try.ntmps29
      go_wp2_with fail
      refine (hM _ (ht.no (((Fr.refl No w).alloc _)) hh) (by simp; omega)).mono ?_
      rintro e w2 ⟨rfl, fr2⟩
      go_wp2
      go_ret2
      exact ⟨fun h => (by rw [HM.out] at h; cases h), fun _ => ⟨rfl, ((Fr.refl No w).alloc _).trans fr2⟩⟩
    · rw [hm] at hM
      have HM := hide hm
      clear hm
      go_enter Try.func29, Try.ntmps29
      go_wp2_with fail
      refine (hM _ (ht.no (((Fr.refl No w).alloc _)) hh) (by simp; omega)).mono ?_
      rintro e w2 ⟨rfl, fr2⟩
      have b0 := ((Blk.new' w 27 #[.int .u8 k, .int .i64 n, .string s, .slice A l.length cap, .int .i64 r] (g := w.heap.size) rfl)).fr fr2 (fun h => h)
      obtain ⟨c0, c1, c2, c3, c4, cf⟩ := b0.cells5
      have hF2 : Fr No w w2 := ((Fr.refl No w).alloc _).trans fr2
      have ht2 := ht.no hF2 hh
      have hh2 : hi ≤ w2.heap.size := Nat.le_trans hh hF2.size
      clear b0 ht
      go_wp2_with fail
      refine (hO _ ht2 hh2).mono ?_
      rintro e w3 ⟨m, rfl, hmk, fr3⟩
      obtain ⟨ty, y, rfl⟩ := hmk.iface
      go_wp2
      go_ret2
      exact ⟨fun _ => ⟨_, rfl, hmk, hF2.trans fr3⟩, fun h => by rw [HM.out] at h; cases h⟩

end Go.Proofs.Ytihjmipmjogpoaa

/- What Go's own == of two marks comes to. -/
namespace Go.Proofs.Ytihjmipmjogpoaa
open Go.RowKit

/-- The kinds of marks: 5 is a row. -/
def shp (k : Int) (len : Nat) : Int := if k = 3 then (if len = 2 then 3 else 5) else if k = 1 then 1 else if k = 2 then 2 else if k = 4 then 4 else 0

/-- Two leaves of one kind: are they the same? -/
def leafEq (k n : Int) (s : ByteArray) (r n' : Int) (s' : ByteArray) (r' : Int) : Bool :=
  if k = 1 then n == n' else if k = 2 then s.toList == s'.toList else if k = 4 then r == r' else true

def pairCmp (ps : List (V → Nat)) (l : List V) : Nat :=
  match ps, l with
  | [f, g], [a, b] => if f a = 1 then g b else f a
  | _, _ => 2

def cmpOf (k n : Int) (s : ByteArray) (ps : List (V → Nat)) (r : Int) : V → Nat
  | .mk k' n' s' l' r' =>
    if shp k ps.length = shp k' l'.length then
      (if k = 3 then pairCmp ps l' else if leafEq k n s r n' s' r' = true then 1 else 0)
    else 0

/-- What the comparison of two marks comes to: 0 Unequal, 1 Equal, 2 Panics. -/
def V.cmp : V → V → Nat
  | .mk k n s l r => cmpOf k n s (l.map V.cmp) r
termination_by v => v

theorem V.cmp_mk (k n : Int) (s : ByteArray) (l : List V) (r : Int) : (V.mk k n s l r).cmp = cmpOf k n s (l.map V.cmp) r := by rw [V.cmp]

/-- What a run of == comes to. -/
def EqRes (res : Result Bool) (c : Nat) (w : World) : Prop :=
  (c = 0 ∧ res = .ok false w) ∨ (c = 1 ∧ res = .ok true w) ∨ (c = 2 ∧ ∃ s, res = .halt (.panic (.iface 10 (.string s))) w)

theorem typeStr_row (w : World) : (typeStr 183).run Try.prog w = .ok "brand.row" w := by kernel_rfl

theorem runtimePanic_error (m : String) (w : World) : (runtimePanic (α := Bool) (.error m)).run Try.prog w = .halt (.panic (.iface 10 (strVal m))) w := by
  have h : Try.prog.rt.errorString = 10 := by kernel_rfl
  simp [runtimePanic, run_program, goPanic, h]

theorem ty_comparable (t : TypeId) (b : Bool) (h : (Try.prog.info? t).map (·.comparable) = some b) : ∃ i, Try.prog.info? t = some i ∧ i.comparable = b := by
  cases hi : Try.prog.info? t with
  | none => rw [hi] at h; cases h
  | some i => rw [hi] at h; exact ⟨i, rfl, by simpa using h⟩

theorem cmp176 : (Try.prog.info? 176).map (·.comparable) = some true := by kernel_rfl
theorem cmp177 : (Try.prog.info? 177).map (·.comparable) = some true := by kernel_rfl
theorem cmp178 : (Try.prog.info? 178).map (·.comparable) = some true := by kernel_rfl
theorem cmp180 : (Try.prog.info? 180).map (·.comparable) = some true := by kernel_rfl
theorem cmp183 : (Try.prog.info? 183).map (·.comparable) = some false := by kernel_rfl
theorem cmp185 : (Try.prog.info? 185).map (·.comparable) = some true := by kernel_rfl
theorem packed183 : Try.prog.holdsPacked Try.prog.depth 183 = false := by kernel_rfl
theorem ms45 : ∃ ms, Try.prog.underlying 45 = some (.interface ms) := ⟨_, Try.underlying45⟩

/-- Two marks of unlike types. -/
theorem eq_unlike {d : Nat} {a b : TypeId} {x y : Value} {w : World} (h : a ≠ b) : (Op.equalIn (d + 1) 45 (.iface a x) (.iface b y)).run Try.prog w = .ok false w := by
  obtain ⟨ms, h45⟩ := ms45
  simp [Op.equalIn, run_underlying h45, h]

/-- Two marks of one type that can be compared. -/
theorem eq_like {d : Nat} {a : TypeId} {x y : Value} {w : World} (h : (Try.prog.info? a).map (·.comparable) = some true) :
    (Op.equalIn (d + 1) 45 (.iface a x) (.iface a y)).run Try.prog w = (Op.equalIn d a x y).run Try.prog w := by
  obtain ⟨ms, h45⟩ := ms45
  obtain ⟨i, hi, hc⟩ := ty_comparable a true h
  simp [Op.equalIn, run_underlying h45, typeInfo, hi, hc]

/-- Two rows. -/
theorem eq_rows {d : Nat} {x y : Value} {w : World} : ∃ s, (Op.equalIn (d + 1) 45 (.iface 183 x) (.iface 183 y)).run Try.prog w = .halt (.panic (.iface 10 (.string s))) w := by
  obtain ⟨ms, h45⟩ := ms45
  obtain ⟨i, hi, hc⟩ := ty_comparable 183 false cmp183
  obtain ⟨s, hs⟩ : ∃ s, strVal ("comparing uncomparable type " ++ "brand.row") = .string s := ⟨_, rfl⟩
  refine ⟨s, ?_⟩
  rw [← hs]
  simp [Op.equalIn, run_underlying h45, typeInfo, hi, hc, run_program, packed183, typeStr_row, runtimePanic_error]

/-- The dynamic type of a mark. -/
def mty (c : Int) : TypeId := if c = 1 then 176 else if c = 2 then 177 else if c = 4 then 178 else if c = 3 then 180 else if c = 5 then 183 else 185

theorem mty_ne {c c' : Int} (hc : c = 0 ∨ c = 1 ∨ c = 2 ∨ c = 3 ∨ c = 4 ∨ c = 5) (hc' : c' = 0 ∨ c' = 1 ∨ c' = 2 ∨ c' = 3 ∨ c' = 4 ∨ c' = 5) (h : c ≠ c') : mty c ≠ mty c' := by
  rcases hc with rfl | rfl | rfl | rfl | rfl | rfl <;> rcases hc' with rfl | rfl | rfl | rfl | rfl | rfl <;> simp_all [mty]

theorem shp_range (k : Int) (len : Nat) : shp k len = 0 ∨ shp k len = 1 ∨ shp k len = 2 ∨ shp k len = 3 ∨ shp k len = 4 ∨ shp k len = 5 := by
  unfold shp
  by_cases h3 : k = 3
  · by_cases h2 : len = 2 <;> simp [h3, h2]
  by_cases h1 : k = 1
  · simp [h1]
  by_cases h2 : k = 2
  · simp [h2]
  by_cases h4 : k = 4
  · simp [h4]
  · simp [h1, h2, h3, h4]

theorem mkOf.ty {k n : Int} {s : ByteArray} {ps : List (Value → Prop)} {r : Int} {m : Value} (h : mkOf k n s ps r m) : ∃ x, m = .iface (mty (shp k ps.length)) x := by
  unfold mkOf at h
  by_cases h1 : k = 1
  · rw [if_pos h1] at h; subst h1; exact ⟨_, h⟩
  rw [if_neg h1] at h
  by_cases h2 : k = 2
  · rw [if_pos h2] at h; subst h2; exact ⟨_, h⟩
  rw [if_neg h2] at h
  by_cases h4 : k = 4
  · rw [if_pos h4] at h; subst h4; exact ⟨_, h⟩
  rw [if_neg h4] at h
  by_cases h3 : k = 3
  · rw [if_pos h3] at h
    subst h3
    by_cases hl : ps.length = 2
    · obtain ⟨p, q, rfl⟩ : ∃ p q, ps = [p, q] := at2 hl
      obtain ⟨x, y, h, _⟩ := h; exact ⟨_, h⟩
    · rw [listMk_row hl] at h
      obtain ⟨A, le, ca, h⟩ := h
      have : mty (shp 3 ps.length) = 183 := by simp [shp, hl, mty]
      rw [this]; exact ⟨_, h⟩
  · rw [if_neg h3] at h
    have : mty (shp k ps.length) = 185 := by simp [shp, h1, h2, h3, h4, mty]
    rw [this]; exact ⟨_, h⟩

theorem eq_pair {d : Nat} {x y x' y' : Value} {w : World} {c1 c2 : Nat} (hx : ∃ t v, x = .iface t v) (hy : ∃ t v, y = .iface t v) (hx' : ∃ t v, x' = .iface t v) (hy' : ∃ t v, y' = .iface t v)
    (h1 : EqRes ((Op.equalIn d 45 x x').run Try.prog w) c1 w) (h2 : EqRes ((Op.equalIn d 45 y y').run Try.prog w) c2 w) :
    EqRes ((Op.equalIn (d + 1) 180 (.agg #[x, y]) (.agg #[x', y'])).run Try.prog w) (if c1 = 1 then c2 else c1) w := by
  obtain ⟨t1, v1, rfl⟩ := hx
  obtain ⟨t2, v2, rfl⟩ := hy
  obtain ⟨t3, v3, rfl⟩ := hx'
  obtain ⟨t4, v4, rfl⟩ := hy'
  have e : (Op.equalIn (d + 1) 180 (.agg #[.iface t1 v1, .iface t2 v2]) (.agg #[.iface t3 v3, .iface t4 v4])).run Try.prog w =
      ((Sem.run Try.prog (Op.equalIn d 45 (Value.iface t1 v1) (Value.iface t3 v3)) w).andThen fun a w' =>
        if a = false then Result.ok false w'
        else
          (Sem.run Try.prog (Op.equalIn d 45 (Value.iface t2 v2) (Value.iface t4 v4)) w').andThen fun a w' =>
            if a = false then Result.ok false w' else Result.ok true w') := by simp [go_sem]
  rw [e]
  rcases h1 with ⟨rfl, h1⟩ | ⟨rfl, h1⟩ | ⟨rfl, s, h1⟩
  · rw [h1]; exact .inl ⟨rfl, rfl⟩
  · rw [h1]
    simp only [Result.andThen_ok, if_pos]
    rcases h2 with ⟨rfl, h2⟩ | ⟨rfl, h2⟩ | ⟨rfl, s, h2⟩
    · simp [h2]; exact .inl ⟨rfl, rfl⟩
    · simp [h2]; exact .inr (.inl ⟨rfl, rfl⟩)
    · simp [h2]; exact .inr (.inr ⟨rfl, s, rfl⟩)
  · rw [h1]; exact .inr (.inr ⟨rfl, s, rfl⟩)

theorem eqRes_bool {b : Bool} {w : World} {res : Result Bool} (h : res = .ok b w) : EqRes res (if b = true then 1 else 0) w := by
  cases b
  · exact .inl ⟨rfl, h⟩
  · exact .inr (.inl ⟨rfl, h⟩)

theorem run_eq (u : V) : ∀ (v : V) (d : Nat) (m1 m2 : Value) (w : World), 2 * u.dep + 2 ≤ d → IsMk u m1 → IsMk v m2 → EqRes ((Op.equalIn d 45 m1 m2).run Try.prog w) (u.cmp v) w := by
  induction u using V.ind with
  | h k n s l r ih =>
    intro v d m1 m2 w hd h1 h2
    cases v with
    | mk k' n' s' l' r' =>
      rw [IsMk_mk] at h1 h2
      rw [V.cmp_mk, cmpOf]
      simp only [List.length_map]
      obtain ⟨d, rfl⟩ : ∃ e, d = e + 2 := ⟨d - 2, by omega⟩
      by_cases hs : shp k l.length = shp k' l'.length
      · rw [if_pos hs]
        by_cases h3 : k = 3
        · subst h3
          rw [if_pos rfl]
          have hk' : k' = 3 ∧ (l.length = 2 ↔ l'.length = 2) := by
            unfold shp at hs
            by_cases hl : l.length = 2 <;> by_cases h3' : k' = 3 <;> by_cases hl' : l'.length = 2 <;> simp [hl, h3', hl'] at hs ⊢ <;> (repeat' split at hs) <;> omega
          obtain ⟨rfl, hll⟩ := hk'
          have e1 : listMk (l.map IsMk) m1 := by simpa [mkOf] using h1
          have e2 : listMk (l'.map IsMk) m2 := by simpa [mkOf] using h2
          by_cases hl : l.length = 2
          · obtain ⟨a, b, rfl⟩ := at2 hl
            obtain ⟨a', b', rfl⟩ := at2 (hll.1 hl)
            obtain ⟨x, y, rfl, hx, hy⟩ := e1
            obtain ⟨x', y', rfl, hx', hy'⟩ := e2
            rw [eq_like cmp180]
            have hda : a.dep ≤ top [a.dep, b.dep] := le_top (by simp)
            have hdb : b.dep ≤ top [a.dep, b.dep] := le_top (by simp)
            rw [V.dep_mk, if_pos rfl] at hd
            simp only [List.map_cons, List.map_nil] at hd
            have g := eq_pair hx.iface hy.iface hx'.iface hy'.iface (ih a (by simp) a' d x x' w (by omega) hx hx') (ih b (by simp) b' d y y' w (by omega) hy hy')
            exact g
          · rw [listMk_row (by simpa using hl)] at e1
            rw [listMk_row (by simpa using fun h => hl (hll.2 h))] at e2
            obtain ⟨A1, n1, c1, rfl⟩ := e1
            obtain ⟨A2, n2, c2, rfl⟩ := e2
            have hp : pairCmp (l.map V.cmp) l' = 2 := by
              match l, hl with
              | [], _ => rfl
              | [a], _ => rfl
              | [a, b], hl => simp at hl
              | a :: b :: c :: l, _ => rfl
            rw [hp]
            obtain ⟨s, hs⟩ := eq_rows (d := d + 1) (x := .agg #[.slice A1 n1 c1]) (y := .agg #[.slice A2 n2 c2]) (w := w)
            exact .inr (.inr ⟨rfl, s, hs⟩)
        · rw [if_neg h3]
          unfold mkOf at h1 h2
          by_cases k1 : k = 1
          · subst k1
            have e : k' = 1 := by
              unfold shp at hs
              by_cases h3' : k' = 3 <;> by_cases hl' : l'.length = 2 <;> simp [h3', hl'] at hs ⊢ <;> (repeat' split at hs) <;> omega
            subst e
            simp at h1 h2
            subst h1 h2
            rw [eq_like cmp176]
            refine eqRes_bool ?_
            simp [go_sem, leafEq]
          by_cases k2 : k = 2
          · subst k2
            have e : k' = 2 := by
              unfold shp at hs
              by_cases h3' : k' = 3 <;> by_cases hl' : l'.length = 2 <;> simp [h3', hl'] at hs ⊢ <;> (repeat' split at hs) <;> omega
            subst e
            simp at h1 h2
            subst h1 h2
            rw [eq_like cmp177]
            refine eqRes_bool ?_
            simp [go_sem, leafEq]
          by_cases k4 : k = 4
          · subst k4
            have e : k' = 4 := by
              unfold shp at hs
              by_cases h3' : k' = 3 <;> by_cases hl' : l'.length = 2 <;> simp [h3', hl'] at hs ⊢ <;> (repeat' split at hs) <;> omega
            subst e
            simp at h1 h2
            subst h1 h2
            rw [eq_like cmp178]
            refine eqRes_bool ?_
            simp [go_sem, leafEq]
          have e : k' ≠ 1 ∧ k' ≠ 2 ∧ k' ≠ 4 ∧ k' ≠ 3 := by
            unfold shp at hs
            by_cases h3' : k' = 3 <;> by_cases hl' : l'.length = 2 <;> simp [h3, k1, k2, k4, h3', hl'] at hs ⊢ <;> (repeat' split at hs) <;> omega
          obtain ⟨e1, e2, e4, e3⟩ := e
          rw [if_neg k1, if_neg k2, if_neg k4, if_neg h3] at h1
          rw [if_neg e1, if_neg e2, if_neg e4, if_neg e3] at h2
          subst h1 h2
          rw [eq_like cmp185]
          refine eqRes_bool ?_
          simp [go_sem, leafEq, k1, k2, k4]
      · rw [if_neg hs]
        obtain ⟨x, rfl⟩ := h1.ty
        obtain ⟨y, rfl⟩ := h2.ty
        simp only [List.length_map]
        exact .inl ⟨rfl, eq_unlike (mty_ne (shp_range _ _) (shp_range _ _) hs)⟩

end Go.Proofs.Ytihjmipmjogpoaa

/- Compare's closure, met, Compare: == of two marks, its panic met. -/
namespace Go.Proofs.Ytihjmipmjogpoaa
open Go.RowKit

theorem eql_marks {u v : V} {m1 m2 : Value} (h1 : IsMk u m1) (h2 : IsMk v m2) (hd : u.dep ≤ 16) (w : World) :
    (u.cmp v = 0 ∧ (binOp .eql 45 m1 m2).run Try.prog w = .ok (.bool false) w) ∨ (u.cmp v = 1 ∧ (binOp .eql 45 m1 m2).run Try.prog w = .ok (.bool true) w) ∨
    (u.cmp v = 2 ∧ ∃ s, (binOp .eql 45 m1 m2).run Try.prog w = .halt (.panic (.iface 10 (.string s))) w) := by
  obtain ⟨t1, v1, rfl⟩ := h1.iface
  obtain ⟨t2, v2, rfl⟩ := h2.iface
  have h := run_eq u v 10000 _ _ w (by omega) h1 h2
  have e : (binOp .eql 45 (.iface t1 v1) (.iface t2 v2)).run Try.prog w = ((Op.equalIn 10000 45 (.iface t1 v1) (.iface t2 v2)).run Try.prog w).andThen fun b w' => .ok (.bool b) w' := by
    simp only [binOp]
    simp [Op.equal, Op.maxDepth]
  rw [e]
  rcases h with ⟨h0, h⟩ | ⟨h0, h⟩ | ⟨h0, s, h⟩
  · exact .inl ⟨h0, by rw [h]; rfl⟩
  · exact .inr (.inl ⟨h0, by rw [h]; rfl⟩)
  · exact .inr (.inr ⟨h0, s, by rw [h]; rfl⟩)

set_option maxRecDepth 10000 in
theorem cmp1_ret (a b c : Nat) (t1 t2 : TypeId) (v1 v2 : Value) (r : Bool) (w : World) (ha : w.cell? ⟨a, 0, none⟩ = some (.iface t1 v1)) (hb : w.cell? ⟨b, 0, none⟩ = some (.iface t2 v2))
    (hc : w.cell? ⟨c, 0, none⟩ = some (.int .u8 0)) (hf : w.frozen? ⟨c, 0, none⟩ = false) (he : (binOp .eql 45 (.iface t1 v1) (.iface t2 v2)).run Try.prog w = .ok (.bool r) w) :
    Calls Try.prog 84 #[.pointer (some ⟨a, 0, none⟩), .pointer (some ⟨b, 0, none⟩), .pointer (some ⟨c, 0, none⟩)] w fun e w' => e = .returned (.tuple #[]) ∧ w' = if r = true then w.setCell ⟨c, 0, none⟩ (.int .u8 1) else w := by
  cases r
  · go_enter Try.func84, Try.ntmps84
    go_wp2
    go_end0
    exact ⟨rfl, rfl⟩
  · go_enter Try.func84, Try.ntmps84
    go_wp2
    go_end0
    exact ⟨rfl, rfl⟩

set_option maxRecDepth 10000 in
theorem cmp1_panic (a b c : Nat) (t1 t2 : TypeId) (v1 v2 : Value) (s : ByteArray) (w : World) (ha : w.cell? ⟨a, 0, none⟩ = some (.iface t1 v1)) (hb : w.cell? ⟨b, 0, none⟩ = some (.iface t2 v2))
    (he : (binOp .eql 45 (.iface t1 v1) (.iface t2 v2)).run Try.prog w = .halt (.panic (.iface 10 (.string s))) w) :
    Calls Try.prog 84 #[.pointer (some ⟨a, 0, none⟩), .pointer (some ⟨b, 0, none⟩), .pointer (some ⟨c, 0, none⟩)] w fun e w' => e = .panicked [{ v := .iface 10 (.string s), recovered := false }] ∧ w' = w := by
  go_enter Try.func84, Try.ntmps84
  go_wp2
  exact ⟨rfl, rfl, rfl⟩

theorem assert10 (x : Value) (w : World) : (Instr.typeAssert (.iface 10 x) 20 173 true).run Try.prog w = .ok (.tuple #[.iface 10 x, .bool true]) w := by
  kernel_rfl

theorem assert19 (x : Value) (w : World) : (Instr.typeAssert (.iface 19 x) 20 173 true).run Try.prog w = .ok (.tuple #[.iface 19 x, .bool true]) w := by
  kernel_rfl

/-- A panic of Go's own. -/
def RunErr (ty : TypeId) : Prop := ∀ x w, (Instr.typeAssert (.iface ty x) 20 173 true).run Try.prog w = .ok (.tuple #[.iface ty x, .bool true]) w

theorem catch_panicking (p : Nat) (x : Bool) (ty : TypeId) (pv : Value) (hre : RunErr ty) (older : List PanicEntry) (w : World) (hc : w.cell? ⟨p, 0, none⟩ = some (.bool x)) (hz : w.frozen? ⟨p, 0, none⟩ = false) :
    CallsD Try.prog 133 #[.pointer (some ⟨p, 0, none⟩)] (.panicking ({ v := .iface ty pv, recovered := false } :: older)) w fun e u' w' =>
      e = .returned (.tuple #[]) ∧ u' = .panicking ({ v := .iface ty pv, recovered := true } :: older) ∧ w' = w.setCell ⟨p, 0, none⟩ (.bool true) := by
  refine callsD_of_wpS Try.func133 rfl fun c₀ cs hu => ?_
  apply wpS_seq
  apply wpS_region
  simp [wpOpsS, go_sem, recoverD, hu, Try.ntmps133, Exit.thenS]
  have ha := hre pv
  simp only [Array.replicate_succ, Array.replicate_zero, List.push_toArray, List.append_toArray, List.nil_append, List.cons_append, List.setIfInBounds_toArray, List.set_cons_zero, List.set_cons_succ]
  refine wpS_of_wp ?_
  go_wp2
  simp [bodyPostS, results, Try.results133]

theorem catch_idle (p : Nat) (w : World) :
    CallsD Try.prog 133 #[.pointer (some ⟨p, 0, none⟩)] .returning w fun e u' w' => e = .returned (.tuple #[]) ∧ u' = .returning ∧ w' = w := by
  refine callsD_of_wpS Try.func133 rfl fun c₀ cs hu => ?_
  apply wpS_seq
  apply wpS_region
  simp [wpOpsS, go_sem, recoverD, hu, Try.ntmps133, Exit.thenS]
  simp only [Array.replicate_succ, Array.replicate_zero, List.push_toArray, List.append_toArray, List.nil_append, List.cons_append, List.setIfInBounds_toArray, List.set_cons_zero, List.set_cons_succ]
  refine wpS_of_wp ?_
  go_wp2
  cases c₀
  simp_all [bodyPostS, results, Try.results133]

theorem met_ret (lb : Array Value) (w W1 : World) (h : Calls Try.prog 84 lb (w.alloc (.cells #[.bool false] 4)) fun e w' => e = .returned (.tuple #[]) ∧ w' = W1) (hB : Blk W1 w.heap.size 4 #[.bool false]) :
    Calls Try.prog 83 #[.func (.func 84) #[] lb] w fun e w' => e = .returned (.bool false) ∧ w' = W1.setCell ⟨w.heap.size, 0, none⟩ (.bool false) := by
  have hmf : ∀ (fn : Fn) (first cap : Array Value) (w : World), (Instr.makeFunc fn first cap).run Try.prog w = .ok (.func fn first cap) w := fun _ _ _ _ => rfl
  have H := hide h
  have c0 := hB.cell 0
  have f0 := hB.frozen 0
  simp only [List.getElem?_toArray, List.getElem?_cons_zero] at c0
  clear h
  go_enter_defers Try.func83, Try.ntmps83
  go_wp2_with fail
  refine H.out.mono ?_
  rintro e w' ⟨rfl, rfl⟩
  go_wp2
  refine leaves_cons (f := 133) (args := #[.pointer (some ⟨w.heap.size, 0, none⟩)]) (by simp) (by simp [go_sem]) ?_
  refine (catch_idle w.heap.size _).mono ?_
  rintro e u' w'' ⟨rfl, rfl, rfl⟩
  have c1 := (hB.set_ 0 (.bool false)).cell 0
  simp at c1
  simp [Leaves, settle, results, Try.results83, go_sem, c1]

theorem met_panic (lb : Array Value) (w W1 : World) (ty : TypeId) (pv : Value) (hre : RunErr ty) (h : Calls Try.prog 84 lb (w.alloc (.cells #[.bool false] 4)) fun e w' => e = .panicked [{ v := .iface ty pv, recovered := false }] ∧ w' = W1)
    (hB : Blk W1 w.heap.size 4 #[.bool false]) :
    Calls Try.prog 83 #[.func (.func 84) #[] lb] w fun e w' => e = .returned (.bool true) ∧ w' = W1.setCell ⟨w.heap.size, 0, none⟩ (.bool true) := by
  have hmf : ∀ (fn : Fn) (first cap : Array Value) (w : World), (Instr.makeFunc fn first cap).run Try.prog w = .ok (.func fn first cap) w := fun _ _ _ _ => rfl
  have H := hide h
  have c0 := hB.cell 0
  have f0 := hB.frozen 0
  simp only [List.getElem?_toArray, List.getElem?_cons_zero] at c0
  clear h
  go_enter_defers Try.func83, Try.ntmps83
  go_wp2_with fail
  refine H.out.mono ?_
  rintro e w' ⟨rfl, rfl⟩
  go_wp2
  refine leaves_cons (f := 133) (args := #[.pointer (some ⟨w.heap.size, 0, none⟩)]) (by simp) (by simp [go_sem]) ?_
  refine (catch_panicking w.heap.size false ty pv hre [] _ c0 f0).mono ?_
  rintro e u' w'' ⟨rfl, rfl, rfl⟩
  have c1 := (hB.set_ 0 (.bool true)).cell 0
  simp at c1
  simp [Leaves, settle, results, Try.results83, go_sem, c1]

theorem key_ret (lb : Array Value) (w : World) (h : Calls Try.prog 135 lb (w.alloc (.cells #[.bool false] 4)) fun e w' => e = .returned (.tuple #[]) ∧ Fr No (w.alloc (.cells #[.bool false] 4)) w') :
    Calls Try.prog 83 #[.func (.func 135) #[] lb] w fun e w' => e = .returned (.bool false) ∧ Fr No w w' := by
  have hmf : ∀ (fn : Fn) (first cap : Array Value) (w : World), (Instr.makeFunc fn first cap).run Try.prog w = .ok (.func fn first cap) w := fun _ _ _ _ => rfl
  have H := hide h
  clear h
  go_enter_defers Try.func83, Try.ntmps83
  go_wp2_with fail
  refine H.out.mono ?_
  rintro e W1 ⟨rfl, fr⟩
  have hB := (Blk.new w 4 #[.bool false]).fr fr (fun h => h)
  have c0 := hB.cell 0
  have f0 := hB.frozen 0
  simp only [List.getElem?_toArray, List.getElem?_cons_zero] at c0
  have HF := hide (((Fr.refl No w).alloc (.cells #[.bool false] 4)).trans fr)
  clear fr
  go_wp2
  refine leaves_cons (f := 133) (args := #[.pointer (some ⟨w.heap.size, 0, none⟩)]) (by simp) (by simp [go_sem]) ?_
  refine (catch_idle w.heap.size _).mono ?_
  rintro e u' w'' ⟨rfl, rfl, rfl⟩
  have c1 := (hB.set_ 0 (.bool false)).cell 0
  simp at c1
  have hF := HF.out.setNew (p := ⟨w.heap.size, 0, none⟩) (by simp) (.bool false)
  simp [Leaves, settle, results, Try.results83, go_sem, c1]
  exact hF

theorem key_panic (lb : Array Value) (w : World) (h : Calls Try.prog 135 lb (w.alloc (.cells #[.bool false] 4)) fun e w' => ∃ ty pv, RunErr ty ∧ e = .panicked [{ v := .iface ty pv, recovered := false }] ∧ Fr No (w.alloc (.cells #[.bool false] 4)) w') :
    Calls Try.prog 83 #[.func (.func 135) #[] lb] w fun e w' => e = .returned (.bool true) ∧ Fr No w w' := by
  have hmf : ∀ (fn : Fn) (first cap : Array Value) (w : World), (Instr.makeFunc fn first cap).run Try.prog w = .ok (.func fn first cap) w := fun _ _ _ _ => rfl
  have H := hide h
  clear h
  go_enter_defers Try.func83, Try.ntmps83
  go_wp2_with fail
  refine H.out.mono ?_
  rintro e W1 ⟨ty, pv, hre, rfl, fr⟩
  have hB := (Blk.new w 4 #[.bool false]).fr fr (fun h => h)
  have c0 := hB.cell 0
  have f0 := hB.frozen 0
  simp only [List.getElem?_toArray, List.getElem?_cons_zero] at c0
  have HF := hide (((Fr.refl No w).alloc (.cells #[.bool false] 4)).trans fr)
  have HR := hide hre
  clear fr hre
  go_wp2
  refine leaves_cons (f := 133) (args := #[.pointer (some ⟨w.heap.size, 0, none⟩)]) (by simp) (by simp [go_sem]) ?_
  refine (catch_panicking w.heap.size false ty pv HR.out [] _ c0 f0).mono ?_
  rintro e u' w'' ⟨rfl, rfl, rfl⟩
  have c1 := (hB.set_ 0 (.bool true)).cell 0
  simp at c1
  have hF := HF.out.setNew (p := ⟨w.heap.size, 0, none⟩) (by simp) (.bool true)
  simp [Leaves, settle, results, Try.results83, go_sem, c1]
  exact hF

end Go.Proofs.Ytihjmipmjogpoaa

import Derived.Test.YtihjmipmjogpoaaProg
import Derived.Test.YtihjmipmjogpoaaV
import Derived.WalkLawsBesides
import Derived.BigQuiet
import Derived.Deep.QuietTactic
import Derived.Deep.LoopGhost
namespace Go.Proofs.Ytihjmipmjogpoaa
open Go.RowKit

def Took (L p q : Nat) (v : V) (w : World) (e : Ending) (w' : World) : Prop :=
  e = .returned (.bool (v.fits p q)) ∧ Fr (· = L) w w' ∧
    (v.fits p q = true → w'.cell? ⟨L, 0, none⟩ = some (.int .i64 ((p - v.size : Nat) : Int)) ∧ w'.cell? ⟨L, 1, none⟩ = some (.int .i64 (q : Int)) ∧
      w'.frozen? ⟨L, 0, none⟩ = false ∧ w'.frozen? ⟨L, 1, none⟩ = false)

theorem took_no {v : V} {w W : World} {L p q : Nat} (h : v.fits p q = false) (hF : Fr (· = L) w W) : Took L p q v w (.returned (.bool false)) W :=
  ⟨by rw [h], hF, fun h' => by rw [h] at h'; cases h'⟩

theorem took_close {k n : Int} {s : ByteArray} {A : Option Addr} {cap : Nat} {l : List T} {r : Int} {w W : World} {L p q : Nat} {b : Bool} (hk : k ≠ 3) (hp : 1 ≤ p)
    (hb : b = fok k n s l.length r) (hF : Fr (· = L) w W) (h0 : W.cell? ⟨L, 0, none⟩ = some (.int .i64 ((p : Int) - 1))) (h1 : W.cell? ⟨L, 1, none⟩ = some (.int .i64 (q : Int)))
    (f0 : W.frozen? ⟨L, 0, none⟩ = false) (f1 : W.frozen? ⟨L, 1, none⟩ = false) : Took L p q (T.mk k n s A cap l r).v w (.returned (.bool b)) W := by
  rw [T.v_mk]
  obtain ⟨e1, e2⟩ := fits_leaf (n := n) (s := s) (l := l.map T.v) (r := r) (q := q) hk hp
  rw [List.length_map] at e1 e2
  refine ⟨by rw [e1, hb], hF, fun h => ?_⟩
  rw [e1] at h
  rw [e2 h, h0]
  exact ⟨by congr 2; omega, h1, f0, f1⟩

set_option maxHeartbeats 4000000 in
theorem take_leaf (k n : Int) (s : ByteArray) (A : Option Addr) (cap : Nat) (l : List T) (r : Int) (w : World) (L p q : Nat)
   (hL : L < w.heap.size) (hL' : L ≤ w.heap.size)
   (hp : w.cell? ⟨L, 0, none⟩ = some (.int .i64 (p : Int))) (hq : w.cell? ⟨L, 1, none⟩ = some (.int .i64 (q : Int)))
   (hf0 : w.frozen? ⟨L, 0, none⟩ = false) (hf1 : w.frozen? ⟨L, 1, none⟩ = false) (hp0 : 0 < p) (hp1 : p ≤ 512) (hk : k ≠ 3) :
    Calls Try.prog 150 #[.pointer (some ⟨L, 0, none⟩), .agg #[.int .u8 k, .int .i64 n, .string s, .slice A l.length cap, .int .i64 r]] w (Took L p q (T.mk k n s A cap l r).v w) := by
  have hp00 : ((p : Int) == 0) = false := by simp; omega
  have k3 : (k == 3) = false := by simp; exact hk
  by_cases h0 : k = 0
  · subst h0
    go_enter Try.func150, Try.ntmps150
    go_wp2
    all_goals
      go_ret
      refine took_close (by first | decide | assumption) hp0 (by first | (simp [fok, len_beq, *]; done) | (simp [fok, len_beq, *]; omega) | (simp [fok, len_beq, *]; intros; omega)) (by repeat (first | exact Fr.refl _ w | refine Fr.alloc ?_ _ | refine Fr.set ?_ (by simp) _)) ?_ ?_ ?_ ?_ <;> simp [go_sem, *]
  · have k0 : (k == 0) = false := by simp; exact h0
    by_cases h1 : k = 1
    · subst h1
      go_enter Try.func150, Try.ntmps150
      go_wp2
      all_goals
        go_ret
        refine took_close (by first | decide | assumption) hp0 (by first | (simp [fok, len_beq, *]; done) | (simp [fok, len_beq, *]; omega) | (simp [fok, len_beq, *]; intros; omega)) (by repeat (first | exact Fr.refl _ w | refine Fr.alloc ?_ _ | refine Fr.set ?_ (by simp) _)) ?_ ?_ ?_ ?_ <;> simp [go_sem, *]
    · have k1 : (k == 1) = false := by simp; exact h1
      by_cases h2 : k = 2
      · subst h2
        by_cases hs : s.size ≤ 256
        · have hs' : ¬ (256 : Int) < (s.size : Int) := by omega
          go_enter Try.func150, Try.ntmps150
          go_wp2
          all_goals
            go_ret
            refine took_close (by first | decide | assumption) hp0 (by first | (simp [fok, len_beq, *]; done) | (simp [fok, len_beq, *]; omega) | (simp [fok, len_beq, *]; intros; omega)) (by repeat (first | exact Fr.refl _ w | refine Fr.alloc ?_ _ | refine Fr.set ?_ (by simp) _)) ?_ ?_ ?_ ?_ <;> simp [go_sem, *]
        · have hs' : (256 : Int) < (s.size : Int) := by omega
          go_enter Try.func150, Try.ntmps150
          go_wp2
          all_goals
            go_ret
            refine took_close (by first | decide | assumption) hp0 (by first | (simp [fok, len_beq, *]; done) | (simp [fok, len_beq, *]; omega) | (simp [fok, len_beq, *]; intros; omega)) (by repeat (first | exact Fr.refl _ w | refine Fr.alloc ?_ _ | refine Fr.set ?_ (by simp) _)) ?_ ?_ ?_ ?_ <;> simp [go_sem, *]
      · have k2 : (k == 2) = false := by simp; exact h2
        by_cases h4 : k = 4
        · subst h4
          by_cases hr : 1 ≤ r
          · have hr' : ¬ r < 1 := by omega
            go_enter Try.func150, Try.ntmps150
            go_wp2
            all_goals
              go_ret
              refine took_close (by first | decide | assumption) hp0 (by first | (simp [fok, len_beq, *]; done) | (simp [fok, len_beq, *]; omega) | (simp [fok, len_beq, *]; intros; omega)) (by repeat (first | exact Fr.refl _ w | refine Fr.alloc ?_ _ | refine Fr.set ?_ (by simp) _)) ?_ ?_ ?_ ?_ <;> simp [go_sem, *]
          · have hr' : r < 1 := by omega
            go_enter Try.func150, Try.ntmps150
            go_wp2
            all_goals
              go_ret
              refine took_close (by first | decide | assumption) hp0 (by first | (simp [fok, len_beq, *]; done) | (simp [fok, len_beq, *]; omega) | (simp [fok, len_beq, *]; intros; omega)) (by repeat (first | exact Fr.refl _ w | refine Fr.alloc ?_ _ | refine Fr.set ?_ (by simp) _)) ?_ ?_ ?_ ?_ <;> simp [go_sem, *]
        · have k4 : (k == 4) = false := by simp; exact h4
          go_enter Try.func150, Try.ntmps150
          go_wp2
          all_goals
            go_ret
            refine took_close (by first | decide | assumption) hp0 (by first | (simp [fok, len_beq, *]; done) | (simp [fok, len_beq, *]; omega) | (simp [fok, len_beq, *]; intros; omega)) (by repeat (first | exact Fr.refl _ w | refine Fr.alloc ?_ _ | refine Fr.set ?_ (by simp) _)) ?_ ?_ ?_ ?_ <;> simp [go_sem, *]

end Go.Proofs.Ytihjmipmjogpoaa

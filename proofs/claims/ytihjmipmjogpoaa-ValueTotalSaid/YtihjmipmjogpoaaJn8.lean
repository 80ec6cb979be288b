/- Texts joined: B6, B7, S6, P1. -/
import Derived.Test.YtihjmipmjogpoaaJn7
import Derived.Deep.RegionHeld3
import Derived.WalkLawsBesides
/- Chapter 2: the document's answer: look, Parts, May. -/
namespace Go.Proofs.Ytihjmipmjogpoaa
open Go.RowKit

def lookOf (v : V) (p q : Nat) : Int := if v.fits p q = true then (v.size : Int) else -1

theorem look_no {v : V} {p q : Nat} (h : v.fits p q = false) : lookOf v p q = -1 := by simp [lookOf, h]
theorem look_leaf {k n : Int} {s : ByteArray} {l : List V} {r : Int} {p q : Nat} (hk : k ≠ 3) (hp : 1 ≤ p) (h : fok k n s l.length r = true) : lookOf (.mk k n s l r) p q = 1 := by
  obtain ⟨h1, h2⟩ := fits_leaf (k := k) (n := n) (s := s) (l := l) (r := r) (p := p) (q := q) hk hp
  simp [lookOf, h1, h, h2 h]
theorem look_bad {k n : Int} {s : ByteArray} {l : List V} {r : Int} {p q : Nat} (hk : k ≠ 3) (hp : 1 ≤ p) (h : fok k n s l.length r = false) : lookOf (.mk k n s l r) p q = -1 :=
  look_no ((fits_leaf hk hp).1.trans h)
theorem look_bad3 {n : Int} {s : ByteArray} {l : List V} {r : Int} {p q : Nat} (h : fok 3 n s l.length r = false) : lookOf (.mk 3 n s l r) p q = -1 :=
  look_no (by simp [V.fits, V.ok_mk, h])
theorem look_off {k n : Int} {s : ByteArray} {l : List V} {r : Int} {p q : Nat} (h : 4 < k) : lookOf (.mk k n s l r) p q = -1 :=
  look_no (by simp [V.fits, V.ok_mk, fok, show ¬ k = 0 by omega, show ¬ k = 1 by omega, show ¬ k = 2 by omega, show ¬ k = 3 by omega, show ¬ k = 4 by omega])

theorem str_ne {s : ByteArray} (h : ¬ s = ⟨#[]⟩) : s.toList.isEmpty = false := by
  cases hl : s.toList with
  | nil => exact absurd (toList_nil hl) h
  | cons x l => rfl

theorem str_ne2 {s : ByteArray} (h : ¬ s = ⟨#[]⟩) : decide (s.toList = []) = false := by
  have := str_ne h
  cases hl : s.toList with
  | nil => rw [hl] at this; cases this
  | cons x l => rfl

set_option maxRecDepth 100000 in
set_option maxHeartbeats 8000000 in
theorem look_any (t : T) : ∀ (p q : Nat) (w : World) (lo hi : Nat), t.In w lo hi → hi ≤ w.heap.size → p ≤ 512 → q ≤ 16 →
    Calls Try.prog 122 #[t.val, .int .i64 p, .int .i64 q] w fun e w' => e = .returned (.int .i64 (lookOf t.v p q)) ∧ Fr No w w' := by
  induction t using T.ind with
  | h k n s A cap l r ih =>
    intro p q w lo hi ht hh hp hq
    rw [T.val_mk]
    have fit := (T.in_mk.1 ht).1
    have hlen := fit.len1
    have hss := fit.s1
    have hk0 := fit.k0
    have fr1 := (Fr.refl No w).alloc (.cells #[.int .u8 k, .int .i64 n, .string s, .slice A l.length cap, .int .i64 r] 27)
    have hK := Blk.new' w 27 #[.int .u8 k, .int .i64 n, .string s, .slice A l.length cap, .int .i64 r] rfl
    rw [T.v_mk]
    have hll : (l.map T.v).length = l.length := by simp
    by_cases hp1 : (p : Int) < 1
    · have e : lookOf (.mk k n s (l.map T.v) r) p q = -1 := look_no (by obtain rfl : p = 0 := by omega
                                                                        exact fits_zero _ _)
      rw [e]
      clear ih hll
      go_enter Try.func122, Try.ntmps122
      go_wp2
      go_ret
      exact ⟨rfl, fr1⟩
    have hpp : 1 ≤ p := by omega
    have HLL := hide hll
    clear hll
    have tl := toL0
    by_cases hk4 : 4 < k
    · rw [look_off (n := n) (s := s) (l := l.map T.v) (r := r) (p := p) (q := q) hk4]
      have a1 : (k != 1) = true := by simp; omega
      have a2 : (k != 2) = true := by simp; omega
      have a3 : (k != 3) = true := by simp; omega
      have a4 : (k != 4) = true := by simp; omega
      clear ih tl
      by_cases hc : n = 0
      case neg =>
        have z : (n != 0) = true := by simpa using hc
        go_enter Try.func122, Try.ntmps122
        go_wp2
        go_ret
        exact ⟨rfl, fr1⟩
      subst hc
      by_cases hc : s = ⟨#[]⟩
      case neg =>
        have z := str_ne hc
        have z2 := str_ne2 hc
        go_enter Try.func122, Try.ntmps122
        go_wp2
        go_ret
        exact ⟨rfl, fr1⟩
      subst hc; have tl := toL0
      by_cases hc : l.length = 0
      case neg =>
        have z : (0 : Int) < (l.length : Int) := by omega
        go_enter Try.func122, Try.ntmps122
        go_wp2
        go_ret
        exact ⟨rfl, fr1⟩
      obtain rfl : l = [] := List.eq_nil_of_length_eq_zero hc; clear hc
      by_cases hc : r = 0
      case neg =>
        have z : (r != 0) = true := by simpa using hc
        go_enter Try.func122, Try.ntmps122
        go_wp2
        go_ret
        exact ⟨rfl, fr1⟩
      subst hc
      go_enter Try.func122, Try.ntmps122
      go_wp2
      go_ret
      exact ⟨rfl, fr1⟩
    have hkk : k = 0 ∨ k = 1 ∨ k = 2 ∨ k = 3 ∨ k = 4 := by omega
    clear hk4 hk0
    rcases hkk with rfl | rfl | rfl | rfl | rfl
    · -- kind 0
      by_cases hc : n = 0
      case neg =>
        have hf : fok 0 n s (l.map T.v).length r = false := by
          simp [fok, hc]
        have z : (n != 0) = true := by simpa using hc
        rw [look_bad (k := 0) (by decide) hpp (p := p) (q := q) hf]
        clear ih hf
        go_enter Try.func122, Try.ntmps122
        go_wp2
        go_ret
        exact ⟨rfl, fr1⟩
      subst hc
      by_cases hc : s = ⟨#[]⟩
      case neg =>
        have hf : fok 0 0 s (l.map T.v).length r = false := by
          simp [fok, str_ne2 hc]; try exact fun h => absurd (toList_nil h) hc
        have z := str_ne hc
        have z2 := str_ne2 hc
        rw [look_bad (k := 0) (by decide) hpp (p := p) (q := q) hf]
        clear ih hf
        go_enter Try.func122, Try.ntmps122
        go_wp2
        go_ret
        exact ⟨rfl, fr1⟩
      subst hc
      by_cases hc : l.length = 0
      case neg =>
        have hf : fok 0 0 ⟨#[]⟩ (l.map T.v).length r = false := by
          rw [HLL.out]; simp [fok, hc]
        have z : (0 : Int) < (l.length : Int) := by omega
        rw [look_bad (k := 0) (by decide) hpp (p := p) (q := q) hf]
        clear ih hf
        go_enter Try.func122, Try.ntmps122
        go_wp2
        go_ret
        exact ⟨rfl, fr1⟩
      obtain rfl : l = [] := List.eq_nil_of_length_eq_zero hc; clear hc
      by_cases hc : r = 0
      case neg =>
        have hf : fok 0 0 ⟨#[]⟩ 0 r = false := by
          simp [fok, hc]
        have z : (r != 0) = true := by simpa using hc
        rw [look_bad (k := 0) (by decide) hpp (p := p) (q := q) hf]
        clear ih hf
        go_enter Try.func122, Try.ntmps122
        go_wp2
        go_ret
        exact ⟨rfl, fr1⟩
      subst hc
      rw [show ([] : List T).map T.v = [] from rfl]
      rw [(look_leaf (k := 0) (n := 0) (s := ⟨#[]⟩) (l := []) (r := 0) (p := p) (q := q) (by decide) hpp (by simp [fok, toL0]; try omega))]
      clear ih
      go_enter Try.func122, Try.ntmps122
      go_wp2
      go_ret
      exact ⟨rfl, fr1⟩
    · -- kind 1
      by_cases hc : s = ⟨#[]⟩
      case neg =>
        have hf : fok 1 n s (l.map T.v).length r = false := by
          simp [fok, str_ne2 hc]; try exact fun h => absurd (toList_nil h) hc
        have z := str_ne hc
        have z2 := str_ne2 hc
        rw [look_bad (k := 1) (by decide) hpp (p := p) (q := q) hf]
        clear ih hf
        go_enter Try.func122, Try.ntmps122
        go_wp2
        go_ret
        exact ⟨rfl, fr1⟩
      subst hc
      by_cases hc : l.length = 0
      case neg =>
        have hf : fok 1 n ⟨#[]⟩ (l.map T.v).length r = false := by
          rw [HLL.out]; simp [fok, hc]
        have z : (0 : Int) < (l.length : Int) := by omega
        rw [look_bad (k := 1) (by decide) hpp (p := p) (q := q) hf]
        clear ih hf
        go_enter Try.func122, Try.ntmps122
        go_wp2
        go_ret
        exact ⟨rfl, fr1⟩
      obtain rfl : l = [] := List.eq_nil_of_length_eq_zero hc; clear hc
      by_cases hc : r = 0
      case neg =>
        have hf : fok 1 n ⟨#[]⟩ 0 r = false := by
          simp [fok, hc]
        have z : (r != 0) = true := by simpa using hc
        rw [look_bad (k := 1) (by decide) hpp (p := p) (q := q) hf]
        clear ih hf
        go_enter Try.func122, Try.ntmps122
        go_wp2
        go_ret
        exact ⟨rfl, fr1⟩
      subst hc
      rw [show ([] : List T).map T.v = [] from rfl]
      rw [(look_leaf (k := 1) (n := n) (s := ⟨#[]⟩) (l := []) (r := 0) (p := p) (q := q) (by decide) hpp (by simp [fok, toL0]; try omega))]
      clear ih
      go_enter Try.func122, Try.ntmps122
      go_wp2
      go_ret
      exact ⟨rfl, fr1⟩
    · -- kind 2
      by_cases hc : n = 0
      case neg =>
        have hf : fok 2 n s (l.map T.v).length r = false := by
          simp [fok, hc]
        have z : (n != 0) = true := by simpa using hc
        rw [look_bad (k := 2) (by decide) hpp (p := p) (q := q) hf]
        clear ih hf
        go_enter Try.func122, Try.ntmps122
        go_wp2
        go_ret
        exact ⟨rfl, fr1⟩
      subst hc
      by_cases hc : l.length = 0
      case neg =>
        have hf : fok 2 0 s (l.map T.v).length r = false := by
          rw [HLL.out]; simp [fok, hc]
        have z : (0 : Int) < (l.length : Int) := by omega
        rw [look_bad (k := 2) (by decide) hpp (p := p) (q := q) hf]
        clear ih hf
        go_enter Try.func122, Try.ntmps122
        go_wp2
        go_ret
        exact ⟨rfl, fr1⟩
      obtain rfl : l = [] := List.eq_nil_of_length_eq_zero hc; clear hc
      by_cases hc : r = 0
      case neg =>
        have hf : fok 2 0 s 0 r = false := by
          simp [fok, hc]
        have z : (r != 0) = true := by simpa using hc
        rw [look_bad (k := 2) (by decide) hpp (p := p) (q := q) hf]
        clear ih hf
        go_enter Try.func122, Try.ntmps122
        go_wp2
        go_ret
        exact ⟨rfl, fr1⟩
      subst hc
      by_cases hc : s.size ≤ 256
      case neg =>
        have hf : fok 2 0 s 0 0 = false := by
          simp [fok]; omega
        have z : (256 : Int) < (s.size : Int) := by omega
        rw [look_bad (k := 2) (by decide) hpp (p := p) (q := q) hf]
        clear ih hf
        go_enter Try.func122, Try.ntmps122
        go_wp2
        go_ret
        exact ⟨rfl, fr1⟩
      have z : ¬ (256 : Int) < (s.size : Int) := by omega
      rw [show ([] : List T).map T.v = [] from rfl]
      rw [(look_leaf (k := 2) (n := 0) (s := s) (l := []) (r := 0) (p := p) (q := q) (by decide) hpp (by simp [fok, toL0]; try omega))]
      clear ih
      go_enter Try.func122, Try.ntmps122
      go_wp2
      go_ret
      exact ⟨rfl, fr1⟩
    · -- kind 3
      by_cases hc : n = 0
      case neg =>
        have hf : fok 3 n s (l.map T.v).length r = false := by
          simp [fok, hc]
        have z : (n != 0) = true := by simpa using hc
        rw [look_bad3 (p := p) (q := q) hf]
        clear ih hf
        go_enter Try.func122, Try.ntmps122
        go_wp2
        go_ret
        exact ⟨rfl, fr1⟩
      subst hc
      by_cases hc : s = ⟨#[]⟩
      case neg =>
        have hf : fok 3 0 s (l.map T.v).length r = false := by
          simp [fok, str_ne2 hc]; try exact fun h => absurd (toList_nil h) hc
        have z := str_ne hc
        have z2 := str_ne2 hc
        rw [look_bad3 (p := p) (q := q) hf]
        clear ih hf
        go_enter Try.func122, Try.ntmps122
        go_wp2
        go_ret
        exact ⟨rfl, fr1⟩
      subst hc
      by_cases hc : r = 0
      case neg =>
        have hf : fok 3 0 ⟨#[]⟩ (l.map T.v).length r = false := by
          simp [fok, hc]
        have z : (r != 0) = true := by simpa using hc
        rw [look_bad3 (p := p) (q := q) hf]
        clear ih hf
        go_enter Try.func122, Try.ntmps122
        go_wp2
        go_ret
        exact ⟨rfl, fr1⟩
      subst hc
      by_cases hq1 : (q : Int) < 1
      · rw [look_no (fits_short (n := 0) (s := ⟨#[]⟩) (l := l.map T.v) (r := 0) (p := p) (q := q) (.inr (by omega)))]
        clear ih
        go_enter Try.func122, Try.ntmps122
        go_wp2
        go_ret
        exact ⟨rfl, fr1⟩
      have hq2 : decide ((q : Int) < 1) = false := by simpa using hq1
      have hq3 : 1 ≤ q := by omega
      by_cases hlp : (p : Int) ≤ (l.length : Int)
      · have hlp' : decide (p ≤ l.length) = true := by simp; omega
        rw [look_no (fits_short (n := 0) (s := ⟨#[]⟩) (l := l.map T.v) (r := 0) (p := p) (q := q) (.inl (by rw [HLL.out]; omega)))]
        clear ih
        go_enter Try.func122, Try.ntmps122
        go_wp2
        go_ret
        exact ⟨rfl, fr1⟩
      have hlp' : decide (p ≤ l.length) = false := by simp; omega
      obtain ⟨c0, c1, c2, c3, c4, cf⟩ := hK.cells5
      have q0 := hK.lt
      go_enter Try.func122, Try.ntmps122
      go_wp2_with fail
      go_loopw [7, 8, 9] (fun v i _ wr => ∃ j m : Nat, j ≤ l.length ∧ i = .int .i64 (j : Int) ∧ v = .int .i64 (m : Int) ∧ m = 1 + sizeTo (l.map T.v) j ∧ m ≤ p ∧ fitsTo (l.map T.v) (q - 1) j ∧ Fr No (w.alloc (.cells #[.int .u8 3, .int .i64 0, .string ⟨#[]⟩, .slice A l.length cap, .int .i64 0] 27)) wr) (fun _ i _ _ => l.length - (intOf i).toNat)
      case atStart => exact ⟨0, 1, Nat.zero_le _, rfl, rfl, by simp [sizeTo_zero], by omega, fitsTo_zero _ _, Fr.refl _ _⟩
      case round =>
        obtain ⟨j, m, hj, rfl, rfl, hm, hmr, hall, fr⟩ := hrel
        obtain ⟨d0, d1, d2, d3, d4, df⟩ := (hK.fr fr fun h => h).cells5
        have frw := fr1.trans fr
        have HM := hide hm
        have HA := hide hall
        clear hm hall c0 c1 c2 c3 c4 cf
        by_cases hlt : j < l.length
        · obtain ⟨b, o, k1, n1, s1, A1, cap1, l1, r1, rfl, hb0, hb1', hx, hin, e0, e1, e2, e3, e4⟩ := T.elem (ht.no frw hh) hlt
          have hc := ih l[j] (List.getElem_mem hlt) (p - m) (q - 1) wr lo hi (by rw [hx]; exact hin) (by have := frw.size; omega) (by omega) (by omega)
          have hj' : j < (l.map T.v).length := by simpa using hlt
          have hxv : (l.map T.v)[j] = (T.mk k1 n1 s1 A1 cap1 l1 r1).v := by rw [List.getElem_map, hx]
          have hto := sizeTo_succ (l.map T.v) j hj'
          have hst := fun h => fits_stop (n := 0) (s := ⟨#[]⟩) (r := 0) (p := p) (q := q) hj' hq3 h
          have hfs := fun h1 h2 => fitsTo_succ HA.out hj' h1 h2
          rw [hxv] at hto hst hfs
          rw [hx, T.val_mk] at hc
          generalize (T.mk k1 n1 s1 A1 cap1 l1 r1).v = u at *
          have g0 : b < wr.heap.size := by have := frw.size; omega
          have HF := hide fr
          have HW := hide frw
          have hup := u.size_pos
          have x1 : ((p - m : Nat) : Int) = (p : Int) - (m : Int) := by omega
          have x2 : ((q - 1 : Nat) : Int) = (q : Int) - 1 := by omega
          rw [x1, x2] at hc
          clear x1 x2
          cases hfit : u.fits (p - m) (q - 1) with
          | true =>
            have h1 : u.ok = true ∧ u.size ≤ p - m ∧ u.dep ≤ q - 1 := by
              simp [V.fits] at hfit; exact ⟨hfit.1.1, hfit.1.2, hfit.2⟩
            have e : lookOf u (p - m) (q - 1) = (u.size : Int) := by simp [lookOf, hfit]
            rw [e] at hc
            have HC := hide hc
            have HT := hide hto
            have HFS := hide (hfs h1.1 h1.2.2)
            have hf1 := h1.2.1
            have hnn : ¬ ((u.size : Int) < 0) := by omega
            clear hst hto hxv hx ih fr frw fr1 hc hin hfs hfit e h1
            generalize hqq : u.size = z at *
            have HQ := hide hqq
            clear hqq
            go_wp2_with fail
            refine HC.out.mono ?_
            rintro e w2 ⟨rfl, fr2⟩
            have HF2 := hide fr2
            clear fr2
            go_wp2
            go_roundw
            case rel =>
              exact ⟨j + 1, m + z, hlt, by go_num, by go_num, by rw [HT.out, HM.out]; omega, by omega, HFS.out, HF.out.trans HF2.out⟩
            case measure => simp [intOf]; omega
          | false =>
            rw [look_no hfit] at hc
            have hno : lookOf (.mk 3 0 ⟨#[]⟩ (l.map T.v) 0) p q = -1 := look_no (hst (by rw [show p - 1 - sizeTo (l.map T.v) j = p - m from by rw [HM.out]; omega]; exact hfit))
            have HC := hide hc
            have HNO := hide hno
            clear hst hto hxv hx ih fr frw fr1 hc hin hfit hno hfs
            go_wp2_with fail
            refine HC.out.mono ?_
            rintro e w2 ⟨rfl, fr2⟩
            have HF2 := hide (HW.out.trans fr2)
            clear fr2
            go_wp2
            go_ret
            exact ⟨by rw [HNO.out]; rfl, HF2.out⟩
        · obtain rfl : l.length = j := by omega
          have hdone : lookOf (.mk 3 0 ⟨#[]⟩ (l.map T.v) 0) p q = (m : Int) := by
            obtain ⟨a, b⟩ := fits_done (n := 0) (s := ⟨#[]⟩) (l := l.map T.v) (r := 0) (p := p) (q := q) (by rw [HLL.out]; have := HM.out; omega) hpp hq3 (by rw [HLL.out]; exact HA.out)
            have c : fok 3 0 ⟨#[]⟩ (l.map T.v).length 0 = true := by simp [fok, toL0]
            rw [lookOf, a, if_pos c, b, HLL.out, ← HM.out]
          have HD := hide hdone
          have HW := hide frw
          clear hdone ih fr frw fr1
          go_wp2
          go_ret
          exact ⟨by rw [HD.out]; rfl, HW.out⟩
    · -- kind 4
      by_cases hc : n = 0
      case neg =>
        have hf : fok 4 n s (l.map T.v).length r = false := by
          simp [fok, hc]
        have z : (n != 0) = true := by simpa using hc
        rw [look_bad (k := 4) (by decide) hpp (p := p) (q := q) hf]
        clear ih hf
        go_enter Try.func122, Try.ntmps122
        go_wp2
        go_ret
        exact ⟨rfl, fr1⟩
      subst hc
      by_cases hc : s = ⟨#[]⟩
      case neg =>
        have hf : fok 4 0 s (l.map T.v).length r = false := by
          simp [fok, str_ne2 hc]; try exact fun h => absurd (toList_nil h) hc
        have z := str_ne hc
        have z2 := str_ne2 hc
        rw [look_bad (k := 4) (by decide) hpp (p := p) (q := q) hf]
        clear ih hf
        go_enter Try.func122, Try.ntmps122
        go_wp2
        go_ret
        exact ⟨rfl, fr1⟩
      subst hc
      by_cases hc : l.length = 0
      case neg =>
        have hf : fok 4 0 ⟨#[]⟩ (l.map T.v).length r = false := by
          rw [HLL.out]; simp [fok, hc]
        have z : (0 : Int) < (l.length : Int) := by omega
        rw [look_bad (k := 4) (by decide) hpp (p := p) (q := q) hf]
        clear ih hf
        go_enter Try.func122, Try.ntmps122
        go_wp2
        go_ret
        exact ⟨rfl, fr1⟩
      obtain rfl : l = [] := List.eq_nil_of_length_eq_zero hc; clear hc
      by_cases hc : 1 ≤ r
      case neg =>
        have hf : fok 4 0 ⟨#[]⟩ 0 r = false := by
          simp [fok]; omega
        have z : r < 1 := by omega
        rw [look_bad (k := 4) (by decide) hpp (p := p) (q := q) hf]
        clear ih hf
        go_enter Try.func122, Try.ntmps122
        go_wp2
        go_ret
        exact ⟨rfl, fr1⟩
      have z : ¬ r < 1 := by omega
      rw [show ([] : List T).map T.v = [] from rfl]
      rw [(look_leaf (k := 4) (n := 0) (s := ⟨#[]⟩) (l := []) (r := r) (p := p) (q := q) (by decide) hpp (by simp [fok, toL0]; try omega))]
      clear ih
      go_enter Try.func122, Try.ntmps122
      go_wp2
      go_ret
      exact ⟨rfl, fr1⟩

/-- The document's Parts. -/
theorem refParts_any (t : T) (w : World) (lo hi : Nat) (ht : t.In w lo hi) (hh : hi ≤ w.heap.size) :
    Calls Try.prog 60 #[t.val] w fun e w' => e = .returned (.int .i64 (t.v.meas : Int)) ∧ Fr No w w' := by
  have IH := fun w' h h' => look_any t 512 16 w' lo hi h h' (by decide) (by decide)
  cases t with
  | mk k n s A cap l r =>
    rw [T.val_mk] at *
    have hpos := (T.mk k n s A cap l r).v.size_pos
    generalize (T.mk k n s A cap l r).v = u at *
    have hin := ht.no ((Fr.refl No w).alloc (.cells #[.int .u8 k, .int .i64 n, .string s, .slice A l.length cap, .int .i64 r] 27)) hh
    cases hm : u.fits 512 16 with
    | true =>
      have e : u.meas = u.size := by simp [V.meas, V.may, hm]
      have e2 : lookOf u 512 16 = (u.size : Int) := by simp [lookOf, hm]
      have hle : u.size ≤ 512 := by simp [V.fits] at hm; omega
      rw [e]
      rw [e2] at IH
      clear hm e e2
      go_enter Try.func60, Try.ntmps60
      go_wp2_with fail
      refine (IH _ hin (by simp; omega)).mono ?_
      rintro e w2 ⟨rfl, fr2⟩
      go_wp2
      go_ret
      exact ⟨rfl, ((Fr.refl No w).alloc _).trans fr2⟩
    | false =>
      have e : u.meas = 0 := by simp [V.meas, V.may, hm]
      have e2 : lookOf u 512 16 = -1 := look_no hm
      rw [e]
      rw [e2] at IH
      clear hm e e2
      go_enter Try.func60, Try.ntmps60
      go_wp2_with fail
      refine (IH _ hin (by simp; omega)).mono ?_
      rintro e w2 ⟨rfl, fr2⟩
      go_wp2
      go_ret
      exact ⟨rfl, ((Fr.refl No w).alloc _).trans fr2⟩

/-- The document's May. -/
theorem refMay_any (t : T) (w : World) (lo hi : Nat) (ht : t.In w lo hi) (hh : hi ≤ w.heap.size) :
    Calls Try.prog 109 #[t.val] w fun e w' => e = .returned (.bool t.v.may) ∧ Fr No w w' := by
  have IH := fun w' h h' => refParts_any t w' lo hi h h'
  cases hm : t.v.may
  · have HM : t.v.meas = 0 := by simp [V.meas, hm]
    rw [HM] at IH
    cases t with
    | mk k n s A cap l r =>
      rw [T.val_mk] at *
      go_enter Try.func109, Try.ntmps109
      go_wp2_with fail
      refine (IH _ (ht.no ((Fr.refl No w).alloc _) hh) (by simp; omega)).mono ?_
      rintro e w2 ⟨rfl, fr2⟩
      go_wp2
      go_ret
      exact ⟨rfl, ((Fr.refl No w).alloc _).trans fr2⟩
  · have HM : 0 < t.v.meas := by simp [V.meas, hm]; exact t.v.size_pos
    cases t with
    | mk k n s A cap l r =>
      rw [T.val_mk] at *
      generalize (T.mk k n s A cap l r).v.meas = z at *
      go_enter Try.func109, Try.ntmps109
      go_wp2_with fail
      refine (IH _ (ht.no ((Fr.refl No w).alloc _) hh) (by simp; omega)).mono ?_
      rintro e w2 ⟨rfl, fr2⟩
      go_wp2
      go_ret
      exact ⟨by simp, ((Fr.refl No w).alloc _).trans fr2⟩

end Go.Proofs.Ytihjmipmjogpoaa

/- Chapter 2: the document's answer: order, Order, Same. -/
namespace Go.Proofs.Ytihjmipmjogpoaa
open Go.RowKit

theorem less_total : ∀ (a b : List UInt8), Op.bytesLess a b = false → Op.bytesLess b a = false → a = b
  | [], [], _, _ => rfl
  | [], y :: b, h, _ => by simp [Op.bytesLess] at h
  | x :: a, [], _, h => by simp [Op.bytesLess] at h
  | x :: a, y :: b, h, h' => by
    simp only [Op.bytesLess, Bool.or_eq_false_iff, Bool.and_eq_false_iff, decide_eq_false_iff_not, beq_eq_false_iff_ne] at h h'
    have hxy : x = y := by
      have q1 := h.1
      have q2 := h'.1
      rw [UInt8.lt_iff_toNat_lt] at q1 q2
      exact UInt8.toNat_inj.1 (by omega)
    subst hxy
    rw [less_total a b (h.2.resolve_left (fun h => h rfl)) (h'.2.resolve_left (fun h => h rfl))]

theorem less_asymm : ∀ (a b : List UInt8), Op.bytesLess a b = true → Op.bytesLess b a = false
  | [], [], h => by simp [Op.bytesLess] at h
  | [], y :: b, _ => rfl
  | x :: a, [], h => by simp [Op.bytesLess] at h
  | x :: a, y :: b, h => by
    simp only [Op.bytesLess, Bool.or_eq_true, Bool.and_eq_true, decide_eq_true_eq, beq_iff_eq] at h
    simp only [Op.bytesLess, Bool.or_eq_false_iff, Bool.and_eq_false_iff, decide_eq_false_iff_not, beq_eq_false_iff_ne]
    rcases h with h | ⟨rfl, h⟩
    · exact ⟨UInt8.lt_asymm h, .inl fun e => by subst e; exact absurd h (UInt8.lt_irrefl _)⟩
    · exact ⟨UInt8.lt_irrefl _, .inr (less_asymm a b h)⟩

theorem fok_n {k n : Int} {s : ByteArray} {len : Nat} {r : Int} (h : fok k n s len r = true) (hk : k ≠ 1) : n = 0 := by
  rcases fok_kind h with rfl | rfl | rfl | rfl | rfl
  · simp [fok] at h; exact h.1.1.1
  · exact absurd rfl hk
  · simp [fok] at h; exact h.1.1.2
  · simp [fok] at h; exact h.1.1
  · simp [fok] at h; exact h.1.1.2
theorem fok_s {k n : Int} {s : ByteArray} {len : Nat} {r : Int} (h : fok k n s len r = true) (hk : k ≠ 2) : s.toList = [] := by
  rcases fok_kind h with rfl | rfl | rfl | rfl | rfl
  · simp [fok] at h; exact h.1.1.2
  · simp [fok] at h; exact h.1.1
  · exact absurd rfl hk
  · simp [fok] at h; exact h.1.2
  · simp [fok] at h; exact h.1.2
theorem fok_r {k n : Int} {s : ByteArray} {len : Nat} {r : Int} (h : fok k n s len r = true) (hk : k ≠ 4) : r = 0 := by
  rcases fok_kind h with rfl | rfl | rfl | rfl | rfl
  · simp [fok] at h; exact h.1.2
  · simp [fok] at h; exact h.1.2
  · simp [fok] at h; exact h.1.2
  · simp [fok] at h; exact h.2
  · exact absurd rfl hk

section
variable {k n n' : Int} {s s' : ByteArray} {l l' : List V} {r r' : Int} (hu : fok k n s l.length r = true) (hv : fok k n' s' l'.length r' = true)
include hu hv
theorem ord_part (a b : Bool) (ha : a = (decide (n < n') || Op.bytesLess s.toList s'.toList || decide (r < r'))) (hb : b = (decide (n' < n) || Op.bytesLess s'.toList s.toList || decide (r' < r))) :
    (k = 0 ∨ k = 3 → a = false ∧ b = false) ∧ (k = 1 → a = decide (n < n') ∧ b = decide (n' < n)) ∧ (k = 2 → a = Op.bytesLess s.toList s'.toList ∧ b = Op.bytesLess s'.toList s.toList) ∧ (k = 4 → a = decide (r < r') ∧ b = decide (r' < r)) := by
  subst ha hb
  have hn : k ≠ 1 → n = 0 ∧ n' = 0 := fun h => ⟨fok_n hu h, fok_n hv h⟩
  have hs : k ≠ 2 → s.toList = [] ∧ s'.toList = [] := fun h => ⟨fok_s hu h, fok_s hv h⟩
  have hr : k ≠ 4 → r = 0 ∧ r' = 0 := fun h => ⟨fok_r hu h, fok_r hv h⟩
  refine ⟨fun h => ?_, fun h => ?_, fun h => ?_, fun h => ?_⟩
  · obtain ⟨e1, e2⟩ := hn (by omega)
    obtain ⟨e3, e4⟩ := hs (by omega)
    obtain ⟨e5, e6⟩ := hr (by omega)
    rw [e1, e2, e3, e4, e5, e6]; exact ⟨rfl, rfl⟩
  · obtain ⟨e3, e4⟩ := hs (by omega)
    obtain ⟨e5, e6⟩ := hr (by omega)
    rw [e3, e4, e5, e6]; simp [Op.bytesLess]
  · obtain ⟨e1, e2⟩ := hn (by omega)
    obtain ⟨e5, e6⟩ := hr (by omega)
    rw [e1, e2, e5, e6]; simp
  · obtain ⟨e1, e2⟩ := hn (by omega)
    obtain ⟨e3, e4⟩ := hs (by omega)
    rw [e1, e2, e3, e4]; simp [Op.bytesLess]

theorem ord_low (h : n < n' ∨ Op.bytesLess s.toList s'.toList = true ∨ r < r') : (V.mk k n s l r).ord (V.mk k n' s' l' r') = -1 := by
  obtain ⟨p0, p1, p2, p4⟩ := ord_part hu hv true _ (by rcases h with h | h | h <;> simp [h]) rfl
  rw [V.ord_mk, ordOf, if_pos rfl]
  rcases fok_kind hu with rfl | rfl | rfl | rfl | rfl
  · exact absurd (p0 (.inl rfl)).1 (by decide)
  · have := (p1 rfl).1; rw [if_pos rfl, cmpI, if_pos (by simpa using this.symm)]
  · have := (p2 rfl).1; rw [if_neg (by decide), if_pos rfl, cmpS, if_pos this.symm]
  · exact absurd (p0 (.inr rfl)).1 (by decide)
  · have := (p4 rfl).1; rw [if_neg (by decide), if_neg (by decide), if_pos rfl, cmpI, if_pos (by simpa using this.symm)]

theorem ord_high (h : n' < n ∨ Op.bytesLess s'.toList s.toList = true ∨ r' < r) : (V.mk k n s l r).ord (V.mk k n' s' l' r') = 1 := by
  obtain ⟨p0, p1, p2, p4⟩ := ord_part hu hv _ true rfl (by rcases h with h | h | h <;> simp [h])
  rw [V.ord_mk, ordOf, if_pos rfl]
  rcases fok_kind hu with rfl | rfl | rfl | rfl | rfl
  · exact absurd (p0 (.inl rfl)).2 (by decide)
  · have h1 : n' < n := by simpa using (p1 rfl).2.symm
    rw [if_pos rfl, cmpI, if_neg (by omega), if_pos h1]
  · have h1 := (p2 rfl).2.symm
    have h2 := less_asymm _ _ h1
    rw [if_neg (by decide), if_pos rfl, cmpS, h2, if_neg (by decide), if_neg]
    intro h3
    rw [beq_iff_eq] at h3
    rw [h3, less_self] at h1
    cases h1
  · exact absurd (p0 (.inr rfl)).2 (by decide)
  · have h1 : r' < r := by simpa using (p4 rfl).2.symm
    rw [if_neg (by decide), if_neg (by decide), if_pos rfl, cmpI, if_neg (by omega), if_pos h1]

theorem ord_list (h1 : ¬ (n < n' ∨ Op.bytesLess s.toList s'.toList = true ∨ r < r')) (h2 : ¬ (n' < n ∨ Op.bytesLess s'.toList s.toList = true ∨ r' < r)) : (V.mk k n s l r).ord (V.mk k n' s' l' r') = ordL (l.map V.ord) l' := by
  rw [V.ord_mk, ordOf, if_pos rfl]
  have hl0 : k ≠ 3 → l = [] ∧ l' = [] := fun h => ⟨List.eq_nil_of_length_eq_zero (fok_len h hu), List.eq_nil_of_length_eq_zero (fok_len h hv)⟩
  rcases fok_kind hu with rfl | rfl | rfl | rfl | rfl
  · rw [if_neg (by decide), if_neg (by decide), if_neg (by decide)]
  · obtain ⟨rfl, rfl⟩ := hl0 (by decide)
    rw [if_pos rfl, cmpI, if_neg (by omega), if_neg (by omega)]; rfl
  · obtain ⟨rfl, rfl⟩ := hl0 (by decide)
    have e : s.toList = s'.toList := less_total _ _ (by simpa using fun h => h1 (.inr (.inl h))) (by simpa using fun h => h2 (.inr (.inl h)))
    rw [if_neg (by decide), if_pos rfl, cmpS, e, less_self]; simp [ordL]
  · rw [if_neg (by decide), if_neg (by decide), if_neg (by decide)]
  · obtain ⟨rfl, rfl⟩ := hl0 (by decide)
    rw [if_neg (by decide), if_neg (by decide), if_pos rfl, cmpI, if_neg (by omega), if_neg (by omega)]; rfl
end

theorem ordL_end {fs : List (V → Int)} {vs : List V} {j : Nat} (hj : j = fs.length ∨ j = vs.length) (hz : EqTo fs vs j) : ordL fs vs = if fs.length < vs.length then -1 else if vs.length < fs.length then 1 else 0 := by
  rcases Nat.lt_trichotomy fs.length vs.length with h | h | h
  · rw [if_pos h]
    rw [ordL_done (by omega) (fun i f v hi => hz i f v (by rcases hj with rfl | rfl <;> omega)), if_pos h]
  · rw [if_neg (by omega), if_neg (by omega)]
    rw [ordL_done (by omega) (fun i f v hi => hz i f v (by rcases hj with rfl | rfl <;> omega)), if_neg (by omega)]
  · rw [if_neg (by omega), if_pos h]
    exact ordL_more h (fun i f v hi => hz i f v (by rcases hj with rfl | rfl <;> omega))

set_option maxRecDepth 100000 in
set_option maxHeartbeats 8000000 in
theorem reforder_any (t : T) : ∀ (t' : T) (w : World) (lo hi lo' hi' : Nat), t.In w lo hi → hi ≤ w.heap.size → t'.In w lo' hi' → hi' ≤ w.heap.size → t.v.ok = true → t'.v.ok = true →
    Calls Try.prog 131 #[t.val, t'.val] w fun e w' => e = .returned (.int .i64 (t.v.ord t'.v)) ∧ Fr No w w' := by
  induction t using T.ind with
  | h k n s A cap l r ih =>
    intro t' w lo hi lo' hi' ht hh ht' hh' hok hok'
    cases t' with
    | mk k' n' s' A' cap' l' r' =>
      rw [T.val_mk, T.val_mk]
      have fr2 := ((Fr.refl No w).alloc (.cells #[.int .u8 k, .int .i64 n, .string s, .slice A l.length cap, .int .i64 r] 27)).alloc (.cells #[.int .u8 k', .int .i64 n', .string s', .slice A' l'.length cap', .int .i64 r'] 27)
      rw [T.v_mk] at hok hok' ⊢
      rw [T.v_mk]
      rw [V.ok_mk, Bool.and_eq_true, List.all_eq_true] at hok hok'
      have hlen := (T.in_mk.1 ht).1.len1
      have hlen' := (T.in_mk.1 ht').1.len1
      by_cases hk : k = k'
      case neg =>
        have hk' : (k != k') = true := by simpa using hk
        have e : (V.mk k n s (l.map T.v) r).ord (V.mk k' n' s' (l'.map T.v) r') = if k < k' then -1 else 1 := by
          rw [V.ord_mk, ordOf, if_neg hk, cmpI]
          split
          · rfl
          · rw [if_pos (by omega)]
        rw [e]
        clear ih hok hok' e ht ht'
        by_cases hlt : k < k'
        · rw [if_pos hlt]
          go_enter Try.func131, Try.ntmps131
          go_wp2
          go_ret
          exact ⟨rfl, fr2⟩
        · rw [if_neg hlt]
          go_enter Try.func131, Try.ntmps131
          go_wp2
          go_ret
          exact ⟨rfl, fr2⟩
      subst hk
      by_cases h1 : n < n' ∨ Op.bytesLess s.toList s'.toList = true ∨ r < r'
      · rw [ord_low hok.1 hok'.1 h1]
        clear ih hok hok' ht ht'
        by_cases a1 : n < n'
        · go_enter Try.func131, Try.ntmps131
          go_wp2
          go_ret
          exact ⟨rfl, fr2⟩
        cases a2 : Op.bytesLess s.toList s'.toList with
        | true =>
          clear h1
          go_enter Try.func131, Try.ntmps131
          go_wp2
          go_ret
          exact ⟨rfl, fr2⟩
        | false =>
          have a3 : r < r' := by rcases h1 with h | h | h; exact absurd h a1; rw [a2] at h; cases h; exact h
          clear h1
          go_enter Try.func131, Try.ntmps131
          go_wp2
          go_ret
          exact ⟨rfl, fr2⟩
      have b1 : ¬ n < n' := fun h => h1 (.inl h)
      have b2 : Op.bytesLess s.toList s'.toList = false := by simpa using fun h => h1 (.inr (.inl h))
      have b3 : ¬ r < r' := fun h => h1 (.inr (.inr h))
      by_cases h2 : n' < n ∨ Op.bytesLess s'.toList s.toList = true ∨ r' < r
      · rw [ord_high hok.1 hok'.1 h2]
        clear ih hok hok' ht ht' h1
        by_cases a1 : n' < n
        · go_enter Try.func131, Try.ntmps131
          go_wp2
          go_ret
          exact ⟨rfl, fr2⟩
        cases a2 : Op.bytesLess s'.toList s.toList with
        | true =>
          have a4 : (s.toList == s'.toList) = false := by
            simp only [beq_eq_false_iff_ne]
            intro h3
            rw [h3, less_self] at a2
            cases a2
          have a5 : ¬ s.toList = s'.toList := by simpa using a4
          clear h2
          go_enter Try.func131, Try.ntmps131
          go_wp2
          go_ret
          exact ⟨rfl, fr2⟩
        | false =>
          have a3 : r' < r := by rcases h2 with h | h | h; exact absurd h a1; rw [a2] at h; cases h; exact h
          obtain rfl : s = s' := bytes_ext (less_total _ _ b2 a2)
          clear h2
          go_enter Try.func131, Try.ntmps131
          go_wp2
          go_ret
          exact ⟨rfl, fr2⟩
      have d1 : ¬ n' < n := fun h => h2 (.inl h)
      have d2 : Op.bytesLess s'.toList s.toList = false := by simpa using fun h => h2 (.inr (.inl h))
      have d3 : ¬ r' < r := fun h => h2 (.inr (.inr h))
      have hE := ord_list hok.1 hok'.1 h1 h2
      obtain rfl : s = s' := bytes_ext (less_total _ _ b2 d2)
      have HE := hide hE
      have HOK := hide hok.2
      have HOK' := hide hok'.2
      clear h1 h2 hE hok hok'
      have hK0 := (Blk.new' w 27 #[.int .u8 k, .int .i64 n, .string s, .slice A l.length cap, .int .i64 r] rfl).alloc (.cells #[.int .u8 k, .int .i64 n', .string s, .slice A' l'.length cap', .int .i64 r'] 27)
      have hV0 := Blk.new' (w.alloc (.cells #[.int .u8 k, .int .i64 n, .string s, .slice A l.length cap, .int .i64 r] 27)) 27 #[.int .u8 k, .int .i64 n', .string s, .slice A' l'.length cap', .int .i64 r'] (g := w.heap.size + 1) (by simp)
      go_enter Try.func131, Try.ntmps131
      go_wp2_with fail
      go_loopw [5, 6] (fun i _ wr => ∃ j : Nat, j ≤ l.length ∧ j ≤ l'.length ∧ i = .int .i64 j ∧ Fr No ((w.alloc (.cells #[.int .u8 k, .int .i64 n, .string s, .slice A l.length cap, .int .i64 r] 27)).alloc (.cells #[.int .u8 k, .int .i64 n', .string s, .slice A' l'.length cap', .int .i64 r'] 27)) wr ∧ EqTo ((l.map T.v).map V.ord) (l'.map T.v) j) (fun i _ _ => l.length - (intOf i).toNat)
      case atStart =>
        exact ⟨0, Nat.zero_le _, Nat.zero_le _, rfl, Fr.refl _ _, EqTo.zero _ _⟩
      case round =>
        obtain ⟨j, hj, hj', rfl, fr, hsame⟩ := hrel
        have hK := hK0.fr fr fun h => h
        have hV := hV0.fr fr fun h => h
        have frw := fr2.trans fr
        have hszr := fr.size
        simp at hszr
        obtain ⟨c0, c1, c2, c3, c4, cf⟩ := hK.cells5
        obtain ⟨f0, f1, f2, f3, f4, ff⟩ := hV.cells5
        have g2 : w.heap.size < wr.heap.size := by omega
        have g3 : w.heap.size + 1 < wr.heap.size := by omega
        by_cases hboth : j < l.length ∧ j < l'.length
        · obtain ⟨hlt, hlt'⟩ := hboth
          obtain ⟨b, o, k1, n1, s1, A1, cap1, l1, r1, rfl, hb0, hb1, hx, hin, e0, e1, e2, e3, e4⟩ := T.elem (ht.no frw hh) hlt
          obtain ⟨b', o', k2, n2, s2, A2, cap2, l2, r2, rfl, hb0', hb1', hx', hin', m0, m1, m2, m3, m4⟩ := T.elem (ht'.no frw hh') hlt'
          have IH := ih l[j] (List.getElem_mem hlt) l'[j]
          rw [hx, hx', T.val_mk, T.val_mk] at IH
          have hr := ord_range (T.mk k1 n1 s1 A1 cap1 l1 r1).v (T.mk k2 n2 s2 A2 cap2 l2 r2).v
          have hok1 : (T.mk k1 n1 s1 A1 cap1 l1 r1).v.ok = true := by rw [← hx]; exact HOK.out _ (List.mem_map_of_mem (List.getElem_mem hlt))
          have hok2 : (T.mk k2 n2 s2 A2 cap2 l2 r2).v.ok = true := by rw [← hx']; exact HOK'.out _ (List.mem_map_of_mem (List.getElem_mem hlt'))
          have hfj : ((l.map T.v).map V.ord)[j]? = some (T.mk k1 n1 s1 A1 cap1 l1 r1).v.ord := by
            rw [List.getElem?_map, List.getElem?_map, List.getElem?_eq_getElem hlt, hx]; rfl
          have hvj : (l'.map T.v)[j]? = some (T.mk k2 n2 s2 A2 cap2 l2 r2).v := by
            rw [List.getElem?_map, List.getElem?_eq_getElem hlt', hx']; rfl
          generalize (T.mk k1 n1 s1 A1 cap1 l1 r1).v = u1 at *
          generalize (T.mk k2 n2 s2 A2 cap2 l2 r2).v = u2 at *
          have g0 : b < wr.heap.size := by omega
          have g1 : b' < wr.heap.size := by omega
          have hh0 : hi ≤ wr.heap.size := by omega
          have hh1 : hi' ≤ wr.heap.size := by omega
          have IH2 := fun w1 (f : Fr No wr w1) => IH w1 lo hi lo' hi' (hin.no f hh0) (Nat.le_trans hh0 f.size) (hin'.no f hh1) (Nat.le_trans hh1 f.size) hok1 hok2
          have HIH := hide IH2
          have HFJ := hide hfj
          have HVJ := hide hvj
          have HF := hide fr
          have HW := hide frw
          have HS := hide hsame
          clear hx hx' ih hK hV fr frw fr2 hsame IH IH2 hfj hvj hok1 hok2 hin hin' ht ht' hK0 hV0
          generalize hcc : u1.ord u2 = c at *
          have HCC := hide hcc
          clear hcc
          go_wp2_with fail
          go_region_held3 (fun w' => (∀ c i, c < wr.heap.size → w'.cell? ⟨c, i, none⟩ = wr.cell? ⟨c, i, none⟩) ∧ Fr No wr w')
            (first | exact ⟨fun _ _ _ => rfl, Fr.drew (Fr.refl No wr)⟩ | (have hq : Fr No wr _ := (‹_ ∧ Fr No wr _›).2.trans ‹Fr No _ _›; exact ⟨hq.cells, hq⟩))
            (first
              | (go_at_call 131; have hs0 := (‹_ ∧ Fr No wr _›).2; ((with_reducible refine (HIH.out _ ?_).mono ?_); (exact hs0); rintro e w2 ⟨rfl, fr1⟩)))
          have hF2 := (‹_ ∧ Fr No wr _›).2
          have HF2 := hide hF2
          rcases hr with rfl | rfl | rfl
          · have hP := ordL_at HS.out HFJ.out HVJ.out (by rw [HCC.out]; decide)
            rw [HCC.out] at hP
            have HP := hide hP
            clear hP
            go_wp2
            go_ret
            exact ⟨by rw [HE.out, HP.out]; rfl, HW.out.trans HF2.out⟩
          · go_wp2
            go_roundw
            case rel => exact ⟨j + 1, hlt, hlt', by go_num, HF.out.trans HF2.out, HS.out.succ HFJ.out HVJ.out HCC.out⟩
            case measure => simp [intOf]; omega
          · have hP := ordL_at HS.out HFJ.out HVJ.out (by rw [HCC.out]; decide)
            rw [HCC.out] at hP
            have HP := hide hP
            clear hP
            go_wp2
            go_ret
            exact ⟨by rw [HE.out, HP.out]; rfl, HW.out.trans HF2.out⟩
        · have hend : ordL ((l.map T.v).map V.ord) (l'.map T.v) = if l.length < l'.length then -1 else if l'.length < l.length then 1 else 0 := by
            have := ordL_end (fs := (l.map T.v).map V.ord) (vs := l'.map T.v) (j := j) (by simp; omega) hsame
            simpa using this
          have HN := hide hend
          have HW := hide frw
          clear hend ih frw fr fr2 hsame hK hV
          rcases Nat.lt_trichotomy l.length l'.length with h | h | h
          · obtain rfl : j = l.length := by omega
            clear hboth
            go_wp2
            go_ret
            exact ⟨by rw [HE.out, HN.out, if_pos h]; rfl, HW.out⟩
          · obtain rfl : j = l.length := by omega
            have h3 : ¬ l.length < l'.length := by omega
            have h4 : ¬ l'.length < l.length := by omega
            have HH := hide h
            clear h hboth
            go_wp2
            go_ret
            exact ⟨by rw [HE.out, HN.out, if_neg h3, if_neg h4]; rfl, HW.out⟩
          · obtain rfl : j = l'.length := by omega
            have h3 : ¬ l.length < l'.length := by omega
            clear hboth
            go_wp2
            go_ret
            exact ⟨by rw [HE.out, HN.out, if_neg h3, if_pos h]; rfl, HW.out⟩

end Go.Proofs.Ytihjmipmjogpoaa

/- Plain: the order of values is a total one. No program in sight. -/
namespace Go.Proofs.Ytihjmipmjogpoaa

theorem less_trans : ∀ (a b c : List UInt8), Op.bytesLess a b = true → Op.bytesLess b c = true → Op.bytesLess a c = true
  | a, b, [], _, h => by cases b <;> simp [Op.bytesLess] at h
  | [], b, z :: c, _, _ => by simp [Op.bytesLess]
  | x :: a, [], z :: c, h, _ => by simp [Op.bytesLess] at h
  | x :: a, y :: b, z :: c, h, h' => by
    simp only [Op.bytesLess, Bool.or_eq_true, Bool.and_eq_true, decide_eq_true_eq, beq_iff_eq] at h h' ⊢
    rcases h with h | ⟨rfl, h⟩
    · rcases h' with h' | ⟨rfl, h'⟩
      · exact .inl (UInt8.lt_trans h h')
      · exact .inl h
    · rcases h' with h' | ⟨rfl, h'⟩
      · exact .inl h'
      · exact .inr ⟨rfl, less_trans a b c h h'⟩

/-- What a comparison that is -1, 0, 1 says of three. -/
def Tri (xy yz xz : Int) : Prop := (xy = 0 → xz = yz) ∧ (yz = 0 → xz = xy) ∧ (xy = -1 → yz = -1 → xz = -1)

theorem cmpI_tri (a b c : Int) : Tri (cmpI a b) (cmpI b c) (cmpI a c) := by
  unfold Tri cmpI
  refine ⟨?_, ?_, ?_⟩ <;> (repeat' split) <;> simp <;> omega

theorem cmpI_anti (a b : Int) : cmpI b a = -cmpI a b := by
  unfold cmpI
  (repeat' split) <;> simp <;> omega

theorem cmpS_eq_zero {a b : ByteArray} : cmpS a b = 0 ↔ a = b := ⟨cmpS_zero, fun h => by subst h; simp [cmpS, less_self]⟩
theorem cmpS_low {a b : ByteArray} : cmpS a b = -1 ↔ Op.bytesLess a.toList b.toList = true := by
  unfold cmpS
  constructor
  · intro h
    split at h
    · assumption
    · split at h <;> cases h
  · intro h; rw [if_pos h]

theorem cmpS_tri (a b c : ByteArray) : Tri (cmpS a b) (cmpS b c) (cmpS a c) := by
  refine ⟨fun h => ?_, fun h => ?_, fun h h' => ?_⟩
  · rw [cmpS_eq_zero.1 h]
  · rw [cmpS_eq_zero.1 h]
  · exact cmpS_low.2 (less_trans _ _ _ (cmpS_low.1 h) (cmpS_low.1 h'))

theorem cmpS_anti (a b : ByteArray) : cmpS b a = -cmpS a b := by
  rcases cmpS_range a b with h | h | h
  · rw [h]
    have h1 := less_asymm _ _ (cmpS_low.1 h)
    rcases cmpS_range b a with h2 | h2 | h2
    · rw [cmpS_low.1 h2] at h1; cases h1
    · rw [cmpS_eq_zero.1 h2, cmpS_eq_zero.2 rfl] at h; cases h
    · rw [h2]; rfl
  · rw [h, cmpS_eq_zero.1 h, cmpS_eq_zero.2 rfl]; rfl
  · rw [h]
    have h1 : Op.bytesLess a.toList b.toList = false := by
      rw [Bool.eq_false_iff]; intro h2; rw [cmpS_low.2 h2] at h; cases h
    rw [cmpS_low.2 ?_]
    rw [← Bool.not_eq_false]
    intro h2
    have := bytes_ext (less_total _ _ h1 h2)
    subst this
    rw [cmpS_eq_zero.2 rfl] at h; cases h

theorem ordL_anti (l : List V) : ∀ m : List V, (∀ x ∈ l, ∀ y : V, y.ord x = -x.ord y) → ordL (m.map V.ord) l = -ordL (l.map V.ord) m := by
  induction l with
  | nil => intro m _; cases m <;> rfl
  | cons x l ih =>
    intro m h
    cases m with
    | nil => rfl
    | cons y m =>
      simp only [List.map_cons, ordL]
      rw [h x (by simp) y]
      by_cases h0 : x.ord y = 0
      · rw [if_pos h0, if_pos (by omega), ih m fun z hz => h z (by simp [hz])]
      · rw [if_neg h0, if_neg (by omega)]

theorem ord_anti (u : V) : ∀ v : V, v.ord u = -u.ord v := by
  induction u using V.ind with
  | h k n s l r ih =>
    intro v
    cases v with
    | mk k' n' s' l' r' =>
      rw [V.ord_mk, V.ord_mk, ordOf, ordOf]
      by_cases hk : k = k'
      · subst hk
        rw [if_pos rfl, if_pos rfl]
        (repeat' split)
        · exact cmpI_anti _ _
        · exact cmpS_anti _ _
        · exact cmpI_anti _ _
        · exact ordL_anti l l' ih
      · rw [if_neg hk, if_neg (fun h => hk h.symm)]
        exact cmpI_anti _ _

theorem ordL_tri (l : List V) : ∀ m p : List V, (∀ x ∈ l, ∀ y z : V, Tri (x.ord y) (y.ord z) (x.ord z)) → Tri (ordL (l.map V.ord) m) (ordL (m.map V.ord) p) (ordL (l.map V.ord) p) := by
  induction l with
  | nil =>
    intro m p _
    cases m <;> cases p <;> simp [Tri, ordL]
  | cons x l ih =>
    intro m p h
    cases m with
    | nil => cases p <;> simp [Tri, ordL]
    | cons y m =>
      cases p with
      | nil => simp [Tri, ordL]
      | cons z p =>
        have hx := h x (by simp) y z
        have ht := ih m p fun a ha => h a (by simp [ha])
        have r1 := ord_range x y
        have r2 := ord_range y z
        have r3 := ord_range x z
        simp only [List.map_cons, ordL]
        generalize x.ord y = a at *
        generalize y.ord z = b at *
        generalize x.ord z = c at *
        generalize ordL (l.map V.ord) m = a' at *
        generalize ordL (m.map V.ord) p = b' at *
        generalize ordL (l.map V.ord) p = c' at *
        unfold Tri at *
        obtain ⟨q1, q2, q3⟩ := hx
        obtain ⟨t1, t2, t3⟩ := ht
        rcases r1 with rfl | rfl | rfl <;> rcases r2 with rfl | rfl | rfl <;> rcases r3 with rfl | rfl | rfl <;> simp at * <;> (try exact ⟨t1, t2, t3⟩)

theorem ord_tri (u : V) : ∀ v w : V, Tri (u.ord v) (v.ord w) (u.ord w) := by
  induction u using V.ind with
  | h k n s l r ih =>
    intro v w
    cases v with
    | mk k' n' s' l' r' =>
      cases w with
      | mk k2 n2 s2 l2 r2 =>
        rw [V.ord_mk, V.ord_mk, ordOf, ordOf, ordOf]
        by_cases h1 : k = k'
        · subst h1
          by_cases h2 : k = k2
          · subst h2
            simp only [if_true]
            (repeat' split)
            · exact cmpI_tri _ _ _
            · exact cmpS_tri _ _ _
            · exact cmpI_tri _ _ _
            · exact ordL_tri l l' l2 ih
          · rw [if_neg h2, if_neg h2]
            refine ⟨fun _ => rfl, fun h => absurd (cmpI_zero h) h2, fun h h' => h'⟩
        · rw [if_neg h1]
          by_cases h2 : k' = k2
          · subst h2
            rw [if_neg h1]
            exact ⟨fun h => absurd (cmpI_zero h) h1, fun _ => rfl, fun h _ => h⟩
          · rw [if_neg h2]
            refine ⟨fun h => absurd (cmpI_zero h) h1, fun h => absurd (cmpI_zero h) h2, fun h h' => ?_⟩
            have ht := (cmpI_tri k k' k2).2.2 h h'
            rw [if_neg (fun e => by subst e; simp [cmpI] at ht)]
            exact ht

/-- One tree stands ahead of another, or both ways. -/
def leT (x y : T) : Prop := x.v.ord y.v ≤ 0

theorem leT_ord : Ordd leT where
  trans a b c h h' := by
    unfold leT at *
    obtain ⟨t1, t2, t3⟩ := ord_tri a.v b.v c.v
    rcases ord_range a.v b.v with r | r | r <;> rcases ord_range b.v c.v with r' | r' | r' <;> first | omega | (rw [t1 r]; omega) | (rw [t2 r']; omega) | (rw [t3 r r']; decide)
  total a b := by
    unfold leT
    have := ord_anti a.v b.v
    omega

theorem leT_of_not {x y : T} (h : ¬ x.v.ord y.v < 0) : leT y x := by
  unfold leT
  have := ord_anti x.v y.v
  omega

theorem leT_of_lt {x y : T} (h : x.v.ord y.v < 0) : leT x y := by unfold leT; omega

end Go.Proofs.Ytihjmipmjogpoaa

/- Chapter 2: a value whose lists lie in rows of their own; value.own's are such. -/
namespace Go.Proofs.Ytihjmipmjogpoaa
open Go.RowKit

/-- Each list of a tree lies in a row of its own, alone; where there is none, nothing is kept. -/
def T.Sp (w : World) (lo hi : Nat) : T → Prop
  | .mk k n s A cap l r => Fit k n s l.length cap r ∧ (l = [] → A = none ∧ cap = 0) ∧ (l ≠ [] → w.ownsRow lo 27 5 (.slice A l.length cap) l.length (rowCells l) ∧ ∃ g, A = some ⟨g, 0, none⟩ ∧ g < hi) ∧ ∀ x ∈ l, T.Sp w lo hi x
termination_by t => t

theorem T.sp_mk {w : World} {lo hi : Nat} {k n : Int} {s : ByteArray} {A : Option Addr} {cap : Nat} {l : List T} {r : Int} :
    (T.mk k n s A cap l r).Sp w lo hi ↔ Fit k n s l.length cap r ∧ (l = [] → A = none ∧ cap = 0) ∧ (l ≠ [] → w.ownsRow lo 27 5 (.slice A l.length cap) l.length (rowCells l) ∧ ∃ g, A = some ⟨g, 0, none⟩ ∧ g < hi) ∧ ∀ x ∈ l, x.Sp w lo hi := by
  rw [T.Sp]

theorem owns_mono {w : World} {base base' : Nat} {e : TypeId} {size : Nat} {v : Value} {n : Nat} {xs : List Value} (h : w.ownsRow base e size v n xs) (hb : base' ≤ base) : w.ownsRow base' e size v n xs := by
  refine ⟨h.1, ?_⟩
  rcases h.2 with h | ⟨g, cap, cur, h1, h2, h3⟩
  · exact .inl h
  · exact .inr ⟨g, cap, cur, h1, by omega, h3⟩

theorem T.Sp.inn {w : World} {lo hi : Nat} (t : T) : t.Sp w lo hi → t.In w lo hi := by
  induction t using T.ind with
  | h k n s A cap l r ih =>
    rw [T.sp_mk, T.in_mk]
    rintro ⟨h1, _, h3, h4⟩
    refine ⟨h1, fun hl => ?_, fun x hx => ih x hx (h4 x hx)⟩
    obtain ⟨ho, g, rfl, hg⟩ := h3 hl
    have hb := owns_lt ho g rfl
    refine ⟨g, 0, rfl, hb.1, hg, fun i x hx j u hu => ?_⟩
    have := World.ownsRow.cells ho (g := g) rfl _ _ (rowCells_get l i j x u hx hu)
    rw [add_at, ← Nat.add_assoc] at this
    exact this

theorem T.Sp.fr {S : Nat → Prop} {w w' : World} {lo hi : Nat} (hf : Fr S w w') (t : T) : (∀ b ∈ t.blocks, ¬ S b) → t.Sp w lo hi → t.Sp w' lo hi := by
  induction t using T.ind with
  | h k n s A cap l r ih =>
    intro hs
    rw [T.blocks_mk] at hs
    rw [T.sp_mk, T.sp_mk]
    rintro ⟨h1, h2, h3, h4⟩
    refine ⟨h1, h2, fun hl => ?_, fun x hx => ih x hx (fun b hb => hs b (List.mem_append_right _ (List.mem_flatten.2 ⟨_, List.mem_map_of_mem hx, hb⟩))) (h4 x hx)⟩
    obtain ⟨ho, g, rfl, hg⟩ := h3 hl
    refine ⟨owns_fr ho hf (fun g' hg' => ?_), g, rfl, hg⟩
    simp [Value.ownBlock] at hg'
    subst hg'
    refine hs g (List.mem_append_left _ ?_)
    cases l with
    | nil => exact absurd rfl hl
    | cons x l => simp

theorem T.Sp.more {w : World} {lo hi lo' hi' : Nat} (hl : lo' ≤ lo) (hh : hi ≤ hi') (t : T) : t.Sp w lo hi → t.Sp w lo' hi' := by
  induction t using T.ind with
  | h k n s A cap l r ih =>
    rw [T.sp_mk, T.sp_mk]
    rintro ⟨h1, h2, h3, h4⟩
    refine ⟨h1, h2, fun hl' => ?_, fun x hx => ih x hx (h4 x hx)⟩
    obtain ⟨ho, g, hA, hg⟩ := h3 hl'
    exact ⟨owns_mono ho hl, g, hA, by omega⟩

/-- .. and no two of them lie in one. -/
structure T.Sh (w : World) (lo hi : Nat) (t : T) : Prop where
  sp : t.Sp w lo hi
  nodup : t.blocks.Nodup

theorem T.Sh.inn {w : World} {lo hi : Nat} {t : T} (h : t.Sh w lo hi) : t.In w lo hi := T.Sp.inn t h.sp
theorem T.Sh.fr {S : Nat → Prop} {w w' : World} {lo hi : Nat} {t : T} (h : t.Sh w lo hi) (hf : Fr S w w') (hs : ∀ b ∈ t.blocks, ¬ S b) : t.Sh w' lo hi := ⟨T.Sp.fr hf t hs h.sp, h.nodup⟩
theorem T.Sh.fr' {S : Nat → Prop} {w w' : World} {lo hi : Nat} {t : T} (h : t.Sh w lo hi) (hf : Fr S w w') (hs : ∀ i, lo ≤ i → i < hi → ¬ S i) : t.Sh w' lo hi :=
  h.fr hf fun b hb => hs b (T.In.blocks t h.inn b hb).1 (T.In.blocks t h.inn b hb).2
theorem T.Sh.no {w w' : World} {lo hi : Nat} {t : T} (h : t.Sh w lo hi) (hf : Fr No w w') : t.Sh w' lo hi := h.fr hf fun _ _ h => h
theorem T.Sh.more {w : World} {lo hi lo' hi' : Nat} {t : T} (h : t.Sh w lo hi) (hl : lo' ≤ lo) (hh : hi ≤ hi') : t.Sh w lo' hi' := ⟨T.Sp.more hl hh t h.sp, h.nodup⟩

theorem T.sh_leaf {w : World} {lo hi : Nat} {k n : Int} {s : ByteArray} {r : Int} (h : Fit k n s 0 0 r) : (T.mk k n s none 0 [] r).Sh w lo hi :=
  ⟨T.sp_mk.2 ⟨h, fun _ => ⟨rfl, rfl⟩, fun h => absurd rfl h, by simp⟩, by rw [T.blocks_mk]; simp⟩

theorem row_list {cs : Array Value} {l : List T} (hs : cs.size = l.length * 5) (hr : RowIs cs 0 l) : cs.toList = rowCells l := by
  refine List.ext_getElem (by rw [Array.length_toList, rowCells_length, hs]) fun i h1 h2 => ?_
  rw [Array.length_toList] at h1
  have hi : i / 5 < l.length := by omega
  have hx : l[i / 5]? = some l[i / 5] := List.getElem?_eq_getElem hi
  have hc : i % 5 < l[i / 5].cells.length := by rw [T.cells_length]; omega
  have hu : l[i / 5].cells[i % 5]? = some l[i / 5].cells[i % 5] := List.getElem?_eq_getElem hc
  have e1 := hr (i / 5) _ hx (i % 5) _ hu
  have e2 := rowCells_get l (i / 5) (i % 5) _ _ hx hu
  have e3 : i / 5 * 5 + i % 5 = i := by omega
  rw [Nat.zero_add, e3] at e1
  rw [e3] at e2
  rw [List.getElem?_eq_getElem h2] at e2
  rw [Array.getElem?_eq_getElem h1] at e1
  rw [Array.getElem_toList]
  exact (Option.some.inj e1).trans (Option.some.inj e2).symm

/-- A row of so many values in a block known whole is its own. -/
theorem owns_blk {w : World} {g lo : Nat} {cs : Array Value} {l : List T} (h : Blk w g 27 cs) (hs : cs.size = l.length * 5) (hr : RowIs cs 0 l) (h0 : lo ≤ g) (hm : l.length ≤ maxLen) : w.ownsRow lo 27 5 (.slice (some ⟨g, 0, none⟩) l.length l.length) l.length (rowCells l) :=
  ⟨rowCells_length l, .inr ⟨g, l.length, cs, rfl, h0, h, Nat.le_refl _, hm, hs, by rw [row_list hs hr, List.take_of_length_le (by rw [rowCells_length]; omega)]⟩⟩

/-- A value of the same data in memory of its own. -/
def OwnP2 (v : V) (w : World) (e : Ending) (w' : World) : Prop :=
  ∃ t' : T, e = .returned t'.val ∧ t'.v = v ∧ t'.Sh w' w.heap.size w'.heap.size ∧ Fr No w w'

/-- Rows of one's own are no frozen ones. -/
theorem T.Sp.free {w : World} {lo hi : Nat} (t : T) : t.Sp w lo hi → ∀ b ∈ t.blocks, ∀ o, w.frozen? ⟨b, o, none⟩ = false := by
  induction t using T.ind with
  | h k n s A cap l r ih =>
    rw [T.sp_mk, T.blocks_mk]
    rintro ⟨h1, _, h3, h4⟩ b hb o
    rcases List.mem_append.1 hb with hb | hb
    · cases l with
      | nil => simp at hb
      | cons x l =>
        obtain ⟨ho, g, rfl, hg⟩ := h3 (by simp)
        simp at hb
        subst hb
        rcases ho.2 with ⟨h, _⟩ | ⟨g, cap, cur, h, _, hh, _⟩
        · cases h
        · simp at h
          obtain ⟨rfl, -⟩ := h
          exact Blk.frozen hh o
    · obtain ⟨bs, hbs, hb⟩ := List.mem_flatten.1 hb
      obtain ⟨x, hx, rfl⟩ := List.mem_map.1 hbs
      exact ih x hx (h4 x hx) b hb o

theorem T.Sh.ow {w : World} {lo hi : Nat} {t : T} (h : t.Sh w lo hi) : t.Ow w lo hi := ⟨h.inn, h.nodup, T.Sp.free t h.sp⟩

/-- Where the loop of 'own' stands. -/
structure OwnInv2 (w : World) (X Z : Array Value) (l : List T) (j : Nat) (l' : List T) (wr : World) : Prop where
  len : l'.length = j
  vs : l'.map T.v = (l.take j).map T.v
  fr : Fr No w wr
  b0 : Blk wr w.heap.size 27 X
  b1 : Blk wr (w.heap.size + 1) 27 Z
  row : ∃ cs, Blk wr (w.heap.size + 1 + 1) 27 cs ∧ cs.size = l.length * 5 ∧ RowIs cs 0 l'
  forest : Forest wr (w.heap.size + 3) wr.heap.size l'
  big : w.heap.size + 3 ≤ wr.heap.size
  sp : ∀ x ∈ l', x.Sp wr (w.heap.size + 3) wr.heap.size

set_option maxHeartbeats 4000000 in
theorem own2_any (t : T) : ∀ (w : World) (lo hi : Nat), t.In w lo hi → hi ≤ w.heap.size → Calls Try.prog 104 #[t.val] w (OwnP2 t.v w) := by
  induction t using T.ind with
  | h k n s A cap l r ih =>
    intro w lo hi ht hh
    rw [T.val_mk]
    have fit := (T.in_mk.1 ht).1
    have hlen := fit.len1
    obtain ⟨i0, hi0, hz0, hz1, hz2⟩ := info_parts value_info
    have hmk := fun W => run_make_rowN (P := Try.prog) 24 27 i0 _ Try.underlying24 hi0 hz0 .i64 .i64 l.length l.length (Nat.le_refl _) (by rw [hz2]; omega) (by omega) W
    rw [hz1] at hmk
    clear hi0 hz0 hz1 hz2
    by_cases hl : l.length = 0
    · have hl0 : ((l.length : Int) == 0) = true := by simp [hl]
      obtain rfl : l = [] := List.eq_nil_of_length_eq_zero hl
      clear hmk
      go_enter Try.func104, Try.ntmps104
      go_wp2
      refine bodyPost_ret (v := .agg #[.int .u8 k, .int .i64 n, .string s, .slice none 0 0, .int .i64 r]) (by simp [results, Try.results104, go_sem]) rfl ?_
      refine ⟨T.mk k n s none 0 [] r, rfl, by simp [T.v_mk], T.sh_leaf ⟨fit.k0, fit.k1, fit.n0, fit.n1, fit.s1, by simp, Nat.le_refl _, fit.r0, fit.r1⟩, ?_⟩
      exact ((Fr.refl No w).alloc _).alloc _
    · have hl0 : ((l.length : Int) == 0) = false := by simp; intro h; subst h; simp at hl
      have hl1 : (0 : Int) < (l.length : Int) := by omega
      go_enter Try.func104, Try.ntmps104
      go_wp2_with fail
      go_loopw [19] (fun i wr => ∃ (j : Nat) (l' : List T), j ≤ l.length ∧ i = .int .i64 j ∧
          OwnInv2 w #[.int .u8 k, .int .i64 n, .string s, .slice A l.length cap, .int .i64 r] #[.int .u8 0, .int .i64 0, .string ⟨#[]⟩, .slice none 0 0, .int .i64 0] l j l' wr)
        (fun i _ => l.length - (intOf i).toNat)
      case atStart =>
        refine ⟨0, [], Nat.zero_le _, rfl, rfl, by simp, (((Fr.refl No w).alloc _).alloc _).alloc _, ((Blk.new' w 27 _ rfl).alloc _).alloc _, (Blk.new' (w.alloc _) 27 _ (by simp)).alloc _,
          ⟨_, Blk.new' ((w.alloc _).alloc _) 27 _ (by simp), size_madeCells _ _, RowIs.nil _ _⟩, Forest.nil _ _ _, by simp, by simp⟩
      case round =>
        obtain ⟨j, l', hj, rfl, inv⟩ := hrel
        have fr := inv.fr
        have big := inv.big
        by_cases hlt : j < l.length
        · obtain ⟨b, o, k1, n1, s1, A1, cap1, l1, r1, rfl, hb0, hb1, hx, hin, e0, e1, e2, e3, e4⟩ := T.elem (ht.no fr hh) hlt
          have IH := ih l[j] (List.getElem_mem hlt)
          rw [hx] at IH
          have HX := hide hx
          have hle := Nat.le_of_lt hlt
          have HI := hide inv
          clear hx ih inv hmk
          go_wp2_with fail
          refine (IH _ lo hi (hin.no ((Fr.refl No wr).alloc _) (by omega)) (by simp; omega)).mono ?_
          rintro e w2 ⟨t', rfl, hv, sh, fr2⟩
          have HV := hide hv
          clear hv
          simp only [World.size_alloc] at sh
          have ow := sh.ow
          cases t' with
          | mk k2 n2 s2 A2 cap2 l2 r2 =>
            rw [T.val_mk]
            obtain ⟨cs, hb, hcs, hrow⟩ := HI.out.row
            have blk2 := (hb.alloc (.cells #[.int .u8 k1, .int .i64 n1, .string s1, .slice A1 l1.length cap1, .int .i64 r1] 27)).fr fr2 (fun h => h)
            obtain ⟨y0, x0⟩ : ∃ y, w2.cell? ⟨w.heap.size + 1 + 1, j * 5, none⟩ = some y := ⟨cs[j * 5]'(by omega), by rw [blk2.cell]; exact Array.getElem?_eq_getElem _⟩
            obtain ⟨y1, x1⟩ : ∃ y, w2.cell? ⟨w.heap.size + 1 + 1, j * 5 + 1, none⟩ = some y := ⟨cs[j * 5 + 1]'(by omega), by rw [blk2.cell]; exact Array.getElem?_eq_getElem _⟩
            obtain ⟨y2, x2⟩ : ∃ y, w2.cell? ⟨w.heap.size + 1 + 1, j * 5 + 2, none⟩ = some y := ⟨cs[j * 5 + 2]'(by omega), by rw [blk2.cell]; exact Array.getElem?_eq_getElem _⟩
            obtain ⟨y3, x3⟩ : ∃ y, w2.cell? ⟨w.heap.size + 1 + 1, j * 5 + 3, none⟩ = some y := ⟨cs[j * 5 + 3]'(by omega), by rw [blk2.cell]; exact Array.getElem?_eq_getElem _⟩
            obtain ⟨y4, x4⟩ : ∃ y, w2.cell? ⟨w.heap.size + 1 + 1, j * 5 + 4, none⟩ = some y := ⟨cs[j * 5 + 4]'(by omega), by rw [blk2.cell]; exact Array.getElem?_eq_getElem _⟩
            have xf := blk2.frozen
            have HB := hide blk2
            have HR := hide hrow
            have HC := hide hcs
            have HO := hide ow
            have HSH := hide sh
            clear sh
            clear blk2 hb hrow hcs ow
            go_wp2
            go_roundw
            case rel =>
              have inv := HI.out
              have hcs := HC.out
              have hsz2 := fr2.size
              simp only [World.size_alloc] at hsz2
              have hfar : ∀ {g : Nat} {X : Array Value}, g < w.heap.size + 2 → Blk wr g 27 X → Blk (((((w2.setCell ⟨w.heap.size + 1 + 1, j * 5, none⟩ (.int .u8 k2)).setCell ⟨w.heap.size + 1 + 1, j * 5 + 1, none⟩ (.int .i64 n2)).setCell ⟨w.heap.size + 1 + 1, j * 5 + 2, none⟩ (.string s2)).setCell
                  ⟨w.heap.size + 1 + 1, j * 5 + 3, none⟩ (.slice A2 l2.length cap2)).setCell ⟨w.heap.size + 1 + 1, j * 5 + 4, none⟩ (.int .i64 r2)) g 27 X := fun {g X} hg hX =>
                (((((((hX.alloc _).fr fr2 (fun h => h)).far (by simp; omega) _).far (by simp; omega) _).far (by simp; omega) _).far (by simp; omega) _).far (by simp; omega) _)
              have hst : Fr (· = w.heap.size + 1 + 1) w2 (((((w2.setCell ⟨w.heap.size + 1 + 1, j * 5, none⟩ (.int .u8 k2)).setCell ⟨w.heap.size + 1 + 1, j * 5 + 1, none⟩ (.int .i64 n2)).setCell ⟨w.heap.size + 1 + 1, j * 5 + 2, none⟩ (.string s2)).setCell
                  ⟨w.heap.size + 1 + 1, j * 5 + 3, none⟩ (.slice A2 l2.length cap2)).setCell ⟨w.heap.size + 1 + 1, j * 5 + 4, none⟩ (.int .i64 r2)) := (Fr.refl (fun i => i = w.heap.size + 1 + 1) w2).five (fun _ => rfl) _ _ _ _ _ _
              refine ⟨j + 1, l' ++ [T.mk k2 n2 s2 A2 cap2 l2 r2], hlt, by go_num, by simp [inv.len], ?_, ?_, hfar (by omega) inv.b0, hfar (by omega) inv.b1, ⟨_, HB.out.five _ _ _ _ _ _, ?_, ?_⟩, ?_, ?_, ?_⟩
              · rw [List.map_append, inv.vs, List.take_succ_eq_append_getElem hlt, List.map_append, List.map_singleton, List.map_singleton, HV.out, HX.out]
              · exact (((fr.alloc _).thenNo fr2).five (by omega) _ _ _ _ _ _)
              · simpa using hcs
              · have := HR.out.five (k := k2) (n := n2) (s := s2) (A := A2) (cap := cap2) (l1 := l2) (r := r2) (by rw [inv.len, hcs]; omega)
                simpa [inv.len] using this
              · have h1 : Forest w2 (w.heap.size + 3) (wr.heap.size + 1) l' := ((inv.forest.no ((Fr.refl No wr).alloc _) (Nat.le_refl _)).no fr2 (by simp)).more (Nat.le_refl _) (by omega)
                have h2 := h1.snoc HO.out (by omega) hsz2
                simpa using h2.fr hst (Nat.le_refl _) (fun i hi _ e => by omega)
              · simp; omega
              · intro x hx
                have hbl : ∀ (y : T) (lo hi : Nat), y.In w2 lo hi → w.heap.size + 3 ≤ lo → ∀ b ∈ y.blocks, ¬ b = w.heap.size + 1 + 1 := fun y lo hi hy hl b hb e => by
                  have := T.In.blocks y hy b hb; omega
                rcases List.mem_append.1 hx with hx | hx
                · have h1 := inv.sp x hx
                  have h2 := T.Sp.fr fr2 x (fun _ _ h => h) (T.Sp.fr ((Fr.refl No wr).alloc (.cells #[.int .u8 k1, .int .i64 n1, .string s1, .slice A1 l1.length cap1, .int .i64 r1] 27)) x (fun _ _ h => h) h1)
                  have h3 := T.Sp.fr hst x (hbl x _ _ (T.Sp.inn x h2) (Nat.le_refl _)) h2
                  exact T.Sp.more (Nat.le_refl _) (by simp; omega) x h3
                · simp at hx; subst hx
                  have h3 := T.Sp.fr hst _ (hbl _ _ _ HSH.out.inn (by omega)) HSH.out.sp
                  exact T.Sp.more (by omega) (by simp) _ h3
            case measure => simp [intOf]; omega
        · obtain rfl : l.length = j := by omega
          have c0 : wr.cell? ⟨w.heap.size, 0, none⟩ = some (.int .u8 k) := inv.b0.cell 0
          have c1 : wr.cell? ⟨w.heap.size, 1, none⟩ = some (.int .i64 n) := inv.b0.cell 1
          have c2 : wr.cell? ⟨w.heap.size, 2, none⟩ = some (.string s) := inv.b0.cell 2
          have c3 : wr.cell? ⟨w.heap.size, 3, none⟩ = some (.slice A l.length cap) := inv.b0.cell 3
          have c4 : wr.cell? ⟨w.heap.size, 4, none⟩ = some (.int .i64 r) := inv.b0.cell 4
          have cf := inv.b0.frozen 3
          have d0 : wr.cell? ⟨w.heap.size + 1, 0, none⟩ = some (.int .u8 0) := inv.b1.cell 0
          have d1 : wr.cell? ⟨w.heap.size + 1, 1, none⟩ = some (.int .i64 0) := inv.b1.cell 1
          have d2 : wr.cell? ⟨w.heap.size + 1, 2, none⟩ = some (.string ⟨#[]⟩) := inv.b1.cell 2
          have d3 : wr.cell? ⟨w.heap.size + 1, 3, none⟩ = some (.slice none 0 0) := inv.b1.cell 3
          have d4 : wr.cell? ⟨w.heap.size + 1, 4, none⟩ = some (.int .i64 0) := inv.b1.cell 4
          have df := inv.b1.frozen
          have HI := hide inv
          clear inv hmk ih
          go_wp2
          have inv := HI.out
          refine bodyPost_ret (v := .agg #[.int .u8 k, .int .i64 n, .string s, .slice (some ⟨w.heap.size + 1 + 1, 0, none⟩) l.length l.length, .int .i64 r]) (by simp [results, Try.results104, go_sem, *]) rfl ?_
          generalize hW : World.setCell _ _ _ = W
          have hfr : Fr (fun i => i = w.heap.size ∨ i = w.heap.size + 1) wr W := by
            rw [← hW]
            repeat (first | with_reducible exact Fr.refl _ wr | with_reducible refine Fr.set ?_ (by simp) _)
          obtain ⟨cs, hb, hcs, hrow⟩ := inv.row
          have hl' := inv.len
          have hb' : Blk W (w.heap.size + 1 + 1) 27 cs := hb.fr hfr (by omega)
          have hF : Forest W (w.heap.size + 3) wr.heap.size l' := inv.forest.fr hfr (Nat.le_refl _) (fun i h0 h1 h2 => by omega)
          have hsz := hfr.size
          refine ⟨T.mk k n s (some ⟨w.heap.size + 1 + 1, 0, none⟩) l.length l' r, by rw [T.val_mk, hl'], ?_, ?_, inv.fr.trans' hfr (fun i hi h => by omega)⟩
          · rw [T.v_mk, T.v_mk, inv.vs, List.take_of_length_le (Nat.le_refl _)]
          · have how : (T.mk k n s (some ⟨w.heap.size + 1 + 1, 0, none⟩) l.length l' r).Ow W w.heap.size W.heap.size := by
             refine T.ow_mk ⟨fit.k0, fit.k1, fit.n0, fit.n1, fit.s1, by omega, by omega, fit.r0, fit.r1⟩ (hF.more (by omega) hsz) hb' hrow (by omega) (by omega) (fun hm => ?_)
             have := hF.blocks _ hm
             omega
            refine ⟨T.sp_mk.2 ⟨(T.in_mk.1 how.inn).1, fun h => by subst h; simp at hl'; omega, fun _ => ⟨?_, _, rfl, by omega⟩, fun x hx => ?_⟩, how.nodup⟩
            · have := owns_blk (lo := w.heap.size) hb' (by rw [hcs, hl']) hrow (by omega) (by rw [hl']; unfold maxLen; omega)
              rwa [hl'] at this ⊢
            · have h1 := inv.sp x hx
              have h2 := T.Sp.fr hfr x (fun b hb h => by
                have := T.In.blocks x (T.Sp.inn x h1) b hb
                have h' : b = w.heap.size ∨ b = w.heap.size + 1 := h
                omega) h1
              exact T.Sp.more (by omega) hsz x h2

end Go.Proofs.Ytihjmipmjogpoaa

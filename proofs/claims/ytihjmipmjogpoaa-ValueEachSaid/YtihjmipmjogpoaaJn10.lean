/- Texts joined: A2, B6, B7, B8, P5. -/
import Derived.Test.YtihjmipmjogpoaaJn9
import Derived.Deep.RegionHeld3
import Derived.WalkLawsBesides
/- Chapter 2: the law's own small: is a value small enough to be copied whole? -/
namespace Go.Proofs.Ytihjmipmjogpoaa
open Go.RowKit

/-- What small answers. -/
def smallOf (v : V) (room deep : Int) : Int := if (v.size : Int) ≤ room ∧ (v.ht : Int) ≤ deep then v.size else -1

theorem smallOf_no {v : V} {room deep : Int} (h : ¬ ((v.size : Int) ≤ room ∧ (v.ht : Int) ≤ deep)) : smallOf v room deep = -1 := if_neg h
theorem smallOf_yes {v : V} {room deep : Int} (h : (v.size : Int) ≤ room ∧ (v.ht : Int) ≤ deep) : smallOf v room deep = v.size := if_pos h

theorem sum_len (l : List V) : l.length ≤ (l.map V.size).sum := by
  induction l with
  | nil => simp
  | cons x l ih => have := x.size_pos; simp; omega

/-- A part that does not fit. -/
theorem small_stop {k n : Int} {s : ByteArray} {l : List V} {r room deep : Int} {j : Nat} (hj : j < l.length) (h : ¬ ((l[j].size : Int) ≤ room - (1 + sizeTo l j : Nat) ∧ (l[j].ht : Int) ≤ deep - 1)) : smallOf (.mk k n s l r) room deep = -1 := by
  refine smallOf_no fun ⟨h1, h2⟩ => h ⟨?_, ?_⟩
  · rw [V.size_mk] at h1
    have := sizeTo_succ l j hj
    have := sizeTo_le l (j + 1)
    omega
  · have := ht_child (k := k) (n := n) (s := s) (r := r) (List.getElem_mem hj)
    omega

theorem small_done {k n : Int} {s : ByteArray} {l : List V} {r room deep : Int} (h1 : ((1 + sizeTo l l.length : Nat) : Int) ≤ room) (h0 : 0 ≤ deep) (h2 : ∀ x ∈ l, (x.ht : Int) ≤ deep - 1) : smallOf (.mk k n s l r) room deep = ((1 + sizeTo l l.length : Nat) : Int) := by
  have e : (V.mk k n s l r).size = 1 + sizeTo l l.length := by rw [V.size_mk, sizeTo_all]
  rw [smallOf_yes ⟨by rw [e]; exact h1, ?_⟩, e]
  have : (V.mk k n s l r).ht ≤ deep.toNat := by
    rw [V.ht_mk]
    refine top1_le fun y hy => ?_
    obtain ⟨x, hx, rfl⟩ := List.mem_map.1 hy
    have := h2 x hx
    omega
  omega

set_option maxRecDepth 100000 in
set_option maxHeartbeats 4000000 in
theorem small_any (t : T) : ∀ (room deep : Int) (w : World) (lo hi : Nat), t.In w lo hi → hi ≤ w.heap.size → -10000 ≤ room → room ≤ 10000 → -1 ≤ deep → deep ≤ 100 →
    Calls Try.prog 39 #[t.val, .int .i64 room, .int .i64 deep] w fun e w' => e = .returned (.int .i64 (smallOf t.v room deep)) ∧ Fr No w w' := by
  induction t using T.ind with
  | h k n s A cap l r ih =>
    intro room deep w lo hi ht hh hr0 hr1 hd0 hd1
    rw [T.val_mk]
    have hlen := (T.in_mk.1 ht).1.len1
    have fr1 := (Fr.refl No w).alloc (.cells #[.int .u8 k, .int .i64 n, .string s, .slice A l.length cap, .int .i64 r] 27)
    have hK := Blk.new' w 27 #[.int .u8 k, .int .i64 n, .string s, .slice A l.length cap, .int .i64 r] rfl
    have hsz : (T.mk k n s A cap l r).v.size = 1 + (((l.map T.v).map V.size).sum) := by rw [T.v_mk, V.size_mk]
    have hls := sum_len (l.map T.v)
    rw [List.length_map] at hls
    by_cases hb : deep < 0 ∨ room < 1 ∨ room ≤ (l.length : Int)
    · have e : smallOf (T.mk k n s A cap l r).v room deep = -1 := smallOf_no fun ⟨h1, h2⟩ => by omega
      rw [e]
      clear ih hsz
      by_cases hb1 : deep < 0
      · go_enter Try.func39, Try.ntmps39
        go_wp2
        go_ret
        exact ⟨rfl, fr1⟩
      have hb1' : decide (deep < 0) = false := by simpa using hb1
      by_cases hb2 : room < 1
      · go_enter Try.func39, Try.ntmps39
        go_wp2
        go_ret
        exact ⟨rfl, fr1⟩
      have hb2' : decide (room < 1) = false := by simpa using hb2
      have hb3 : room ≤ (l.length : Int) := by omega
      go_enter Try.func39, Try.ntmps39
      go_wp2
      go_ret
      exact ⟨rfl, fr1⟩
    · have hb1 : decide (deep < 0) = false := by simp; omega
      have hb2 : decide (room < 1) = false := by simp; omega
      have hb3 : ¬ room ≤ (l.length : Int) := by omega
      have hd2 : 0 ≤ deep := by omega
      have hr2 : 1 ≤ room := by omega
      have HSZ := hide hsz
      clear hb hsz
      obtain ⟨c0, c1, c2, c3, c4, cf⟩ := hK.cells5
      have q0 := hK.lt
      go_enter Try.func39, Try.ntmps39
      go_wp2_with fail
      go_loopw [7, 8, 9] (fun v i _ wr => ∃ j m : Nat, j ≤ l.length ∧ i = .int .i64 (j : Int) ∧ v = .int .i64 (m : Int) ∧ m = 1 + sizeTo (l.map T.v) j ∧ (m : Int) ≤ room ∧ (∀ x ∈ (l.map T.v).take j, (x.ht : Int) ≤ deep - 1) ∧ Fr No (w.alloc (.cells #[.int .u8 k, .int .i64 n, .string s, .slice A l.length cap, .int .i64 r] 27)) wr) (fun _ i _ _ => l.length - (intOf i).toNat)
      case atStart => exact ⟨0, 1, Nat.zero_le _, rfl, rfl, by simp [sizeTo_zero], by omega, by simp, Fr.refl _ _⟩
      case round =>
        obtain ⟨j, m, hj, rfl, rfl, hm, hmr, hall, fr⟩ := hrel
        obtain ⟨d0, d1, d2, d3, d4, df⟩ := (hK.fr fr fun h => h).cells5
        have frw := fr1.trans fr
        have HM := hide hm
        have HA := hide hall
        clear hm hall c0 c1 c2 c3 c4 cf
        by_cases hlt : j < l.length
        · obtain ⟨b, o, k1, n1, s1, A1, cap1, l1, r1, rfl, hb0, hb1', hx, hin, e0, e1, e2, e3, e4⟩ := T.elem (ht.no frw hh) hlt
          have hIH := fun room deep => ih l[j] (List.getElem_mem hlt) room deep wr lo hi (by rw [hx]; exact hin) (by have := frw.size; omega)
          have hj' : j < (l.map T.v).length := by simpa using hlt
          have hxv : (l.map T.v)[j] = (T.mk k1 n1 s1 A1 cap1 l1 r1).v := by rw [List.getElem_map, hx]
          have hto := sizeTo_succ (l.map T.v) j hj'
          have hst := fun h => small_stop (k := k) (n := n) (s := s) (r := r) (room := room) (deep := deep) hj' h
          rw [hxv] at hto hst
          rw [hx, T.val_mk] at hIH
          generalize (T.mk k1 n1 s1 A1 cap1 l1 r1).v = u at *
          have g0 : b < wr.heap.size := by have := frw.size; omega
          have hle : m ≤ 10000 := by omega
          have HF := hide fr
          have HW := hide frw
          have hup := u.size_pos
          by_cases hfit : (u.size : Int) ≤ room - (m : Int) ∧ (u.ht : Int) ≤ deep - 1
          · have hc := hIH (room - (m : Int)) (deep - 1) (by omega) (by omega) (by omega) (by omega)
            rw [smallOf_yes hfit] at hc
            have HC := hide hc
            have HT := hide hto
            have HX := hide hxv
            obtain ⟨hf1, hf2⟩ := hfit
            have hnn : ¬ ((u.size : Int) < 0) := by omega
            clear hIH hst hto hxv hx ih fr frw fr1 hc hin hls
            generalize hq : u.size = q at *
            have HQ := hide hq
            clear hq
            go_wp2_with fail
            refine HC.out.mono ?_
            rintro e w2 ⟨rfl, fr2⟩
            have HF2 := hide fr2
            clear fr2
            go_wp2
            go_roundw
            case rel =>
              refine ⟨j + 1, m + q, hlt, by go_num, by go_num, ?_, by omega, ?_, HF.out.trans HF2.out⟩
              · rw [HT.out, HM.out]; omega
              · intro x hx2
                rw [List.take_succ_eq_append_getElem hj', List.mem_append, HX.out] at hx2
                rcases hx2 with h | h
                · exact HA.out x h
                · simp at h; subst h; exact hf2
            case measure => simp [intOf]; omega
          · have hc := hIH (room - (m : Int)) (deep - 1) (by omega) (by omega) (by omega) (by omega)
            rw [smallOf_no hfit] at hc
            have hno : smallOf (T.mk k n s (some ⟨b, o, none⟩) cap l r).v room deep = -1 := by rw [T.v_mk]; exact hst (by rw [← HM.out]; exact hfit)
            have HC := hide hc
            have HNO := hide hno
            clear hIH hst hto hxv hx ih fr frw fr1 hc hin hls hfit hno
            go_wp2_with fail
            refine HC.out.mono ?_
            rintro e w2 ⟨rfl, fr2⟩
            have HF2 := hide (HW.out.trans fr2)
            clear fr2
            go_wp2
            go_ret
            exact ⟨by rw [HNO.out]; rfl, HF2.out⟩
        · obtain rfl : l.length = j := by omega
          have hdone : smallOf (T.mk k n s A cap l r).v room deep = (m : Int) := by
            rw [T.v_mk, HM.out]
            have h1 : (l.map T.v).length = l.length := by simp
            have := small_done (k := k) (n := n) (s := s) (l := l.map T.v) (r := r) (room := room) (deep := deep) (by rw [h1, ← HM.out]; exact hmr) hd2 (fun x hx => HA.out x (by rw [List.take_of_length_le (by simp)]; exact hx))
            rw [this, h1]
          have HD := hide hdone
          have HW := hide frw
          clear hdone ih fr frw fr1 hls
          go_wp2
          go_ret
          exact ⟨by rw [HD.out]; rfl, HW.out⟩

end Go.Proofs.Ytihjmipmjogpoaa

/- Chapter 2: the document's answer: look, Parts, May. -/
namespace Go.Proofs.Ytihjmipmjogpoaa
open Go.RowKit

def lookOf (v : V) (p q : Nat) : Int := if v.fits p q = true then (v.size : Int) else -1

theorem look_no {v : V} {p q : Nat} (h : v.fits p q = false) : lookOf v p q = -1 := by simp [lookOf, h]
theorem look_leaf {k n : Int} {s : ByteArray} {l : List V} {r : Int} {p q : Nat} (hk : k ≠ 3) (hp : 1 ≤ p) (h : fok k n s l.length r = true) : lookOf (.mk k n s l r) p q = 1 := by
  obtain ⟨h1, h2⟩ := fits_leaf (k := k) (n := n) (s := s) (l := l) (r := r) (p := p) (q := q) hk hp
  simp [lookOf, h1, h, h2 h]
theorem look_bad {k n : Int} {s : ByteArray} {l : List V} {r : Int} {p q : Nat} (hk : k ≠ 3) (hp : 1 ≤ p) (h : fok k n s l.length r = false) : lookOf (.mk k n s l r) p q = -1 :=
  look_no ((fits_leaf hk hp).1.trans h)
theorem look_bad3 {n : Int} {s : ByteArray} {l : List V} {r : Int} {p q : Nat} (h : fok 3 n s l.length r = false) : lookOf (.mk 3 n s l r) p q = -1 :=
  look_no (by simp [V.fits, V.ok_mk, h])
theorem look_off {k n : Int} {s : ByteArray} {l : List V} {r : Int} {p q : Nat} (h : 4 < k) : lookOf (.mk k n s l r) p q = -1 :=
  look_no (by simp [V.fits, V.ok_mk, fok, show ¬ k = 0 by omega, show ¬ k = 1 by omega, show ¬ k = 2 by omega, show ¬ k = 3 by omega, show ¬ k = 4 by omega])

theorem str_ne {s : ByteArray} (h : ¬ s = ⟨#[]⟩) : s.toList.isEmpty = false := by
  cases hl : s.toList with
  | nil => exact absurd (toList_nil hl) h
  | cons x l => rfl

theorem str_ne2 {s : ByteArray} (h : ¬ s = ⟨#[]⟩) : decide (s.toList = []) = false := by
  have := str_ne h
  cases hl : s.toList with
  | nil => rw [hl] at this; cases this
  | cons x l => rfl

set_option maxRecDepth 100000 in
set_option maxHeartbeats 8000000 in
theorem look_any (t : T) : ∀ (p q : Nat) (w : World) (lo hi : Nat), t.In w lo hi → hi ≤ w.heap.size → p ≤ 512 → q ≤ 16 →
    Calls Try.prog 122 #[t.val, .int .i64 p, .int .i64 q] w fun e w' => e = .returned (.int .i64 (lookOf t.v p q)) ∧ Fr No w w' := by
  induction t using T.ind with
  | h k n s A cap l r ih =>
    intro p q w lo hi ht hh hp hq
    rw [T.val_mk]
    have fit := (T.in_mk.1 ht).1
    have hlen := fit.len1
    have hss := fit.s1
    have hk0 := fit.k0
    have fr1 := (Fr.refl No w).alloc (.cells #[.int .u8 k, .int .i64 n, .string s, .slice A l.length cap, .int .i64 r] 27)
    have hK := Blk.new' w 27 #[.int .u8 k, .int .i64 n, .string s, .slice A l.length cap, .int .i64 r] rfl
    rw [T.v_mk]
    have hll : (l.map T.v).length = l.length := by simp
    by_cases hp1 : (p : Int) < 1
    · have e : lookOf (.mk k n s (l.map T.v) r) p q = -1 := look_no (by obtain rfl : p = 0 := by omega
                                                                        exact fits_zero _ _)
      rw [e]
      clear ih hll
      go_enter Try.func122, Try.ntmps122
      go_wp2
      go_ret
      exact ⟨rfl, fr1⟩
    have hpp : 1 ≤ p := by omega
    have HLL := hide hll
    clear hll
    have tl := toL0
    by_cases hk4 : 4 < k
    · rw [look_off (n := n) (s := s) (l := l.map T.v) (r := r) (p := p) (q := q) hk4]
      have a1 : (k != 1) = true := by simp; omega
      have a2 : (k != 2) = true := by simp; omega
      have a3 : (k != 3) = true := by simp; omega
      have a4 : (k != 4) = true := by simp; omega
      clear ih tl
      by_cases hc : n = 0
      case neg =>
        have z : (n != 0) = true := by simpa using hc
        go_enter Try.func122, Try.ntmps122
        go_wp2
        go_ret
        exact ⟨rfl, fr1⟩
      subst hc
      by_cases hc : s = ⟨#[]⟩
      case neg =>
        have z := str_ne hc
        have z2 := str_ne2 hc
        go_enter Try.func122, Try.ntmps122
        go_wp2
        go_ret
        exact ⟨rfl, fr1⟩
      subst hc; have tl := toL0
      by_cases hc : l.length = 0
      case neg =>
        have z : (0 : Int) < (l.length : Int) := by omega
        go_enter Try.func122, Try.ntmps122
        go_wp2
        go_ret
        exact ⟨rfl, fr1⟩
      obtain rfl : l = [] := List.eq_nil_of_length_eq_zero hc; clear hc
      by_cases hc : r = 0
      case neg =>
        have z : (r != 0) = true := by simpa using hc
        go_enter Try.func122, Try.ntmps122
        go_wp2
        go_ret
        exact ⟨rfl, fr1⟩
      subst hc
      go_enter Try.func122, Try.ntmps122
      go_wp2
      go_ret
      exact ⟨rfl, fr1⟩
    have hkk : k = 0 ∨ k = 1 ∨ k = 2 ∨ k = 3 ∨ k = 4 := by omega
    clear hk4 hk0
    rcases hkk with rfl | rfl | rfl | rfl | rfl
    · -- kind 0
      by_cases hc : n = 0
      case neg =>
        have hf : fok 0 n s (l.map T.v).length r = false := by
          simp [fok, hc]
        have z : (n != 0) = true := by simpa using hc
        rw [look_bad (k := 0) (by decide) hpp (p := p) (q := q) hf]
        clear ih hf
        go_enter Try.func122, Try.ntmps122
        go_wp2
        go_ret
        exact ⟨rfl, fr1⟩
      subst hc
      by_cases hc : s = ⟨#[]⟩
      case neg =>
        have hf : fok 0 0 s (l.map T.v).length r = false := by
          simp [fok, str_ne2 hc]; try exact fun h => absurd (toList_nil h) hc
        have z := str_ne hc
        have z2 := str_ne2 hc
        rw [look_bad (k := 0) (by decide) hpp (p := p) (q := q) hf]
        clear ih hf
        go_enter Try.func122, Try.ntmps122
        go_wp2
        go_ret
        exact ⟨rfl, fr1⟩
      subst hc
      by_cases hc : l.length = 0
      case neg =>
        have hf : fok 0 0 ⟨#[]⟩ (l.map T.v).length r = false := by
          rw [HLL.out]; simp [fok, hc]
        have z : (0 : Int) < (l.length : Int) := by omega
        rw [look_bad (k := 0) (by decide) hpp (p := p) (q := q) hf]
        clear ih hf
        go_enter Try.func122, Try.ntmps122
        go_wp2
        go_ret
        exact ⟨rfl, fr1⟩
      obtain rfl : l = [] := List.eq_nil_of_length_eq_zero hc; clear hc
      by_cases hc : r = 0
      case neg =>
        have hf : fok 0 0 ⟨#[]⟩ 0 r = false := by
          simp [fok, hc]
        have z : (r != 0) = true := by simpa using hc
        rw [look_bad (k := 0) (by decide) hpp (p := p) (q := q) hf]
        clear ih hf
        go_enter Try.func122, Try.ntmps122
        go_wp2
        go_ret
        exact ⟨rfl, fr1⟩
      subst hc
      rw [show ([] : List T).map T.v = [] from rfl]
      rw [(look_leaf (k := 0) (n := 0) (s := ⟨#[]⟩) (l := []) (r := 0) (p := p) (q := q) (by decide) hpp (by simp [fok, toL0]; try omega))]
      clear ih
      go_enter Try.func122, Try.ntmps122
      go_wp2
      go_ret
      exact ⟨rfl, fr1⟩
    · -- kind 1
      by_cases hc : s = ⟨#[]⟩
      case neg =>
        have hf : fok 1 n s (l.map T.v).length r = false := by
          simp [fok, str_ne2 hc]; try exact fun h => absurd (toList_nil h) hc
        have z := str_ne hc
        have z2 := str_ne2 hc
        rw [look_bad (k := 1) (by decide) hpp (p := p) (q := q) hf]
        clear ih hf
        go_enter Try.func122, Try.ntmps122
        go_wp2
        go_ret
        exact ⟨rfl, fr1⟩
      subst hc
      by_cases hc : l.length = 0
      case neg =>
        have hf : fok 1 n ⟨#[]⟩ (l.map T.v).length r = false := by
          rw [HLL.out]; simp [fok, hc]
        have z : (0 : Int) < (l.length : Int) := by omega
        rw [look_bad (k := 1) (by decide) hpp (p := p) (q := q) hf]
        clear ih hf
        go_enter Try.func122, Try.ntmps122
        go_wp2
        go_ret
        exact ⟨rfl, fr1⟩
      obtain rfl : l = [] := List.eq_nil_of_length_eq_zero hc; clear hc
      by_cases hc : r = 0
      case neg =>
        have hf : fok 1 n ⟨#[]⟩ 0 r = false := by
          simp [fok, hc]
        have z : (r != 0) = true := by simpa using hc
        rw [look_bad (k := 1) (by decide) hpp (p := p) (q := q) hf]
        clear ih hf
        go_enter Try.func122, Try.ntmps122
        go_wp2
        go_ret
        exact ⟨rfl, fr1⟩
      subst hc
      rw [show ([] : List T).map T.v = [] from rfl]
      rw [(look_leaf (k := 1) (n := n) (s := ⟨#[]⟩) (l := []) (r := 0) (p := p) (q := q) (by decide) hpp (by simp [fok, toL0]; try omega))]
      clear ih
      go_enter Try.func122, Try.ntmps122
      go_wp2
      go_ret
      exact ⟨rfl, fr1⟩
    · -- kind 2
      by_cases hc : n = 0
      case neg =>
        have hf : fok 2 n s (l.map T.v).length r = false := by
          simp [fok, hc]
        have z : (n != 0) = true := by simpa using hc
        rw [look_bad (k := 2) (by decide) hpp (p := p) (q := q) hf]
        clear ih hf
        go_enter Try.func122, Try.ntmps122
        go_wp2
        go_ret
        exact ⟨rfl, fr1⟩
      subst hc
      by_cases hc : l.length = 0
      case neg =>
        have hf : fok 2 0 s (l.map T.v).length r = false := by
          rw [HLL.out]; simp [fok, hc]
        have z : (0 : Int) < (l.length : Int) := by omega
        rw [look_bad (k := 2) (by decide) hpp (p := p) (q := q) hf]
        clear ih hf
        go_enter Try.func122, Try.ntmps122
        go_wp2
        go_ret
        exact ⟨rfl, fr1⟩
      obtain rfl : l = [] := List.eq_nil_of_length_eq_zero hc; clear hc
      by_cases hc : r = 0
      case neg =>
        have hf : fok 2 0 s 0 r = false := by
          simp [fok, hc]
        have z : (r != 0) = true := by simpa using hc
        rw [look_bad (k := 2) (by decide) hpp (p := p) (q := q) hf]
        clear ih hf
        go_enter Try.func122, Try.ntmps122
        go_wp2
        go_ret
        exact ⟨rfl, fr1⟩
      subst hc
      by_cases hc : s.size ≤ 256
      case neg =>
        have hf : fok 2 0 s 0 0 = false := by
          simp [fok]; omega
        have z : (256 : Int) < (s.size : Int) := by omega
        rw [look_bad (k := 2) (by decide) hpp (p := p) (q := q) hf]
        clear ih hf
        go_enter Try.func122, Try.ntmps122
        go_wp2
        go_ret
        exact ⟨rfl, fr1⟩
      have z : ¬ (256 : Int) < (s.size : Int) := by omega
      rw [show ([] : List T).map T.v = [] from rfl]
      rw [(look_leaf (k := 2) (n := 0) (s := s) (l := []) (r := 0) (p := p) (q := q) (by decide) hpp (by simp [fok, toL0]; try omega))]
      clear ih
      go_enter Try.func122, Try.ntmps122
      go_wp2
      go_ret
      exact ⟨rfl, fr1⟩
    · -- kind 3
      by_cases hc : n = 0
      case neg =>
        have hf : fok 3 n s (l.map T.v).length r = false := by
          simp [fok, hc]
        have z : (n != 0) = true := by simpa using hc
        rw [look_bad3 (p := p) (q := q) hf]
        clear ih hf
        go_enter Try.func122, Try.ntmps122
        go_wp2
        go_ret
        exact ⟨rfl, fr1⟩
      subst hc
      by_cases hc : s = ⟨#[]⟩
      case neg =>
        have hf : fok 3 0 s (l.map T.v).length r = false := by
          simp [fok, str_ne2 hc]; try exact fun h => absurd (toList_nil h) hc
        have z := str_ne hc
        have z2 := str_ne2 hc
        rw [look_bad3 (p := p) (q := q) hf]
        clear ih hf
        go_enter Try.func122, Try.ntmps122
        go_wp2
        go_ret
        exact ⟨rfl, fr1⟩
      subst hc
      by_cases hc : r = 0
      case neg =>
        have hf : fok 3 0 ⟨#[]⟩ (l.map T.v).length r = false := by
          simp [fok, hc]
        have z : (r != 0) = true := by simpa using hc
        rw [look_bad3 (p := p) (q := q) hf]
        clear ih hf
        go_enter Try.func122, Try.ntmps122
        go_wp2
        go_ret
        exact ⟨rfl, fr1⟩
      subst hc
      by_cases hq1 : (q : Int) < 1
      · rw [look_no (fits_short (n := 0) (s := ⟨#[]⟩) (l := l.map T.v) (r := 0) (p := p) (q := q) (.inr (by omega)))]
        clear ih
        go_enter Try.func122, Try.ntmps122
        go_wp2
        go_ret
        exact ⟨rfl, fr1⟩
      have hq2 : decide ((q : Int) < 1) = false := by simpa using hq1
      have hq3 : 1 ≤ q := by omega
      by_cases hlp : (p : Int) ≤ (l.length : Int)
      · have hlp' : decide (p ≤ l.length) = true := by simp; omega
        rw [look_no (fits_short (n := 0) (s := ⟨#[]⟩) (l := l.map T.v) (r := 0) (p := p) (q := q) (.inl (by rw [HLL.out]; omega)))]
        clear ih
        go_enter Try.func122, Try.ntmps122
        go_wp2
        go_ret
        exact ⟨rfl, fr1⟩
      have hlp' : decide (p ≤ l.length) = false := by simp; omega
      obtain ⟨c0, c1, c2, c3, c4, cf⟩ := hK.cells5
      have q0 := hK.lt
      go_enter Try.func122, Try.ntmps122
      go_wp2_with fail
      go_loopw [7, 8, 9] (fun v i _ wr => ∃ j m : Nat, j ≤ l.length ∧ i = .int .i64 (j : Int) ∧ v = .int .i64 (m : Int) ∧ m = 1 + sizeTo (l.map T.v) j ∧ m ≤ p ∧ fitsTo (l.map T.v) (q - 1) j ∧ Fr No (w.alloc (.cells #[.int .u8 3, .int .i64 0, .string ⟨#[]⟩, .slice A l.length cap, .int .i64 0] 27)) wr) (fun _ i _ _ => l.length - (intOf i).toNat)
      case atStart => exact ⟨0, 1, Nat.zero_le _, rfl, rfl, by simp [sizeTo_zero], by omega, fitsTo_zero _ _, Fr.refl _ _⟩
      case round =>
        obtain ⟨j, m, hj, rfl, rfl, hm, hmr, hall, fr⟩ := hrel
        obtain ⟨d0, d1, d2, d3, d4, df⟩ := (hK.fr fr fun h => h).cells5
        have frw := fr1.trans fr
        have HM := hide hm
        have HA := hide hall
        clear hm hall c0 c1 c2 c3 c4 cf
        by_cases hlt : j < l.length
        · obtain ⟨b, o, k1, n1, s1, A1, cap1, l1, r1, rfl, hb0, hb1', hx, hin, e0, e1, e2, e3, e4⟩ := T.elem (ht.no frw hh) hlt
          have hc := ih l[j] (List.getElem_mem hlt) (p - m) (q - 1) wr lo hi (by rw [hx]; exact hin) (by have := frw.size; omega) (by omega) (by omega)
          have hj' : j < (l.map T.v).length := by simpa using hlt
          have hxv : (l.map T.v)[j] = (T.mk k1 n1 s1 A1 cap1 l1 r1).v := by rw [List.getElem_map, hx]
          have hto := sizeTo_succ (l.map T.v) j hj'
          have hst := fun h => fits_stop (n := 0) (s := ⟨#[]⟩) (r := 0) (p := p) (q := q) hj' hq3 h
          have hfs := fun h1 h2 => fitsTo_succ HA.out hj' h1 h2
          rw [hxv] at hto hst hfs
          rw [hx, T.val_mk] at hc
          generalize (T.mk k1 n1 s1 A1 cap1 l1 r1).v = u at *
          have g0 : b < wr.heap.size := by have := frw.size; omega
          have HF := hide fr
          have HW := hide frw
          have hup := u.size_pos
          have x1 : ((p - m : Nat) : Int) = (p : Int) - (m : Int) := by omega
          have x2 : ((q - 1 : Nat) : Int) = (q : Int) - 1 := by omega
          rw [x1, x2] at hc
          clear x1 x2
          cases hfit : u.fits (p - m) (q - 1) with
          | true =>
            have h1 : u.ok = true ∧ u.size ≤ p - m ∧ u.dep ≤ q - 1 := by
              simp [V.fits] at hfit; exact ⟨hfit.1.1, hfit.1.2, hfit.2⟩
            have e : lookOf u (p - m) (q - 1) = (u.size : Int) := by simp [lookOf, hfit]
            rw [e] at hc
            have HC := hide hc
            have HT := hide hto
            have HFS := hide (hfs h1.1 h1.2.2)
            have hf1 := h1.2.1
            have hnn : ¬ ((u.size : Int) < 0) := by omega
            clear hst hto hxv hx ih fr frw fr1 hc hin hfs hfit e h1
            generalize hqq : u.size = z at *
            have HQ := hide hqq
            clear hqq
            go_wp2_with fail
            refine HC.out.mono ?_
            rintro e w2 ⟨rfl, fr2⟩
            have HF2 := hide fr2
            clear fr2
            go_wp2
            go_roundw
            case rel =>
              exact ⟨j + 1, m + z, hlt, by go_num, by go_num, by rw [HT.out, HM.out]; omega, by omega, HFS.out, HF.out.trans HF2.out⟩
            case measure => simp [intOf]; omega
          | false =>
            rw [look_no hfit] at hc
            have hno : lookOf (.mk 3 0 ⟨#[]⟩ (l.map T.v) 0) p q = -1 := look_no (hst (by rw [show p - 1 - sizeTo (l.map T.v) j = p - m from by rw [HM.out]; omega]; exact hfit))
            have HC := hide hc
            have HNO := hide hno
            clear hst hto hxv hx ih fr frw fr1 hc hin hfit hno hfs
            go_wp2_with fail
            refine HC.out.mono ?_
            rintro e w2 ⟨rfl, fr2⟩
            have HF2 := hide (HW.out.trans fr2)
            clear fr2
            go_wp2
            go_ret
            exact ⟨by rw [HNO.out]; rfl, HF2.out⟩
        · obtain rfl : l.length = j := by omega
          have hdone : lookOf (.mk 3 0 ⟨#[]⟩ (l.map T.v) 0) p q = (m : Int) := by
            obtain ⟨a, b⟩ := fits_done (n := 0) (s := ⟨#[]⟩) (l := l.map T.v) (r := 0) (p := p) (q := q) (by rw [HLL.out]; have := HM.out; omega) hpp hq3 (by rw [HLL.out]; exact HA.out)
            have c : fok 3 0 ⟨#[]⟩ (l.map T.v).length 0 = true := by simp [fok, toL0]
            rw [lookOf, a, if_pos c, b, HLL.out, ← HM.out]
          have HD := hide hdone
          have HW := hide frw
          clear hdone ih fr frw fr1
          go_wp2
          go_ret
          exact ⟨by rw [HD.out]; rfl, HW.out⟩
    · -- kind 4
      by_cases hc : n = 0
      case neg =>
        have hf : fok 4 n s (l.map T.v).length r = false := by
          simp [fok, hc]
        have z : (n != 0) = true := by simpa using hc
        rw [look_bad (k := 4) (by decide) hpp (p := p) (q := q) hf]
        clear ih hf
        go_enter Try.func122, Try.ntmps122
        go_wp2
        go_ret
        exact ⟨rfl, fr1⟩
      subst hc
      by_cases hc : s = ⟨#[]⟩
      case neg =>
        have hf : fok 4 0 s (l.map T.v).length r = false := by
          simp [fok, str_ne2 hc]; try exact fun h => absurd (toList_nil h) hc
        have z := str_ne hc
        have z2 := str_ne2 hc
        rw [look_bad (k := 4) (by decide) hpp (p := p) (q := q) hf]
        clear ih hf
        go_enter Try.func122, Try.ntmps122
        go_wp2
        go_ret
        exact ⟨rfl, fr1⟩
      subst hc
      by_cases hc : l.length = 0
      case neg =>
        have hf : fok 4 0 ⟨#[]⟩ (l.map T.v).length r = false := by
          rw [HLL.out]; simp [fok, hc]
        have z : (0 : Int) < (l.length : Int) := by omega
        rw [look_bad (k := 4) (by decide) hpp (p := p) (q := q) hf]
        clear ih hf
        go_enter Try.func122, Try.ntmps122
        go_wp2
        go_ret
        exact ⟨rfl, fr1⟩
      obtain rfl : l = [] := List.eq_nil_of_length_eq_zero hc; clear hc
      by_cases hc : 1 ≤ r
      case neg =>
        have hf : fok 4 0 ⟨#[]⟩ 0 r = false := by
          simp [fok]; omega
        have z : r < 1 := by omega
        rw [look_bad (k := 4) (by decide) hpp (p := p) (q := q) hf]
        clear ih hf
        go_enter Try.func122, Try.ntmps122
        go_wp2
        go_ret
        exact ⟨rfl, fr1⟩
      have z : ¬ r < 1 := by omega
      rw [show ([] : List T).map T.v = [] from rfl]
      rw [(look_leaf (k := 4) (n := 0) (s := ⟨#[]⟩) (l := []) (r := r) (p := p) (q := q) (by decide) hpp (by simp [fok, toL0]; try omega))]
      clear ih
      go_enter Try.func122, Try.ntmps122
      go_wp2
      go_ret
      exact ⟨rfl, fr1⟩

/-- The document's Parts. -/
theorem refParts_any (t : T) (w : World) (lo hi : Nat) (ht : t.In w lo hi) (hh : hi ≤ w.heap.size) :
    Calls Try.prog 60 #[t.val] w fun e w' => e = .returned (.int .i64 (t.v.meas : Int)) ∧ Fr No w w' := by
  have IH := fun w' h h' => look_any t 512 16 w' lo hi h h' (by decide) (by decide)
  cases t with
  | mk k n s A cap l r =>
    rw [T.val_mk] at *
    have hpos := (T.mk k n s A cap l r).v.size_pos
    generalize (T.mk k n s A cap l r).v = u at *
    have hin := ht.no ((Fr.refl No w).alloc (.cells #[.int .u8 k, .int .i64 n, .string s, .slice A l.length cap, .int .i64 r] 27)) hh
    cases hm : u.fits 512 16 with
    | true =>
      have e : u.meas = u.size := by simp [V.meas, V.may, hm]
      have e2 : lookOf u 512 16 = (u.size : Int) := by simp [lookOf, hm]
      have hle : u.size ≤ 512 := by simp [V.fits] at hm; omega
      rw [e]
      rw [e2] at IH
      clear hm e e2
      go_enter Try.func60, Try.ntmps60
      go_wp2_with fail
      refine (IH _ hin (by simp; omega)).mono ?_
      rintro e w2 ⟨rfl, fr2⟩
      go_wp2
      go_ret
      exact ⟨rfl, ((Fr.refl No w).alloc _).trans fr2⟩
    | false =>
      have e : u.meas = 0 := by simp [V.meas, V.may, hm]
      have e2 : lookOf u 512 16 = -1 := look_no hm
      rw [e]
      rw [e2] at IH
      clear hm e e2
      go_enter Try.func60, Try.ntmps60
      go_wp2_with fail
      refine (IH _ hin (by simp; omega)).mono ?_
      rintro e w2 ⟨rfl, fr2⟩
      go_wp2
      go_ret
      exact ⟨rfl, ((Fr.refl No w).alloc _).trans fr2⟩

/-- The document's May. -/
theorem refMay_any (t : T) (w : World) (lo hi : Nat) (ht : t.In w lo hi) (hh : hi ≤ w.heap.size) :
    Calls Try.prog 109 #[t.val] w fun e w' => e = .returned (.bool t.v.may) ∧ Fr No w w' := by
  have IH := fun w' h h' => refParts_any t w' lo hi h h'
  cases hm : t.v.may
  · have HM : t.v.meas = 0 := by simp [V.meas, hm]
    rw [HM] at IH
    cases t with
    | mk k n s A cap l r =>
      rw [T.val_mk] at *
      go_enter Try.func109, Try.ntmps109
      go_wp2_with fail
      refine (IH _ (ht.no ((Fr.refl No w).alloc _) hh) (by simp; omega)).mono ?_
      rintro e w2 ⟨rfl, fr2⟩
      go_wp2
      go_ret
      exact ⟨rfl, ((Fr.refl No w).alloc _).trans fr2⟩
  · have HM : 0 < t.v.meas := by simp [V.meas, hm]; exact t.v.size_pos
    cases t with
    | mk k n s A cap l r =>
      rw [T.val_mk] at *
      generalize (T.mk k n s A cap l r).v.meas = z at *
      go_enter Try.func109, Try.ntmps109
      go_wp2_with fail
      refine (IH _ (ht.no ((Fr.refl No w).alloc _) hh) (by simp; omega)).mono ?_
      rintro e w2 ⟨rfl, fr2⟩
      go_wp2
      go_ret
      exact ⟨by simp, ((Fr.refl No w).alloc _).trans fr2⟩

end Go.Proofs.Ytihjmipmjogpoaa

/- Chapter 2: the document's answer: order, Order, Same. -/
namespace Go.Proofs.Ytihjmipmjogpoaa
open Go.RowKit

theorem less_total : ∀ (a b : List UInt8), Op.bytesLess a b = false → Op.bytesLess b a = false → a = b
  | [], [], _, _ => rfl
  | [], y :: b, h, _ => by simp [Op.bytesLess] at h
  | x :: a, [], _, h => by simp [Op.bytesLess] at h
  | x :: a, y :: b, h, h' => by
    simp only [Op.bytesLess, Bool.or_eq_false_iff, Bool.and_eq_false_iff, decide_eq_false_iff_not, beq_eq_false_iff_ne] at h h'
    have hxy : x = y := by
      have q1 := h.1
      have q2 := h'.1
      rw [UInt8.lt_iff_toNat_lt] at q1 q2
      exact UInt8.toNat_inj.1 (by omega)
    subst hxy
    rw [less_total a b (h.2.resolve_left (fun h => h rfl)) (h'.2.resolve_left (fun h => h rfl))]

theorem less_asymm : ∀ (a b : List UInt8), Op.bytesLess a b = true → Op.bytesLess b a = false
  | [], [], h => by simp [Op.bytesLess] at h
  | [], y :: b, _ => rfl
  | x :: a, [], h => by simp [Op.bytesLess] at h
  | x :: a, y :: b, h => by
    simp only [Op.bytesLess, Bool.or_eq_true, Bool.and_eq_true, decide_eq_true_eq, beq_iff_eq] at h
    simp only [Op.bytesLess, Bool.or_eq_false_iff, Bool.and_eq_false_iff, decide_eq_false_iff_not, beq_eq_false_iff_ne]
    rcases h with h | ⟨rfl, h⟩
    · exact ⟨UInt8.lt_asymm h, .inl fun e => by subst e; exact absurd h (UInt8.lt_irrefl _)⟩
    · exact ⟨UInt8.lt_irrefl _, .inr (less_asymm a b h)⟩

theorem fok_n {k n : Int} {s : ByteArray} {len : Nat} {r : Int} (h : fok k n s len r = true) (hk : k ≠ 1) : n = 0 := by
  rcases fok_kind h with rfl | rfl | rfl | rfl | rfl
  · simp [fok] at h; exact h.1.1.1
  · exact absurd rfl hk
  · simp [fok] at h; exact h.1.1.2
  · simp [fok] at h; exact h.1.1
  · simp [fok] at h; exact h.1.1.2
theorem fok_s {k n : Int} {s : ByteArray} {len : Nat} {r : Int} (h : fok k n s len r = true) (hk : k ≠ 2) : s.toList = [] := by
  rcases fok_kind h with rfl | rfl | rfl | rfl | rfl
  · simp [fok] at h; exact h.1.1.2
  · simp [fok] at h; exact h.1.1
  · exact absurd rfl hk
  · simp [fok] at h; exact h.1.2
  · simp [fok] at h; exact h.1.2
theorem fok_r {k n : Int} {s : ByteArray} {len : Nat} {r : Int} (h : fok k n s len r = true) (hk : k ≠ 4) : r = 0 := by
  rcases fok_kind h with rfl | rfl | rfl | rfl | rfl
  · simp [fok] at h; exact h.1.2
  · simp [fok] at h; exact h.1.2
  · simp [fok] at h; exact h.1.2
  · simp [fok] at h; exact h.2
  · exact absurd rfl hk

section
variable {k n n' : Int} {s s' : ByteArray} {l l' : List V} {r r' : Int} (hu : fok k n s l.length r = true) (hv : fok k n' s' l'.length r' = true)
include hu hv
theorem ord_part (a b : Bool) (ha : a = (decide (n < n') || Op.bytesLess s.toList s'.toList || decide (r < r'))) (hb : b = (decide (n' < n) || Op.bytesLess s'.toList s.toList || decide (r' < r))) :
    (k = 0 ∨ k = 3 → a = false ∧ b = false) ∧ (k = 1 → a = decide (n < n') ∧ b = decide (n' < n)) ∧ (k = 2 → a = Op.bytesLess s.toList s'.toList ∧ b = Op.bytesLess s'.toList s.toList) ∧ (k = 4 → a = decide (r < r') ∧ b = decide (r' < r)) := by
  subst ha hb
  have hn : k ≠ 1 → n = 0 ∧ n' = 0 := fun h => ⟨fok_n hu h, fok_n hv h⟩
  have hs : k ≠ 2 → s.toList = [] ∧ s'.toList = [] := fun h => ⟨fok_s hu h, fok_s hv h⟩
  have hr : k ≠ 4 → r = 0 ∧ r' = 0 := fun h => ⟨fok_r hu h, fok_r hv h⟩
  refine ⟨fun h => ?_, fun h => ?_, fun h => ?_, fun h => ?_⟩
  · obtain ⟨e1, e2⟩ := hn (by omega)
    obtain ⟨e3, e4⟩ := hs (by omega)
    obtain ⟨e5, e6⟩ := hr (by omega)
    rw [e1, e2, e3, e4, e5, e6]; exact ⟨rfl, rfl⟩
  · obtain ⟨e3, e4⟩ := hs (by omega)
    obtain ⟨e5, e6⟩ := hr (by omega)
    rw [e3, e4, e5, e6]; simp [Op.bytesLess]
  · obtain ⟨e1, e2⟩ := hn (by omega)
    obtain ⟨e5, e6⟩ := hr (by omega)
    rw [e1, e2, e5, e6]; simp
  · obtain ⟨e1, e2⟩ := hn (by omega)
    obtain ⟨e3, e4⟩ := hs (by omega)
    rw [e1, e2, e3, e4]; simp [Op.bytesLess]

theorem ord_low (h : n < n' ∨ Op.bytesLess s.toList s'.toList = true ∨ r < r') : (V.mk k n s l r).ord (V.mk k n' s' l' r') = -1 := by
  obtain ⟨p0, p1, p2, p4⟩ := ord_part hu hv true _ (by rcases h with h | h | h <;> simp [h]) rfl
  rw [V.ord_mk, ordOf, if_pos rfl]
  rcases fok_kind hu with rfl | rfl | rfl | rfl | rfl
  · exact absurd (p0 (.inl rfl)).1 (by decide)
  · have := (p1 rfl).1; rw [if_pos rfl, cmpI, if_pos (by simpa using this.symm)]
  · have := (p2 rfl).1; rw [if_neg (by decide), if_pos rfl, cmpS, if_pos this.symm]
  · exact absurd (p0 (.inr rfl)).1 (by decide)
  · have := (p4 rfl).1; rw [if_neg (by decide), if_neg (by decide), if_pos rfl, cmpI, if_pos (by simpa using this.symm)]

theorem ord_high (h : n' < n ∨ Op.bytesLess s'.toList s.toList = true ∨ r' < r) : (V.mk k n s l r).ord (V.mk k n' s' l' r') = 1 := by
  obtain ⟨p0, p1, p2, p4⟩ := ord_part hu hv _ true rfl (by rcases h with h | h | h <;> simp [h])
  rw [V.ord_mk, ordOf, if_pos rfl]
  rcases fok_kind hu with rfl | rfl | rfl | rfl | rfl
  · exact absurd (p0 (.inl rfl)).2 (by decide)
  · have h1 : n' < n := by simpa using (p1 rfl).2.symm
    rw [if_pos rfl, cmpI, if_neg (by omega), if_pos h1]
  · have h1 := (p2 rfl).2.symm
    have h2 := less_asymm _ _ h1
    rw [if_neg (by decide), if_pos rfl, cmpS, h2, if_neg (by decide), if_neg]
    intro h3
    rw [beq_iff_eq] at h3
    rw [h3, less_self] at h1
    cases h1
  · exact absurd (p0 (.inr rfl)).2 (by decide)
  · have h1 : r' < r := by simpa using (p4 rfl).2.symm
    rw [if_neg (by decide), if_neg (by decide), if_pos rfl, cmpI, if_neg (by omega), if_pos h1]

theorem ord_list (h1 : ¬ (n < n' ∨ Op.bytesLess s.toList s'.toList = true ∨ r < r')) (h2 : ¬ (n' < n ∨ Op.bytesLess s'.toList s.toList = true ∨ r' < r)) : (V.mk k n s l r).ord (V.mk k n' s' l' r') = ordL (l.map V.ord) l' := by
  rw [V.ord_mk, ordOf, if_pos rfl]
  have hl0 : k ≠ 3 → l = [] ∧ l' = [] := fun h => ⟨List.eq_nil_of_length_eq_zero (fok_len h hu), List.eq_nil_of_length_eq_zero (fok_len h hv)⟩
  rcases fok_kind hu with rfl | rfl | rfl | rfl | rfl
  · rw [if_neg (by decide), if_neg (by decide), if_neg (by decide)]
  · obtain ⟨rfl, rfl⟩ := hl0 (by decide)
    rw [if_pos rfl, cmpI, if_neg (by omega), if_neg (by omega)]; rfl
  · obtain ⟨rfl, rfl⟩ := hl0 (by decide)
    have e : s.toList = s'.toList := less_total _ _ (by simpa using fun h => h1 (.inr (.inl h))) (by simpa using fun h => h2 (.inr (.inl h)))
    rw [if_neg (by decide), if_pos rfl, cmpS, e, less_self]; simp [ordL]
  · rw [if_neg (by decide), if_neg (by decide), if_neg (by decide)]
  · obtain ⟨rfl, rfl⟩ := hl0 (by decide)
    rw [if_neg (by decide), if_neg (by decide), if_pos rfl, cmpI, if_neg (by omega), if_neg (by omega)]; rfl
end

theorem ordL_end {fs : List (V → Int)} {vs : List V} {j : Nat} (hj : j = fs.length ∨ j = vs.length) (hz : EqTo fs vs j) : ordL fs vs = if fs.length < vs.length then -1 else if vs.length < fs.length then 1 else 0 := by
  rcases Nat.lt_trichotomy fs.length vs.length with h | h | h
  · rw [if_pos h]
    rw [ordL_done (by omega) (fun i f v hi => hz i f v (by rcases hj with rfl | rfl <;> omega)), if_pos h]
  · rw [if_neg (by omega), if_neg (by omega)]
    rw [ordL_done (by omega) (fun i f v hi => hz i f v (by rcases hj with rfl | rfl <;> omega)), if_neg (by omega)]
  · rw [if_neg (by omega), if_pos h]
    exact ordL_more h (fun i f v hi => hz i f v (by rcases hj with rfl | rfl <;> omega))

set_option maxRecDepth 100000 in
set_option maxHeartbeats 8000000 in
theorem reforder_any (t : T) : ∀ (t' : T) (w : World) (lo hi lo' hi' : Nat), t.In w lo hi → hi ≤ w.heap.size → t'.In w lo' hi' → hi' ≤ w.heap.size → t.v.ok = true → t'.v.ok = true →
    Calls Try.prog 131 #[t.val, t'.val] w fun e w' => e = .returned (.int .i64 (t.v.ord t'.v)) ∧ Fr No w w' := by
  induction t using T.ind with
  | h k n s A cap l r ih =>
    intro t' w lo hi lo' hi' ht hh ht' hh' hok hok'
    cases t' with
    | mk k' n' s' A' cap' l' r' =>
      rw [T.val_mk, T.val_mk]
      have fr2 := ((Fr.refl No w).alloc (.cells #[.int .u8 k, .int .i64 n, .string s, .slice A l.length cap, .int .i64 r] 27)).alloc (.cells #[.int .u8 k', .int .i64 n', .string s', .slice A' l'.length cap', .int .i64 r'] 27)
      rw [T.v_mk] at hok hok' ⊢
      rw [T.v_mk]
      rw [V.ok_mk, Bool.and_eq_true, List.all_eq_true] at hok hok'
      have hlen := (T.in_mk.1 ht).1.len1
      have hlen' := (T.in_mk.1 ht').1.len1
      by_cases hk : k = k'
      case neg =>
        have hk' : (k != k') = true := by simpa using hk
        have e : (V.mk k n s (l.map T.v) r).ord (V.mk k' n' s' (l'.map T.v) r') = if k < k' then -1 else 1 := by
          rw [V.ord_mk, ordOf, if_neg hk, cmpI]
          split
          · rfl
          · rw [if_pos (by omega)]
        rw [e]
        clear ih hok hok' e ht ht'
        by_cases hlt : k < k'
        · rw [if_pos hlt]
          go_enter Try.func131, Try.ntmps131
          go_wp2
          go_ret
          exact ⟨rfl, fr2⟩
        · rw [if_neg hlt]
          go_enter Try.func131, Try.ntmps131
          go_wp2
          go_ret
          exact ⟨rfl, fr2⟩
      subst hk
      by_cases h1 : n < n' ∨ Op.bytesLess s.toList s'.toList = true ∨ r < r'
      · rw [ord_low hok.1 hok'.1 h1]
        clear ih hok hok' ht ht'
        by_cases a1 : n < n'
        · go_enter Try.func131, Try.ntmps131
          go_wp2
          go_ret
          exact ⟨rfl, fr2⟩
        cases a2 : Op.bytesLess s.toList s'.toList with
        | true =>
          clear h1
          go_enter Try.func131, Try.ntmps131
          go_wp2
          go_ret
          exact ⟨rfl, fr2⟩
        | false =>
          have a3 : r < r' := by rcases h1 with h | h | h; exact absurd h a1; rw [a2] at h; cases h; exact h
          clear h1
          go_enter Try.func131, Try.ntmps131
          go_wp2
          go_ret
          exact ⟨rfl, fr2⟩
      have b1 : ¬ n < n' := fun h => h1 (.inl h)
      have b2 : Op.bytesLess s.toList s'.toList = false := by simpa using fun h => h1 (.inr (.inl h))
      have b3 : ¬ r < r' := fun h => h1 (.inr (.inr h))
      by_cases h2 : n' < n ∨ Op.bytesLess s'.toList s.toList = true ∨ r' < r
      · rw [ord_high hok.1 hok'.1 h2]
        clear ih hok hok' ht ht' h1
        by_cases a1 : n' < n
        · go_enter Try.func131, Try.ntmps131
          go_wp2
          go_ret
          exact ⟨rfl, fr2⟩
        cases a2 : Op.bytesLess s'.toList s.toList with
        | true =>
          have a4 : (s.toList == s'.toList) = false := by
            simp only [beq_eq_false_iff_ne]
            intro h3
            rw [h3, less_self] at a2
            cases a2
          have a5 : ¬ s.toList = s'.toList := by simpa using a4
          clear h2
          go_enter Try.func131, Try.ntmps131
          go_wp2
          go_ret
          exact ⟨rfl, fr2⟩
        | false =>
          have a3 : r' < r := by rcases h2 with h | h | h; exact absurd h a1; rw [a2] at h; cases h; exact h
          obtain rfl : s = s' := bytes_ext (less_total _ _ b2 a2)
          clear h2
          go_enter Try.func131, Try.ntmps131
          go_wp2
          go_ret
          exact ⟨rfl, fr2⟩
      have d1 : ¬ n' < n := fun h => h2 (.inl h)
      have d2 : Op.bytesLess s'.toList s.toList = false := by simpa using fun h => h2 (.inr (.inl h))
      have d3 : ¬ r' < r := fun h => h2 (.inr (.inr h))
      have hE := ord_list hok.1 hok'.1 h1 h2
      obtain rfl : s = s' := bytes_ext (less_total _ _ b2 d2)
      have HE := hide hE
      have HOK := hide hok.2
      have HOK' := hide hok'.2
      clear h1 h2 hE hok hok'
      have hK0 := (Blk.new' w 27 #[.int .u8 k, .int .i64 n, .string s, .slice A l.length cap, .int .i64 r] rfl).alloc (.cells #[.int .u8 k, .int .i64 n', .string s, .slice A' l'.length cap', .int .i64 r'] 27)
      have hV0 := Blk.new' (w.alloc (.cells #[.int .u8 k, .int .i64 n, .string s, .slice A l.length cap, .int .i64 r] 27)) 27 #[.int .u8 k, .int .i64 n', .string s, .slice A' l'.length cap', .int .i64 r'] (g := w.heap.size + 1) (by simp)
      go_enter Try.func131, Try.ntmps131
      go_wp2_with fail
      go_loopw [5, 6] (fun i _ wr => ∃ j : Nat, j ≤ l.length ∧ j ≤ l'.length ∧ i = .int .i64 j ∧ Fr No ((w.alloc (.cells #[.int .u8 k, .int .i64 n, .string s, .slice A l.length cap, .int .i64 r] 27)).alloc (.cells #[.int .u8 k, .int .i64 n', .string s, .slice A' l'.length cap', .int .i64 r'] 27)) wr ∧ EqTo ((l.map T.v).map V.ord) (l'.map T.v) j) (fun i _ _ => l.length - (intOf i).toNat)
      case atStart =>
        exact ⟨0, Nat.zero_le _, Nat.zero_le _, rfl, Fr.refl _ _, EqTo.zero _ _⟩
      case round =>
        obtain ⟨j, hj, hj', rfl, fr, hsame⟩ := hrel
        have hK := hK0.fr fr fun h => h
        have hV := hV0.fr fr fun h => h
        have frw := fr2.trans fr
        have hszr := fr.size
        simp at hszr
        obtain ⟨c0, c1, c2, c3, c4, cf⟩ := hK.cells5
        obtain ⟨f0, f1, f2, f3, f4, ff⟩ := hV.cells5
        have g2 : w.heap.size < wr.heap.size := by omega
        have g3 : w.heap.size + 1 < wr.heap.size := by omega
        by_cases hboth : j < l.length ∧ j < l'.length
        · obtain ⟨hlt, hlt'⟩ := hboth
          obtain ⟨b, o, k1, n1, s1, A1, cap1, l1, r1, rfl, hb0, hb1, hx, hin, e0, e1, e2, e3, e4⟩ := T.elem (ht.no frw hh) hlt
          obtain ⟨b', o', k2, n2, s2, A2, cap2, l2, r2, rfl, hb0', hb1', hx', hin', m0, m1, m2, m3, m4⟩ := T.elem (ht'.no frw hh') hlt'
          have IH := ih l[j] (List.getElem_mem hlt) l'[j]
          rw [hx, hx', T.val_mk, T.val_mk] at IH
          have hr := ord_range (T.mk k1 n1 s1 A1 cap1 l1 r1).v (T.mk k2 n2 s2 A2 cap2 l2 r2).v
          have hok1 : (T.mk k1 n1 s1 A1 cap1 l1 r1).v.ok = true := by rw [← hx]; exact HOK.out _ (List.mem_map_of_mem (List.getElem_mem hlt))
          have hok2 : (T.mk k2 n2 s2 A2 cap2 l2 r2).v.ok = true := by rw [← hx']; exact HOK'.out _ (List.mem_map_of_mem (List.getElem_mem hlt'))
          have hfj : ((l.map T.v).map V.ord)[j]? = some (T.mk k1 n1 s1 A1 cap1 l1 r1).v.ord := by
            rw [List.getElem?_map, List.getElem?_map, List.getElem?_eq_getElem hlt, hx]; rfl
          have hvj : (l'.map T.v)[j]? = some (T.mk k2 n2 s2 A2 cap2 l2 r2).v := by
            rw [List.getElem?_map, List.getElem?_eq_getElem hlt', hx']; rfl
          generalize (T.mk k1 n1 s1 A1 cap1 l1 r1).v = u1 at *
          generalize (T.mk k2 n2 s2 A2 cap2 l2 r2).v = u2 at *
          have g0 : b < wr.heap.size := by omega
          have g1 : b' < wr.heap.size := by omega
          have hh0 : hi ≤ wr.heap.size := by omega
          have hh1 : hi' ≤ wr.heap.size := by omega
          have IH2 := fun w1 (f : Fr No wr w1) => IH w1 lo hi lo' hi' (hin.no f hh0) (Nat.le_trans hh0 f.size) (hin'.no f hh1) (Nat.le_trans hh1 f.size) hok1 hok2
          have HIH := hide IH2
          have HFJ := hide hfj
          have HVJ := hide hvj
          have HF := hide fr
          have HW := hide frw
          have HS := hide hsame
          clear hx hx' ih hK hV fr frw fr2 hsame IH IH2 hfj hvj hok1 hok2 hin hin' ht ht' hK0 hV0
          generalize hcc : u1.ord u2 = c at *
          have HCC := hide hcc
          clear hcc
          go_wp2_with fail
          go_region_held3 (fun w' => (∀ c i, c < wr.heap.size → w'.cell? ⟨c, i, none⟩ = wr.cell? ⟨c, i, none⟩) ∧ Fr No wr w')
            (first | exact ⟨fun _ _ _ => rfl, Fr.drew (Fr.refl No wr)⟩ | (have hq : Fr No wr _ := (‹_ ∧ Fr No wr _›).2.trans ‹Fr No _ _›; exact ⟨hq.cells, hq⟩))
            (first
              | (go_at_call 131; have hs0 := (‹_ ∧ Fr No wr _›).2; ((with_reducible refine (HIH.out _ ?_).mono ?_); (exact hs0); rintro e w2 ⟨rfl, fr1⟩)))
          have hF2 := (‹_ ∧ Fr No wr _›).2
          have HF2 := hide hF2
          rcases hr with rfl | rfl | rfl
          · have hP := ordL_at HS.out HFJ.out HVJ.out (by rw [HCC.out]; decide)
            rw [HCC.out] at hP
            have HP := hide hP
            clear hP
            go_wp2
            go_ret
            exact ⟨by rw [HE.out, HP.out]; rfl, HW.out.trans HF2.out⟩
          · go_wp2
            go_roundw
            case rel => exact ⟨j + 1, hlt, hlt', by go_num, HF.out.trans HF2.out, HS.out.succ HFJ.out HVJ.out HCC.out⟩
            case measure => simp [intOf]; omega
          · have hP := ordL_at HS.out HFJ.out HVJ.out (by rw [HCC.out]; decide)
            rw [HCC.out] at hP
            have HP := hide hP
            clear hP
            go_wp2
            go_ret
            exact ⟨by rw [HE.out, HP.out]; rfl, HW.out.trans HF2.out⟩
        · have hend : ordL ((l.map T.v).map V.ord) (l'.map T.v) = if l.length < l'.length then -1 else if l'.length < l.length then 1 else 0 := by
            have := ordL_end (fs := (l.map T.v).map V.ord) (vs := l'.map T.v) (j := j) (by simp; omega) hsame
            simpa using this
          have HN := hide hend
          have HW := hide frw
          clear hend ih frw fr fr2 hsame hK hV
          rcases Nat.lt_trichotomy l.length l'.length with h | h | h
          · obtain rfl : j = l.length := by omega
            clear hboth
            go_wp2
            go_ret
            exact ⟨by rw [HE.out, HN.out, if_pos h]; rfl, HW.out⟩
          · obtain rfl : j = l.length := by omega
            have h3 : ¬ l.length < l'.length := by omega
            have h4 : ¬ l'.length < l.length := by omega
            have HH := hide h
            clear h hboth
            go_wp2
            go_ret
            exact ⟨by rw [HE.out, HN.out, if_neg h3, if_neg h4]; rfl, HW.out⟩
          · obtain rfl : j = l'.length := by omega
            have h3 : ¬ l.length < l'.length := by omega
            clear hboth
            go_wp2
            go_ret
            exact ⟨by rw [HE.out, HN.out, if_neg h3, if_pos h]; rfl, HW.out⟩

end Go.Proofs.Ytihjmipmjogpoaa

/- Chapter 2: the document's answer: Order, Same. -/
namespace Go.Proofs.Ytihjmipmjogpoaa
open Go.RowKit

set_option maxRecDepth 100000 in
set_option maxHeartbeats 4000000 in
/-- The document's Order. -/
theorem refOrder_any (a b : T) (w : World) (lo hi : Nat) (ha : a.In w lo hi) (hb : b.In w lo hi) (hh : hi ≤ w.heap.size) :
    Calls Try.prog 75 #[a.val, b.val] w fun e w' => e = .returned (.tuple #[.int .i64 (if (a.v.may && b.v.may) = true then a.v.ord b.v else 0), .int .i64 (if (a.v.may && b.v.may) = true then 0 else 2)]) ∧ Fr No w w' := by
  have hMa := fun w' h h' => refMay_any a w' lo hi h h'
  have hMb := fun w' h h' => refMay_any b w' lo hi h h'
  have hO := fun w' h h' h'' o o' => reforder_any a b w' lo hi lo hi h h'' h' h'' o o'
  cases a with
  | mk k n s A cap l r =>
  cases b with
  | mk k' n' s' A' cap' l' r' =>
    rw [T.val_mk] at *
    rw [T.val_mk] at *
    generalize hu : (T.mk k n s A cap l r).v = u at *
    generalize hv : (T.mk k' n' s' A' cap' l' r').v = v at *
    have fr1 := ((Fr.refl No w).alloc (.cells #[.int .u8 k, .int .i64 n, .string s, .slice A l.length cap, .int .i64 r] 27)).alloc (.cells #[.int .u8 k', .int .i64 n', .string s', .slice A' l'.length cap', .int .i64 r'] 27)
    have hK := (Blk.new' w 27 #[.int .u8 k, .int .i64 n, .string s, .slice A l.length cap, .int .i64 r] rfl).alloc (.cells #[.int .u8 k', .int .i64 n', .string s', .slice A' l'.length cap', .int .i64 r'] 27)
    have hV := Blk.new' (w.alloc (.cells #[.int .u8 k, .int .i64 n, .string s, .slice A l.length cap, .int .i64 r] 27)) 27 #[.int .u8 k', .int .i64 n', .string s', .slice A' l'.length cap', .int .i64 r'] (g := w.heap.size + 1) (by simp)
    have ha1 := ha.no fr1 hh
    have hb1 := hb.no fr1 hh
    have hs1 := Nat.le_trans hh fr1.size
    have HU := hide hu
    have HV := hide hv
    clear hu hv ha hb
    cases hma : u.may with
    | false =>
      rw [hma] at hMa
      simp only [Bool.false_and, Bool.false_eq_true, if_false]
      clear hma
      go_enter Try.func75, Try.ntmps75
      go_wp2_with fail
      refine (hMa _ ha1 hs1).mono ?_
      rintro e w2 ⟨rfl, fr2⟩
      go_wp2
      go_ret2
      exact ⟨rfl, fr1.trans fr2⟩
    | true =>
      rw [hma] at hMa
      cases hmb : v.may with
      | false =>
        rw [hmb] at hMb
        simp only [Bool.and_false, Bool.false_eq_true, if_false]
        clear hma hmb
        go_enter Try.func75, Try.ntmps75
        go_wp2_with fail
        generalize World.alloc _ _ = W0 at *
        refine (hMa _ ha1 hs1).mono ?_
        rintro e w2 ⟨rfl, fr2⟩
        obtain ⟨v0, v1, v2, v3, v4, -⟩ := (hV.fr fr2 fun h => h).cells5
        have hb2 := hb1.no fr2 hs1
        have hs2 := Nat.le_trans hs1 fr2.size
        have HF := hide (fr1.trans fr2)
        clear fr1 fr2 hK hV
        go_wp2_with fail
        refine (hMb _ hb2 hs2).mono ?_
        rintro e w3 ⟨rfl, fr3⟩
        go_wp2
        go_ret2
        exact ⟨rfl, HF.out.trans fr3⟩
      | true =>
        rw [hmb] at hMb
        simp only [Bool.and_true, if_true]
        have hO := fun w' h h' h'' => hO w' h h' h'' (may_ok hma) (may_ok hmb)
        generalize u.ord v = c at *
        clear hma hmb
        go_enter Try.func75, Try.ntmps75
        go_wp2_with fail
        generalize World.alloc _ _ = W0 at *
        refine (hMa _ ha1 hs1).mono ?_
        rintro e w2 ⟨rfl, fr2⟩
        have hK2 := hK.fr fr2 fun h => h
        have hV2 := hV.fr fr2 fun h => h
        obtain ⟨v0, v1, v2, v3, v4, -⟩ := hV2.cells5
        have ha2 := ha1.no fr2 hs1
        have hb2 := hb1.no fr2 hs1
        have hs2 := Nat.le_trans hs1 fr2.size
        have HF := hide (fr1.trans fr2)
        clear fr1 fr2 hK hV
        go_wp2_with fail
        refine (hMb _ hb2 hs2).mono ?_
        rintro e w3 ⟨rfl, fr3⟩
        clear v0 v1 v2 v3 v4
        obtain ⟨v0, v1, v2, v3, v4, -⟩ := (hV2.fr fr3 fun h => h).cells5
        obtain ⟨c0, c1, c2, c3, c4, -⟩ := (hK2.fr fr3 fun h => h).cells5
        have ha3 := ha2.no fr3 hs2
        have hb3 := hb2.no fr3 hs2
        have hs3 := Nat.le_trans hs2 fr3.size
        have HF3 := hide (HF.out.trans fr3)
        clear fr3 hK2 hV2
        go_wp2_with fail
        refine (hO _ ha3 hb3 hs3).mono ?_
        rintro e w4 ⟨rfl, fr4⟩
        go_wp2
        go_ret2
        exact ⟨rfl, HF3.out.trans fr4⟩

/-- The document's Same. -/
theorem refSame_any (a b : T) (w : World) (lo hi : Nat) (ha : a.In w lo hi) (hb : b.In w lo hi) (hh : hi ≤ w.heap.size) : Calls Try.prog 43 #[a.val, b.val] w fun e w' => e = .returned (.bool (a.v.same2 b.v)) ∧ Fr No w w' := by
  have hO := fun w' h h' h'' => refOrder_any a b w' lo hi h h' h''
  have hr := ord_range a.v b.v
  cases a with
  | mk k n s A cap l r =>
  cases b with
  | mk k' n' s' A' cap' l' r' =>
    rw [T.val_mk] at *
    rw [T.val_mk] at *
    generalize hu : (T.mk k n s A cap l r).v = u at *
    generalize hv : (T.mk k' n' s' A' cap' l' r').v = v at *
    have fr1 := ((Fr.refl No w).alloc (.cells #[.int .u8 k, .int .i64 n, .string s, .slice A l.length cap, .int .i64 r] 27)).alloc (.cells #[.int .u8 k', .int .i64 n', .string s', .slice A' l'.length cap', .int .i64 r'] 27)
    have ha1 := ha.no fr1 hh
    have hb1 := hb.no fr1 hh
    have hs1 := Nat.le_trans hh fr1.size
    have HU := hide hu
    have HV := hide hv
    clear hu hv ha hb
    have hcase : ∃ (c d : Int) (q : Bool), (if (u.may && v.may) = true then u.ord v else 0) = c ∧ (if (u.may && v.may) = true then (0 : Int) else 2) = d ∧ u.same2 v = q ∧ ((d = 2 ∧ q = false) ∨ (d = 0 ∧ c = 0 ∧ q = true) ∨ (d = 0 ∧ (c = -1 ∨ c = 1) ∧ q = false)) := by
      refine ⟨_, _, _, rfl, rfl, rfl, ?_⟩
      unfold V.same2
      cases u.may
      · simp
      cases v.may
      · simp
      simp
      omega
    obtain ⟨c, d, q, h1, h2, h3, h4⟩ := hcase
    rw [h1, h2] at hO
    rw [h3]
    clear h1 h2 h3 hr
    rcases h4 with ⟨rfl, rfl⟩ | ⟨rfl, rfl, rfl⟩ | ⟨rfl, rfl | rfl, rfl⟩
    all_goals
      go_enter Try.func43, Try.ntmps43
      go_wp2_with fail
      refine (hO _ ha1 hb1 hs1).mono ?_
      rintro e w2 ⟨rfl, fr2⟩
      go_wp2
      go_ret
      exact ⟨rfl, fr1.trans fr2⟩

end Go.Proofs.Ytihjmipmjogpoaa

/- Chapter 2: the law's own held: are both answers the value that it must be? Then the one is written over. -/
namespace Go.Proofs.Ytihjmipmjogpoaa
open Go.RowKit

set_option maxRecDepth 100000 in
set_option maxHeartbeats 8000000 in
theorem held_any (a b c : T) (u : V) (w : World) (lo hi lb hb lc hc : Nat) (ha : a.Sh w lo hi) (hh : hi ≤ w.heap.size) (hl : lo ≤ w.heap.size) (ib : b.In w lb hb) (hhb : hb ≤ w.heap.size) (db : ∀ i, lb ≤ i → i < hb → i ∉ a.blocks) (ic : c.In w lc hc) (hhc : hc ≤ w.heap.size) (dc : ∀ i, lc ≤ i → i < hc → i ∉ a.blocks)
    (ea : a.v = u) (eb : b.v = u) (ec : c.v = u) (hm : u.may = true) : Calls Try.prog 50 #[a.val, b.val, c.val] w fun e w' => e = .returned (.bool true) ∧ Fr (fun i => i ∈ a.blocks) w w' := by
  have hsz : u.size ≤ 512 := by simp [V.may, V.fits] at hm; omega
  have hbl : ∀ i ∈ a.blocks, i < w.heap.size := fun i hi => by have := T.In.blocks a ha.inn i hi; omega
  generalize hBL : a.blocks = bl at *
  cases a with
  | mk k n s A cap l r =>
  cases b with
  | mk k' n' s' A' cap' l' r' =>
  cases c with
  | mk k2 n2 s2 A2 cap2 l2 r2 =>
    rw [T.val_mk, T.val_mk, T.val_mk]
    have fr0 := (((Fr.refl No w).alloc (.cells #[.int .u8 k, .int .i64 n, .string s, .slice A l.length cap, .int .i64 r] 27)).alloc (.cells #[.int .u8 k', .int .i64 n', .string s', .slice A' l'.length cap', .int .i64 r'] 27)).alloc (.cells #[.int .u8 k2, .int .i64 n2, .string s2, .slice A2 l2.length cap2, .int .i64 r2] 27)
    have ba := ((Blk.new w 27 #[.int .u8 k, .int .i64 n, .string s, .slice A l.length cap, .int .i64 r]).alloc (.cells #[.int .u8 k', .int .i64 n', .string s', .slice A' l'.length cap', .int .i64 r'] 27)).alloc (.cells #[.int .u8 k2, .int .i64 n2, .string s2, .slice A2 l2.length cap2, .int .i64 r2] 27)
    have bb := (Blk.new' (w.alloc (.cells #[.int .u8 k, .int .i64 n, .string s, .slice A l.length cap, .int .i64 r] 27)) 27 #[.int .u8 k', .int .i64 n', .string s', .slice A' l'.length cap', .int .i64 r'] (g := w.heap.size + 1) (by simp)).alloc (.cells #[.int .u8 k2, .int .i64 n2, .string s2, .slice A2 l2.length cap2, .int .i64 r2] 27)
    have bc := Blk.new' ((w.alloc (.cells #[.int .u8 k, .int .i64 n, .string s, .slice A l.length cap, .int .i64 r] 27)).alloc (.cells #[.int .u8 k', .int .i64 n', .string s', .slice A' l'.length cap', .int .i64 r'] 27)) 27 #[.int .u8 k2, .int .i64 n2, .string s2, .slice A2 l2.length cap2, .int .i64 r2] (g := w.heap.size + 1 + 1) (by simp)
    obtain ⟨z0, z1, z2, z3, z4, -⟩ := bc.cells5
    have zq := bc.lt
    have ha0 := ha.no fr0
    have ib0 := ib.no fr0 hhb
    have ic0 := ic.no fr0 hhc
    have hs0 := fr0.size
    have HBL := hide hBL
    have HEA := hide ea
    have HEB := hide eb
    have HEC := hide ec
    have HBLT := hide hbl
    have HDB := hide db
    have HDC := hide dc
    have hself := same2_self hm
    have HM := hide hm
    have HSELF := hide hself
    clear hBL ea eb ec hbl db dc hm hself ha ib ic
    have hgoal : ∀ (w1 : World), Fr No ((((w.alloc (.cells #[.int .u8 k, .int .i64 n, .string s, .slice A l.length cap, .int .i64 r] 27)).alloc (.cells #[.int .u8 k', .int .i64 n', .string s', .slice A' l'.length cap', .int .i64 r'] 27)).alloc (.cells #[.int .u8 k2, .int .i64 n2, .string s2, .slice A2 l2.length cap2, .int .i64 r2] 27))) w1 →
        (Blk w1 w.heap.size 27 #[.int .u8 k, .int .i64 n, .string s, .slice A l.length cap, .int .i64 r] ∧ Blk w1 (w.heap.size + 1) 27 #[.int .u8 k', .int .i64 n', .string s', .slice A' l'.length cap', .int .i64 r'] ∧ Blk w1 (w.heap.size + 1 + 1) 27 #[.int .u8 k2, .int .i64 n2, .string s2, .slice A2 l2.length cap2, .int .i64 r2] ∧
          (T.mk k n s A cap l r).Sh w1 lo hi ∧ (T.mk k' n' s' A' cap' l' r').In w1 lb hb ∧ (T.mk k2 n2 s2 A2 cap2 l2 r2).In w1 lc hc ∧ Fr No w w1 ∧ w.heap.size ≤ w1.heap.size) := fun w1 f =>
      ⟨ba.fr f fun h => h, bb.fr f fun h => h, bc.fr f fun h => h, ha0.no f, ib0.no f (by omega), ic0.no f (by omega), fr0.trans f, (fr0.trans f).size⟩
    have HG := hide hgoal
    have fr00 := Fr.refl No ((((w.alloc (.cells #[.int .u8 k, .int .i64 n, .string s, .slice A l.length cap, .int .i64 r] 27)).alloc (.cells #[.int .u8 k', .int .i64 n', .string s', .slice A' l'.length cap', .int .i64 r'] 27)).alloc (.cells #[.int .u8 k2, .int .i64 n2, .string s2, .slice A2 l2.length cap2, .int .i64 r2] 27)))
    obtain ⟨a0, a1, a2, a3, a4, -⟩ := ba.cells5
    obtain ⟨b0, b1, b2, b3, b4, -⟩ := bb.cells5
    have aq := ba.lt
    have bq := bb.lt
    clear hgoal ba bb bc ha0 ib0 ic0 fr0
    by_cases hk : k2 = 0
    · subst hk
      go_enter Try.func50, Try.ntmps50
      go_wp2_with fail
      obtain ⟨-, -, -, s0, -, -, g0, h0⟩ := HG.out _ fr00
      have hmy := refMay_any (T.mk k n s A cap l r) _ lo hi s0.inn (Nat.le_trans hh h0)
      rw [T.val_mk, HEA.out, HM.out] at hmy
      refine hmy.mono ?_
      rintro e w1 ⟨rfl, f1⟩
      clear hmy s0 g0 h0 z0 z1 z2 z3 z4 zq a0 a1 a2 a3 a4 b0 b1 b2 b3 b4 aq bq
      obtain ⟨ba1, bb1, bc1, -⟩ := HG.out w1 f1
      obtain ⟨z0, z1, z2, z3, z4, -⟩ := bc1.cells5
      obtain ⟨a0, a1, a2, a3, a4, -⟩ := ba1.cells5
      have zq := bc1.lt
      have aq := ba1.lt
      clear ba1 bb1 bc1
      go_wp2_with fail
      obtain ⟨-, -, -, s1, i1b, i1c, g1, h1⟩ := HG.out _ f1
      have hsm := refSame_any (T.mk k n s A cap l r) (T.mk 0 n2 s2 A2 cap2 l2 r2) w1 0 (w1).heap.size (T.In.more (Nat.zero_le _) (Nat.le_trans hh h1) _ s1.inn) (T.In.more (Nat.zero_le _) (Nat.le_trans hhc h1) _ i1c) (Nat.le_refl _)
      rw [T.val_mk, T.val_mk, HEA.out, HEC.out, HSELF.out] at hsm
      refine hsm.mono ?_
      rintro e w2 ⟨rfl, f2⟩
      obtain ⟨ba2, bb2, bc2, s2', i2b, i2c, g2, h2⟩ := HG.out w2 ((f1).trans f2)
      clear hsm s1 i1b i1c g1 h1 f2 z0 z1 z2 z3 z4 zq a0 a1 a2 a3 a4 aq
      obtain ⟨a0, a1, a2, a3, a4, -⟩ := ba2.cells5
      have aq := ba2.lt
      have hsp := spoil_any (T.mk k n s A cap l r) w2 lo hi s2' (Nat.le_trans hh h2) (Nat.le_trans hl h2) (by rw [HEA.out]; omega)
      rw [T.val_mk, HBL.out] at hsp
      have HSP := hide hsp
      have HB2 := hide bb2
      have HC2 := hide bc2
      have HIB := hide i2b
      have HIC := hide i2c
      have HG2 := hide g2
      clear hsp ba2 bb2 bc2 s2' i2b i2c g2
      go_wp2_with fail
      refine HSP.out.mono ?_
      rintro e w3 ⟨⟨z, rfl, hz, -⟩, f3⟩
      have hz' : (0 : Int) < (z : Int) := by omega
      clear a0 a1 a2 a3 a4 aq
      have hnb : ∀ i, w.heap.size ≤ i → ¬ i ∈ bl := fun i hi h => by have := HBLT.out i h; omega
      have bb3 := HB2.out.fr f3 (hnb _ (by omega))
      have bc3 := HC2.out.fr f3 (hnb _ (by omega))
      have i3b := HIB.out.fr f3 (Nat.le_trans hhb h2) HDB.out
      have i3c := HIC.out.fr f3 (Nat.le_trans hhc h2) HDC.out
      have hs3 := f3.size
      have HF3 := hide ((HG2.out.no (S := fun i => i ∈ bl)).trans f3)
      obtain ⟨b0, b1, b2, b3, b4, -⟩ := bb3.cells5
      obtain ⟨z0, z1, z2, z3, z4, -⟩ := bc3.cells5
      have bq := bb3.lt
      have zq := bc3.lt
      clear hnb bb3 bc3 f3
      go_wp2_with fail
      have hsm := refSame_any (T.mk k' n' s' A' cap' l' r') (T.mk 0 n2 s2 A2 cap2 l2 r2) w3 0 w3.heap.size (T.In.more (Nat.zero_le _) (by omega) _ i3b) (T.In.more (Nat.zero_le _) (by omega) _ i3c) (Nat.le_refl _)
      rw [T.val_mk, T.val_mk, HEB.out, HEC.out, HSELF.out] at hsm
      refine hsm.mono ?_
      rintro e w4 ⟨rfl, f4⟩
      go_wp2
      go_ret
      exact ⟨rfl, HF3.out.thenNo f4⟩
    · have hk' : (k2 == 0) = false := by simpa using hk
      go_enter Try.func50, Try.ntmps50
      go_wp2_with fail
      clear z0 z1 z2 z3 z4 zq a0 a1 a2 a3 a4 aq b0 b1 b2 b3 b4 bq
      generalize World.alloc (World.alloc (World.alloc w _) _) _ = W0 at *
      obtain ⟨-, -, -, s1, i1b, i1c, g1, h1⟩ := HG.out _ fr00
      have hsm := refSame_any (T.mk k n s A cap l r) (T.mk k2 n2 s2 A2 cap2 l2 r2) W0 0 (W0).heap.size (T.In.more (Nat.zero_le _) (Nat.le_trans hh h1) _ s1.inn) (T.In.more (Nat.zero_le _) (Nat.le_trans hhc h1) _ i1c) (Nat.le_refl _)
      rw [T.val_mk, T.val_mk, HEA.out, HEC.out, HSELF.out] at hsm
      refine hsm.mono ?_
      rintro e w2 ⟨rfl, f2⟩
      obtain ⟨ba2, bb2, bc2, s2', i2b, i2c, g2, h2⟩ := HG.out w2 ((fr00).trans f2)
      clear hsm s1 i1b i1c g1 h1 f2 fr00
      obtain ⟨a0, a1, a2, a3, a4, -⟩ := ba2.cells5
      have aq := ba2.lt
      have hsp := spoil_any (T.mk k n s A cap l r) w2 lo hi s2' (Nat.le_trans hh h2) (Nat.le_trans hl h2) (by rw [HEA.out]; omega)
      rw [T.val_mk, HBL.out] at hsp
      have HSP := hide hsp
      have HB2 := hide bb2
      have HC2 := hide bc2
      have HIB := hide i2b
      have HIC := hide i2c
      have HG2 := hide g2
      clear hsp ba2 bb2 bc2 s2' i2b i2c g2
      go_wp2_with fail
      refine HSP.out.mono ?_
      rintro e w3 ⟨⟨z, rfl, hz, -⟩, f3⟩
      have hz' : (0 : Int) < (z : Int) := by omega
      clear a0 a1 a2 a3 a4 aq
      have hnb : ∀ i, w.heap.size ≤ i → ¬ i ∈ bl := fun i hi h => by have := HBLT.out i h; omega
      have bb3 := HB2.out.fr f3 (hnb _ (by omega))
      have bc3 := HC2.out.fr f3 (hnb _ (by omega))
      have i3b := HIB.out.fr f3 (Nat.le_trans hhb h2) HDB.out
      have i3c := HIC.out.fr f3 (Nat.le_trans hhc h2) HDC.out
      have hs3 := f3.size
      have HF3 := hide ((HG2.out.no (S := fun i => i ∈ bl)).trans f3)
      obtain ⟨b0, b1, b2, b3, b4, -⟩ := bb3.cells5
      obtain ⟨z0, z1, z2, z3, z4, -⟩ := bc3.cells5
      have bq := bb3.lt
      have zq := bc3.lt
      clear hnb bb3 bc3 f3
      go_wp2_with fail
      have hsm := refSame_any (T.mk k' n' s' A' cap' l' r') (T.mk k2 n2 s2 A2 cap2 l2 r2) w3 0 w3.heap.size (T.In.more (Nat.zero_le _) (by omega) _ i3b) (T.In.more (Nat.zero_le _) (by omega) _ i3c) (Nat.le_refl _)
      rw [T.val_mk, T.val_mk, HEB.out, HEC.out, HSELF.out] at hsm
      refine hsm.mono ?_
      rintro e w4 ⟨rfl, f4⟩
      go_wp2
      go_ret
      exact ⟨rfl, HF3.out.thenNo f4⟩

end Go.Proofs.Ytihjmipmjogpoaa

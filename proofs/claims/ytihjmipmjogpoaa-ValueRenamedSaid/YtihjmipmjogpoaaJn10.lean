/- Texts joined: B7, B8, P5, P7, Z6, P8, Q2. -/
import Derived.Test.YtihjmipmjogpoaaJn9
import Derived.Deep.RegionHeld3
import Derived.WalkLawsBesides
import Derived.Laws.AppendOwnNone
/- Chapter 2: the document's answer: order, Order, Same. -/
namespace Go.Proofs.Ytihjmipmjogpoaa
open Go.RowKit

theorem less_total : ∀ (a b : List UInt8), Op.bytesLess a b = false → Op.bytesLess b a = false → a = b
  | [], [], _, _ => rfl
  | [], y :: b, h, _ => by simp [Op.bytesLess] at h
  | x :: a, [], _, h => by simp [Op.bytesLess] at h
  | x :: a, y :: b, h, h' => by
    simp only [Op.bytesLess, Bool.or_eq_false_iff, Bool.and_eq_false_iff, decide_eq_false_iff_not, beq_eq_false_iff_ne] at h h'
    have hxy : x = y := by
      have q1 := h.1
      have q2 := h'.1
      rw [UInt8.lt_iff_toNat_lt] at q1 q2
      exact UInt8.toNat_inj.1 (by omega)
    subst hxy
    rw [less_total a b (h.2.resolve_left (fun h => h rfl)) (h'.2.resolve_left (fun h => h rfl))]

theorem less_asymm : ∀ (a b : List UInt8), Op.bytesLess a b = true → Op.bytesLess b a = false
  | [], [], h => by simp [Op.bytesLess] at h
  | [], y :: b, _ => rfl
  | x :: a, [], h => by simp [Op.bytesLess] at h
  | x :: a, y :: b, h => by
    simp only [Op.bytesLess, Bool.or_eq_true, Bool.and_eq_true, decide_eq_true_eq, beq_iff_eq] at h
    simp only [Op.bytesLess, Bool.or_eq_false_iff, Bool.and_eq_false_iff, decide_eq_false_iff_not, beq_eq_false_iff_ne]
    rcases h with h | ⟨rfl, h⟩
    · exact ⟨UInt8.lt_asymm h, .inl fun e => by subst e; exact absurd h (UInt8.lt_irrefl _)⟩
    · exact ⟨UInt8.lt_irrefl _, .inr (less_asymm a b h)⟩

theorem fok_n {k n : Int} {s : ByteArray} {len : Nat} {r : Int} (h : fok k n s len r = true) (hk : k ≠ 1) : n = 0 := by
  rcases fok_kind h with rfl | rfl | rfl | rfl | rfl
  · simp [fok] at h; exact h.1.1.1
  · exact absurd rfl hk
  · simp [fok] at h; exact h.1.1.2
  · simp [fok] at h; exact h.1.1
  · simp [fok] at h; exact h.1.1.2
theorem fok_s {k n : Int} {s : ByteArray} {len : Nat} {r : Int} (h : fok k n s len r = true) (hk : k ≠ 2) : s.toList = [] := by
  rcases fok_kind h with rfl | rfl | rfl | rfl | rfl
  · simp [fok] at h; exact h.1.1.2
  · simp [fok] at h; exact h.1.1
  · exact absurd rfl hk
  · simp [fok] at h; exact h.1.2
  · simp [fok] at h; exact h.1.2
theorem fok_r {k n : Int} {s : ByteArray} {len : Nat} {r : Int} (h : fok k n s len r = true) (hk : k ≠ 4) : r = 0 := by
  rcases fok_kind h with rfl | rfl | rfl | rfl | rfl
  · simp [fok] at h; exact h.1.2
  · simp [fok] at h; exact h.1.2
  · simp [fok] at h; exact h.1.2
  · simp [fok] at h; exact h.2
  · exact absurd rfl hk

section
variable {k n n' : Int} {s s' : ByteArray} {l l' : List V} {r r' : Int} (hu : fok k n s l.length r = true) (hv : fok k n' s' l'.length r' = true)
include hu hv
theorem ord_part (a b : Bool) (ha : a = (decide (n < n') || Op.bytesLess s.toList s'.toList || decide (r < r'))) (hb : b = (decide (n' < n) || Op.bytesLess s'.toList s.toList || decide (r' < r))) :
    (k = 0 ∨ k = 3 → a = false ∧ b = false) ∧ (k = 1 → a = decide (n < n') ∧ b = decide (n' < n)) ∧ (k = 2 → a = Op.bytesLess s.toList s'.toList ∧ b = Op.bytesLess s'.toList s.toList) ∧ (k = 4 → a = decide (r < r') ∧ b = decide (r' < r)) := by
  subst ha hb
  have hn : k ≠ 1 → n = 0 ∧ n' = 0 := fun h => ⟨fok_n hu h, fok_n hv h⟩
  have hs : k ≠ 2 → s.toList = [] ∧ s'.toList = [] := fun h => ⟨fok_s hu h, fok_s hv h⟩
  have hr : k ≠ 4 → r = 0 ∧ r' = 0 := fun h => ⟨fok_r hu h, fok_r hv h⟩
  refine ⟨fun h => ?_, fun h => ?_, fun h => ?_, fun h => ?_⟩
  · obtain ⟨e1, e2⟩ := hn (by omega)
    obtain ⟨e3, e4⟩ := hs (by omega)
    obtain ⟨e5, e6⟩ := hr (by omega)
    rw [e1, e2, e3, e4, e5, e6]; exact ⟨rfl, rfl⟩
  · obtain ⟨e3, e4⟩ := hs (by omega)
    obtain ⟨e5, e6⟩ := hr (by omega)
    rw [e3, e4, e5, e6]; simp [Op.bytesLess]
  · obtain ⟨e1, e2⟩ := hn (by omega)
    obtain ⟨e5, e6⟩ := hr (by omega)
    rw [e1, e2, e5, e6]; simp
  · obtain ⟨e1, e2⟩ := hn (by omega)
    obtain ⟨e3, e4⟩ := hs (by omega)
    rw [e1, e2, e3, e4]; simp [Op.bytesLess]

theorem ord_low (h : n < n' ∨ Op.bytesLess s.toList s'.toList = true ∨ r < r') : (V.mk k n s l r).ord (V.mk k n' s' l' r') = -1 := by
  obtain ⟨p0, p1, p2, p4⟩ := ord_part hu hv true _ (by rcases h with h | h | h <;> simp [h]) rfl
  rw [V.ord_mk, ordOf, if_pos rfl]
  rcases fok_kind hu with rfl | rfl | rfl | rfl | rfl
  · exact absurd (p0 (.inl rfl)).1 (by decide)
  · have := (p1 rfl).1; rw [if_pos rfl, cmpI, if_pos (by simpa using this.symm)]
  · have := (p2 rfl).1; rw [if_neg (by decide), if_pos rfl, cmpS, if_pos this.symm]
  · exact absurd (p0 (.inr rfl)).1 (by decide)
  · have := (p4 rfl).1; rw [if_neg (by decide), if_neg (by decide), if_pos rfl, cmpI, if_pos (by simpa using this.symm)]

theorem ord_high (h : n' < n ∨ Op.bytesLess s'.toList s.toList = true ∨ r' < r) : (V.mk k n s l r).ord (V.mk k n' s' l' r') = 1 := by
  obtain ⟨p0, p1, p2, p4⟩ := ord_part hu hv _ true rfl (by rcases h with h | h | h <;> simp [h])
  rw [V.ord_mk, ordOf, if_pos rfl]
  rcases fok_kind hu with rfl | rfl | rfl | rfl | rfl
  · exact absurd (p0 (.inl rfl)).2 (by decide)
  · have h1 : n' < n := by simpa using (p1 rfl).2.symm
    rw [if_pos rfl, cmpI, if_neg (by omega), if_pos h1]
  · have h1 := (p2 rfl).2.symm
    have h2 := less_asymm _ _ h1
    rw [if_neg (by decide), if_pos rfl, cmpS, h2, if_neg (by decide), if_neg]
    intro h3
    rw [beq_iff_eq] at h3
    rw [h3, less_self] at h1
    cases h1
  · exact absurd (p0 (.inr rfl)).2 (by decide)
  · have h1 : r' < r := by simpa using (p4 rfl).2.symm
    rw [if_neg (by decide), if_neg (by decide), if_pos rfl, cmpI, if_neg (by omega), if_pos h1]

theorem ord_list (h1 : ¬ (n < n' ∨ Op.bytesLess s.toList s'.toList = true ∨ r < r')) (h2 : ¬ (n' < n ∨ Op.bytesLess s'.toList s.toList = true ∨ r' < r)) : (V.mk k n s l r).ord (V.mk k n' s' l' r') = ordL (l.map V.ord) l' := by
  rw [V.ord_mk, ordOf, if_pos rfl]
  have hl0 : k ≠ 3 → l = [] ∧ l' = [] := fun h => ⟨List.eq_nil_of_length_eq_zero (fok_len h hu), List.eq_nil_of_length_eq_zero (fok_len h hv)⟩
  rcases fok_kind hu with rfl | rfl | rfl | rfl | rfl
  · rw [if_neg (by decide), if_neg (by decide), if_neg (by decide)]
  · obtain ⟨rfl, rfl⟩ := hl0 (by decide)
    rw [if_pos rfl, cmpI, if_neg (by omega), if_neg (by omega)]; rfl
  · obtain ⟨rfl, rfl⟩ := hl0 (by decide)
    have e : s.toList = s'.toList := less_total _ _ (by simpa using fun h => h1 (.inr (.inl h))) (by simpa using fun h => h2 (.inr (.inl h)))
    rw [if_neg (by decide), if_pos rfl, cmpS, e, less_self]; simp [ordL]
  · rw [if_neg (by decide), if_neg (by decide), if_neg (by decide)]
  · obtain ⟨rfl, rfl⟩ := hl0 (by decide)
    rw [if_neg (by decide), if_neg (by decide), if_pos rfl, cmpI, if_neg (by omega), if_neg (by omega)]; rfl
end

theorem ordL_end {fs : List (V → Int)} {vs : List V} {j : Nat} (hj : j = fs.length ∨ j = vs.length) (hz : EqTo fs vs j) : ordL fs vs = if fs.length < vs.length then -1 else if vs.length < fs.length then 1 else 0 := by
  rcases Nat.lt_trichotomy fs.length vs.length with h | h | h
  · rw [if_pos h]
    rw [ordL_done (by omega) (fun i f v hi => hz i f v (by rcases hj with rfl | rfl <;> omega)), if_pos h]
  · rw [if_neg (by omega), if_neg (by omega)]
    rw [ordL_done (by omega) (fun i f v hi => hz i f v (by rcases hj with rfl | rfl <;> omega)), if_neg (by omega)]
  · rw [if_neg (by omega), if_pos h]
    exact ordL_more h (fun i f v hi => hz i f v (by rcases hj with rfl | rfl <;> omega))

set_option maxRecDepth 100000 in
set_option maxHeartbeats 8000000 in
theorem reforder_any (t : T) : ∀ (t' : T) (w : World) (lo hi lo' hi' : Nat), t.In w lo hi → hi ≤ w.heap.size → t'.In w lo' hi' → hi' ≤ w.heap.size → t.v.ok = true → t'.v.ok = true →
    Calls Try.prog 131 #[t.val, t'.val] w fun e w' => e = .returned (.int .i64 (t.v.ord t'.v)) ∧ Fr No w w' := by
  induction t using T.ind with
  | h k n s A cap l r ih =>
    intro t' w lo hi lo' hi' ht hh ht' hh' hok hok'
    cases t' with
    | mk k' n' s' A' cap' l' r' =>
      rw [T.val_mk, T.val_mk]
      have fr2 := ((Fr.refl No w).alloc (.cells #[.int .u8 k, .int .i64 n, .string s, .slice A l.length cap, .int .i64 r] 27)).alloc (.cells #[.int .u8 k', .int .i64 n', .string s', .slice A' l'.length cap', .int .i64 r'] 27)
      rw [T.v_mk] at hok hok' ⊢
      rw [T.v_mk]
      rw [V.ok_mk, Bool.and_eq_true, List.all_eq_true] at hok hok'
      have hlen := (T.in_mk.1 ht).1.len1
      have hlen' := (T.in_mk.1 ht').1.len1
      by_cases hk : k = k'
      case neg =>
        have hk' : (k != k') = true := by simpa using hk
        have e : (V.mk k n s (l.map T.v) r).ord (V.mk k' n' s' (l'.map T.v) r') = if k < k' then -1 else 1 := by
          rw [V.ord_mk, ordOf, if_neg hk, cmpI]
          split
          · rfl
          · rw [if_pos (by omega)]
        rw [e]
        clear ih hok hok' e ht ht'
        by_cases hlt : k < k'
        · rw [if_pos hlt]
          go_enter Try.func131, Try.ntmps131
          go_wp2
          go_ret
          exact ⟨rfl, fr2⟩
        · rw [if_neg hlt]
          go_enter Try.func131, Try.ntmps131
          go_wp2
          go_ret
          exact ⟨rfl, fr2⟩
      subst hk
      by_cases h1 : n < n' ∨ Op.bytesLess s.toList s'.toList = true ∨ r < r'
      · rw [ord_low hok.1 hok'.1 h1]
        clear ih hok hok' ht ht'
        by_cases a1 : n < n'
        · go_enter Try.func131, Try.ntmps131
          go_wp2
          go_ret
          exact ⟨rfl, fr2⟩
        cases a2 : Op.bytesLess s.toList s'.toList with
        | true =>
          clear h1
          go_enter Try.func131, Try.ntmps131
          go_wp2
          go_ret
          exact ⟨rfl, fr2⟩
        | false =>
          have a3 : r < r' := by rcases h1 with h | h | h; exact absurd h a1; rw [a2] at h; cases h; exact h
          clear h1
          go_enter Try.func131, Try.ntmps131
          go_wp2
          go_ret
          exact ⟨rfl, fr2⟩
      have b1 : ¬ n < n' := fun h => h1 (.inl h)
      have b2 : Op.bytesLess s.toList s'.toList = false := by simpa using fun h => h1 (.inr (.inl h))
      have b3 : ¬ r < r' := fun h => h1 (.inr (.inr h))
      by_cases h2 : n' < n ∨ Op.bytesLess s'.toList s.toList = true ∨ r' < r
      · rw [ord_high hok.1 hok'.1 h2]
        clear ih hok hok' ht ht' h1
        by_cases a1 : n' < n
        · go_enter Try.func131, Try.ntmps131
          go_wp2
          go_ret
          exact ⟨rfl, fr2⟩
        cases a2 : Op.bytesLess s'.toList s.toList with
        | true =>
          have a4 : (s.toList == s'.toList) = false := by
            simp only [beq_eq_false_iff_ne]
            intro h3
            rw [h3, less_self] at a2
            cases a2
          have a5 : ¬ s.toList = s'.toList := by simpa using a4
          clear h2
          go_enter Try.func131, Try.ntmps131
          go_wp2
          go_ret
          exact ⟨rfl, fr2⟩
        | false =>
          have a3 : r' < r := by rcases h2 with h | h | h; exact absurd h a1; rw [a2] at h; cases h; exact h
          obtain rfl : s = s' := bytes_ext (less_total _ _ b2 a2)
          clear h2
          go_enter Try.func131, Try.ntmps131
          go_wp2
          go_ret
          exact ⟨rfl, fr2⟩
      have d1 : ¬ n' < n := fun h => h2 (.inl h)
      have d2 : Op.bytesLess s'.toList s.toList = false := by simpa using fun h => h2 (.inr (.inl h))
      have d3 : ¬ r' < r := fun h => h2 (.inr (.inr h))
      have hE := ord_list hok.1 hok'.1 h1 h2
      obtain rfl : s = s' := bytes_ext (less_total _ _ b2 d2)
      have HE := hide hE
      have HOK := hide hok.2
      have HOK' := hide hok'.2
      clear h1 h2 hE hok hok'
      have hK0 := (Blk.new' w 27 #[.int .u8 k, .int .i64 n, .string s, .slice A l.length cap, .int .i64 r] rfl).alloc (.cells #[.int .u8 k, .int .i64 n', .string s, .slice A' l'.length cap', .int .i64 r'] 27)
      have hV0 := Blk.new' (w.alloc (.cells #[.int .u8 k, .int .i64 n, .string s, .slice A l.length cap, .int .i64 r] 27)) 27 #[.int .u8 k, .int .i64 n', .string s, .slice A' l'.length cap', .int .i64 r'] (g := w.heap.size + 1) (by simp)
      go_enter Try.func131, Try.ntmps131
      go_wp2_with fail
      go_loopw [5, 6] (fun i _ wr => ∃ j : Nat, j ≤ l.length ∧ j ≤ l'.length ∧ i = .int .i64 j ∧ Fr No ((w.alloc (.cells #[.int .u8 k, .int .i64 n, .string s, .slice A l.length cap, .int .i64 r] 27)).alloc (.cells #[.int .u8 k, .int .i64 n', .string s, .slice A' l'.length cap', .int .i64 r'] 27)) wr ∧ EqTo ((l.map T.v).map V.ord) (l'.map T.v) j) (fun i _ _ => l.length - (intOf i).toNat)
      case atStart =>
        exact ⟨0, Nat.zero_le _, Nat.zero_le _, rfl, Fr.refl _ _, EqTo.zero _ _⟩
      case round =>
        obtain ⟨j, hj, hj', rfl, fr, hsame⟩ := hrel
        have hK := hK0.fr fr fun h => h
        have hV := hV0.fr fr fun h => h
        have frw := fr2.trans fr
        have hszr := fr.size
        simp at hszr
        obtain ⟨c0, c1, c2, c3, c4, cf⟩ := hK.cells5
        obtain ⟨f0, f1, f2, f3, f4, ff⟩ := hV.cells5
        have g2 : w.heap.size < wr.heap.size := by omega
        have g3 : w.heap.size + 1 < wr.heap.size := by omega
        by_cases hboth : j < l.length ∧ j < l'.length
        · obtain ⟨hlt, hlt'⟩ := hboth
          obtain ⟨b, o, k1, n1, s1, A1, cap1, l1, r1, rfl, hb0, hb1, hx, hin, e0, e1, e2, e3, e4⟩ := T.elem (ht.no frw hh) hlt
          obtain ⟨b', o', k2, n2, s2, A2, cap2, l2, r2, rfl, hb0', hb1', hx', hin', m0, m1, m2, m3, m4⟩ := T.elem (ht'.no frw hh') hlt'
          have IH := ih l[j] (List.getElem_mem hlt) l'[j]
          rw [hx, hx', T.val_mk, T.val_mk] at IH
          have hr := ord_range (T.mk k1 n1 s1 A1 cap1 l1 r1).v (T.mk k2 n2 s2 A2 cap2 l2 r2).v
          have hok1 : (T.mk k1 n1 s1 A1 cap1 l1 r1).v.ok = true := by rw [← hx]; exact HOK.out _ (List.mem_map_of_mem (List.getElem_mem hlt))
          have hok2 : (T.mk k2 n2 s2 A2 cap2 l2 r2).v.ok = true := by rw [← hx']; exact HOK'.out _ (List.mem_map_of_mem (List.getElem_mem hlt'))
          have hfj : ((l.map T.v).map V.ord)[j]? = some (T.mk k1 n1 s1 A1 cap1 l1 r1).v.ord := by
            rw [List.getElem?_map, List.getElem?_map, List.getElem?_eq_getElem hlt, hx]; rfl
          have hvj : (l'.map T.v)[j]? = some (T.mk k2 n2 s2 A2 cap2 l2 r2).v := by
            rw [List.getElem?_map, List.getElem?_eq_getElem hlt', hx']; rfl
          generalize (T.mk k1 n1 s1 A1 cap1 l1 r1).v = u1 at *
          generalize (T.mk k2 n2 s2 A2 cap2 l2 r2).v = u2 at *
          have g0 : b < wr.heap.size := by omega
          have g1 : b' < wr.heap.size := by omega
          have hh0 : hi ≤ wr.heap.size := by omega
          have hh1 : hi' ≤ wr.heap.size := by omega
          have IH2 := fun w1 (f : Fr No wr w1) => IH w1 lo hi lo' hi' (hin.no f hh0) (Nat.le_trans hh0 f.size) (hin'.no f hh1) (Nat.le_trans hh1 f.size) hok1 hok2
          have HIH := hide IH2
          have HFJ := hide hfj
          have HVJ := hide hvj
          have HF := hide fr
          have HW := hide frw
          have HS := hide hsame
          clear hx hx' ih hK hV fr frw fr2 hsame IH IH2 hfj hvj hok1 hok2 hin hin' ht ht' hK0 hV0
          generalize hcc : u1.ord u2 = c at *
          have HCC := hide hcc
          clear hcc
          go_wp2_with fail
          go_region_held3 (fun w' => (∀ c i, c < wr.heap.size → w'.cell? ⟨c, i, none⟩ = wr.cell? ⟨c, i, none⟩) ∧ Fr No wr w')
            (first | exact ⟨fun _ _ _ => rfl, Fr.drew (Fr.refl No wr)⟩ | (have hq : Fr No wr _ := (‹_ ∧ Fr No wr _›).2.trans ‹Fr No _ _›; exact ⟨hq.cells, hq⟩))
            (first
              | (go_at_call 131; have hs0 := (‹_ ∧ Fr No wr _›).2; ((with_reducible refine (HIH.out _ ?_).mono ?_); (exact hs0); rintro e w2 ⟨rfl, fr1⟩)))
          have hF2 := (‹_ ∧ Fr No wr _›).2
          have HF2 := hide hF2
          rcases hr with rfl | rfl | rfl
          · have hP := ordL_at HS.out HFJ.out HVJ.out (by rw [HCC.out]; decide)
            rw [HCC.out] at hP
            have HP := hide hP
            clear hP
            go_wp2
            go_ret
            exact ⟨by rw [HE.out, HP.out]; rfl, HW.out.trans HF2.out⟩
          · go_wp2
            go_roundw
            case rel => exact ⟨j + 1, hlt, hlt', by go_num, HF.out.trans HF2.out, HS.out.succ HFJ.out HVJ.out HCC.out⟩
            case measure => simp [intOf]; omega
          · have hP := ordL_at HS.out HFJ.out HVJ.out (by rw [HCC.out]; decide)
            rw [HCC.out] at hP
            have HP := hide hP
            clear hP
            go_wp2
            go_ret
            exact ⟨by rw [HE.out, HP.out]; rfl, HW.out.trans HF2.out⟩
        · have hend : ordL ((l.map T.v).map V.ord) (l'.map T.v) = if l.length < l'.length then -1 else if l'.length < l.length then 1 else 0 := by
            have := ordL_end (fs := (l.map T.v).map V.ord) (vs := l'.map T.v) (j := j) (by simp; omega) hsame
            simpa using this
          have HN := hide hend
          have HW := hide frw
          clear hend ih frw fr fr2 hsame hK hV
          rcases Nat.lt_trichotomy l.length l'.length with h | h | h
          · obtain rfl : j = l.length := by omega
            clear hboth
            go_wp2
            go_ret
            exact ⟨by rw [HE.out, HN.out, if_pos h]; rfl, HW.out⟩
          · obtain rfl : j = l.length := by omega
            have h3 : ¬ l.length < l'.length := by omega
            have h4 : ¬ l'.length < l.length := by omega
            have HH := hide h
            clear h hboth
            go_wp2
            go_ret
            exact ⟨by rw [HE.out, HN.out, if_neg h3, if_neg h4]; rfl, HW.out⟩
          · obtain rfl : j = l'.length := by omega
            have h3 : ¬ l.length < l'.length := by omega
            clear hboth
            go_wp2
            go_ret
            exact ⟨by rw [HE.out, HN.out, if_neg h3, if_pos h]; rfl, HW.out⟩

end Go.Proofs.Ytihjmipmjogpoaa

/- Chapter 2: the document's answer: Order, Same. -/
namespace Go.Proofs.Ytihjmipmjogpoaa
open Go.RowKit

set_option maxRecDepth 100000 in
set_option maxHeartbeats 4000000 in
/-- The document's Order. -/
theorem refOrder_any (a b : T) (w : World) (lo hi : Nat) (ha : a.In w lo hi) (hb : b.In w lo hi) (hh : hi ≤ w.heap.size) :
    Calls Try.prog 75 #[a.val, b.val] w fun e w' => e = .returned (.tuple #[.int .i64 (if (a.v.may && b.v.may) = true then a.v.ord b.v else 0), .int .i64 (if (a.v.may && b.v.may) = true then 0 else 2)]) ∧ Fr No w w' := by
  have hMa := fun w' h h' => refMay_any a w' lo hi h h'
  have hMb := fun w' h h' => refMay_any b w' lo hi h h'
  have hO := fun w' h h' h'' o o' => reforder_any a b w' lo hi lo hi h h'' h' h'' o o'
  cases a with
  | mk k n s A cap l r =>
  cases b with
  | mk k' n' s' A' cap' l' r' =>
    rw [T.val_mk] at *
    rw [T.val_mk] at *
    generalize hu : (T.mk k n s A cap l r).v = u at *
    generalize hv : (T.mk k' n' s' A' cap' l' r').v = v at *
    have fr1 := ((Fr.refl No w).alloc (.cells #[.int .u8 k, .int .i64 n, .string s, .slice A l.length cap, .int .i64 r] 27)).alloc (.cells #[.int .u8 k', .int .i64 n', .string s', .slice A' l'.length cap', .int .i64 r'] 27)
    have hK := (Blk.new' w 27 #[.int .u8 k, .int .i64 n, .string s, .slice A l.length cap, .int .i64 r] rfl).alloc (.cells #[.int .u8 k', .int .i64 n', .string s', .slice A' l'.length cap', .int .i64 r'] 27)
    have hV := Blk.new' (w.alloc (.cells #[.int .u8 k, .int .i64 n, .string s, .slice A l.length cap, .int .i64 r] 27)) 27 #[.int .u8 k', .int .i64 n', .string s', .slice A' l'.length cap', .int .i64 r'] (g := w.heap.size + 1) (by simp)
    have ha1 := ha.no fr1 hh
    have hb1 := hb.no fr1 hh
    have hs1 := Nat.le_trans hh fr1.size
    have HU := hide hu
    have HV := hide hv
    clear hu hv ha hb
    cases hma : u.may with
    | false =>
      rw [hma] at hMa
      simp only [Bool.false_and, Bool.false_eq_true, if_false]
      clear hma
      go_enter Try.func75, Try.ntmps75
      go_wp2_with fail
      refine (hMa _ ha1 hs1).mono ?_
      rintro e w2 ⟨rfl, fr2⟩
      go_wp2
      go_ret2
      exact ⟨rfl, fr1.trans fr2⟩
    | true =>
      rw [hma] at hMa
      cases hmb : v.may with
      | false =>
        rw [hmb] at hMb
        simp only [Bool.and_false, Bool.false_eq_true, if_false]
        clear hma hmb
        go_enter Try.func75, Try.ntmps75
        go_wp2_with fail
        generalize World.alloc _ _ = W0 at *
        refine (hMa _ ha1 hs1).mono ?_
        rintro e w2 ⟨rfl, fr2⟩
        obtain ⟨v0, v1, v2, v3, v4, -⟩ := (hV.fr fr2 fun h => h).cells5
        have hb2 := hb1.no fr2 hs1
        have hs2 := Nat.le_trans hs1 fr2.size
        have HF := hide (fr1.trans fr2)
        clear fr1 fr2 hK hV
        go_wp2_with fail
        refine (hMb _ hb2 hs2).mono ?_
        rintro e w3 ⟨rfl, fr3⟩
        go_wp2
        go_ret2
        exact ⟨rfl, HF.out.trans fr3⟩
      | true =>
        rw [hmb] at hMb
        simp only [Bool.and_true, if_true]
        have hO := fun w' h h' h'' => hO w' h h' h'' (may_ok hma) (may_ok hmb)
        generalize u.ord v = c at *
        clear hma hmb
        go_enter Try.func75, Try.ntmps75
        go_wp2_with fail
        generalize World.alloc _ _ = W0 at *
        refine (hMa _ ha1 hs1).mono ?_
        rintro e w2 ⟨rfl, fr2⟩
        have hK2 := hK.fr fr2 fun h => h
        have hV2 := hV.fr fr2 fun h => h
        obtain ⟨v0, v1, v2, v3, v4, -⟩ := hV2.cells5
        have ha2 := ha1.no fr2 hs1
        have hb2 := hb1.no fr2 hs1
        have hs2 := Nat.le_trans hs1 fr2.size
        have HF := hide (fr1.trans fr2)
        clear fr1 fr2 hK hV
        go_wp2_with fail
        refine (hMb _ hb2 hs2).mono ?_
        rintro e w3 ⟨rfl, fr3⟩
        clear v0 v1 v2 v3 v4
        obtain ⟨v0, v1, v2, v3, v4, -⟩ := (hV2.fr fr3 fun h => h).cells5
        obtain ⟨c0, c1, c2, c3, c4, -⟩ := (hK2.fr fr3 fun h => h).cells5
        have ha3 := ha2.no fr3 hs2
        have hb3 := hb2.no fr3 hs2
        have hs3 := Nat.le_trans hs2 fr3.size
        have HF3 := hide (HF.out.trans fr3)
        clear fr3 hK2 hV2
        go_wp2_with fail
        refine (hO _ ha3 hb3 hs3).mono ?_
        rintro e w4 ⟨rfl, fr4⟩
        go_wp2
        go_ret2
        exact ⟨rfl, HF3.out.trans fr4⟩

/-- The document's Same. -/
theorem refSame_any (a b : T) (w : World) (lo hi : Nat) (ha : a.In w lo hi) (hb : b.In w lo hi) (hh : hi ≤ w.heap.size) : Calls Try.prog 43 #[a.val, b.val] w fun e w' => e = .returned (.bool (a.v.same2 b.v)) ∧ Fr No w w' := by
  have hO := fun w' h h' h'' => refOrder_any a b w' lo hi h h' h''
  have hr := ord_range a.v b.v
  cases a with
  | mk k n s A cap l r =>
  cases b with
  | mk k' n' s' A' cap' l' r' =>
    rw [T.val_mk] at *
    rw [T.val_mk] at *
    generalize hu : (T.mk k n s A cap l r).v = u at *
    generalize hv : (T.mk k' n' s' A' cap' l' r').v = v at *
    have fr1 := ((Fr.refl No w).alloc (.cells #[.int .u8 k, .int .i64 n, .string s, .slice A l.length cap, .int .i64 r] 27)).alloc (.cells #[.int .u8 k', .int .i64 n', .string s', .slice A' l'.length cap', .int .i64 r'] 27)
    have ha1 := ha.no fr1 hh
    have hb1 := hb.no fr1 hh
    have hs1 := Nat.le_trans hh fr1.size
    have HU := hide hu
    have HV := hide hv
    clear hu hv ha hb
    have hcase : ∃ (c d : Int) (q : Bool), (if (u.may && v.may) = true then u.ord v else 0) = c ∧ (if (u.may && v.may) = true then (0 : Int) else 2) = d ∧ u.same2 v = q ∧ ((d = 2 ∧ q = false) ∨ (d = 0 ∧ c = 0 ∧ q = true) ∨ (d = 0 ∧ (c = -1 ∨ c = 1) ∧ q = false)) := by
      refine ⟨_, _, _, rfl, rfl, rfl, ?_⟩
      unfold V.same2
      cases u.may
      · simp
      cases v.may
      · simp
      simp
      omega
    obtain ⟨c, d, q, h1, h2, h3, h4⟩ := hcase
    rw [h1, h2] at hO
    rw [h3]
    clear h1 h2 h3 hr
    rcases h4 with ⟨rfl, rfl⟩ | ⟨rfl, rfl, rfl⟩ | ⟨rfl, rfl | rfl, rfl⟩
    all_goals
      go_enter Try.func43, Try.ntmps43
      go_wp2_with fail
      refine (hO _ ha1 hb1 hs1).mono ?_
      rintro e w2 ⟨rfl, fr2⟩
      go_wp2
      go_ret
      exact ⟨rfl, fr1.trans fr2⟩

end Go.Proofs.Ytihjmipmjogpoaa

/- Chapter 2: the law's own held: are both answers the value that it must be? Then the one is written over. -/
namespace Go.Proofs.Ytihjmipmjogpoaa
open Go.RowKit

set_option maxRecDepth 100000 in
set_option maxHeartbeats 8000000 in
theorem held_any (a b c : T) (u : V) (w : World) (lo hi lb hb lc hc : Nat) (ha : a.Sh w lo hi) (hh : hi ≤ w.heap.size) (hl : lo ≤ w.heap.size) (ib : b.In w lb hb) (hhb : hb ≤ w.heap.size) (db : ∀ i, lb ≤ i → i < hb → i ∉ a.blocks) (ic : c.In w lc hc) (hhc : hc ≤ w.heap.size) (dc : ∀ i, lc ≤ i → i < hc → i ∉ a.blocks)
    (ea : a.v = u) (eb : b.v = u) (ec : c.v = u) (hm : u.may = true) : Calls Try.prog 50 #[a.val, b.val, c.val] w fun e w' => e = .returned (.bool true) ∧ Fr (fun i => i ∈ a.blocks) w w' := by
  have hsz : u.size ≤ 512 := by simp [V.may, V.fits] at hm; omega
  have hbl : ∀ i ∈ a.blocks, i < w.heap.size := fun i hi => by have := T.In.blocks a ha.inn i hi; omega
  generalize hBL : a.blocks = bl at *
  cases a with
  | mk k n s A cap l r =>
  cases b with
  | mk k' n' s' A' cap' l' r' =>
  cases c with
  | mk k2 n2 s2 A2 cap2 l2 r2 =>
    rw [T.val_mk, T.val_mk, T.val_mk]
    have fr0 := (((Fr.refl No w).alloc (.cells #[.int .u8 k, .int .i64 n, .string s, .slice A l.length cap, .int .i64 r] 27)).alloc (.cells #[.int .u8 k', .int .i64 n', .string s', .slice A' l'.length cap', .int .i64 r'] 27)).alloc (.cells #[.int .u8 k2, .int .i64 n2, .string s2, .slice A2 l2.length cap2, .int .i64 r2] 27)
    have ba := ((Blk.new w 27 #[.int .u8 k, .int .i64 n, .string s, .slice A l.length cap, .int .i64 r]).alloc (.cells #[.int .u8 k', .int .i64 n', .string s', .slice A' l'.length cap', .int .i64 r'] 27)).alloc (.cells #[.int .u8 k2, .int .i64 n2, .string s2, .slice A2 l2.length cap2, .int .i64 r2] 27)
    have bb := (Blk.new' (w.alloc (.cells #[.int .u8 k, .int .i64 n, .string s, .slice A l.length cap, .int .i64 r] 27)) 27 #[.int .u8 k', .int .i64 n', .string s', .slice A' l'.length cap', .int .i64 r'] (g := w.heap.size + 1) (by simp)).alloc (.cells #[.int .u8 k2, .int .i64 n2, .string s2, .slice A2 l2.length cap2, .int .i64 r2] 27)
    have bc := Blk.new' ((w.alloc (.cells #[.int .u8 k, .int .i64 n, .string s, .slice A l.length cap, .int .i64 r] 27)).alloc (.cells #[.int .u8 k', .int .i64 n', .string s', .slice A' l'.length cap', .int .i64 r'] 27)) 27 #[.int .u8 k2, .int .i64 n2, .string s2, .slice A2 l2.length cap2, .int .i64 r2] (g := w.heap.size + 1 + 1) (by simp)
    obtain ⟨z0, z1, z2, z3, z4, -⟩ := bc.cells5
    have zq := bc.lt
    have ha0 := ha.no fr0
    have ib0 := ib.no fr0 hhb
    have ic0 := ic.no fr0 hhc
    have hs0 := fr0.size
    have HBL := hide hBL
    have HEA := hide ea
    have HEB := hide eb
    have HEC := hide ec
    have HBLT := hide hbl
    have HDB := hide db
    have HDC := hide dc
    have hself := same2_self hm
    have HM := hide hm
    have HSELF := hide hself
    clear hBL ea eb ec hbl db dc hm hself ha ib ic
    have hgoal : ∀ (w1 : World), Fr No ((((w.alloc (.cells #[.int .u8 k, .int .i64 n, .string s, .slice A l.length cap, .int .i64 r] 27)).alloc (.cells #[.int .u8 k', .int .i64 n', .string s', .slice A' l'.length cap', .int .i64 r'] 27)).alloc (.cells #[.int .u8 k2, .int .i64 n2, .string s2, .slice A2 l2.length cap2, .int .i64 r2] 27))) w1 →
        (Blk w1 w.heap.size 27 #[.int .u8 k, .int .i64 n, .string s, .slice A l.length cap, .int .i64 r] ∧ Blk w1 (w.heap.size + 1) 27 #[.int .u8 k', .int .i64 n', .string s', .slice A' l'.length cap', .int .i64 r'] ∧ Blk w1 (w.heap.size + 1 + 1) 27 #[.int .u8 k2, .int .i64 n2, .string s2, .slice A2 l2.length cap2, .int .i64 r2] ∧
          (T.mk k n s A cap l r).Sh w1 lo hi ∧ (T.mk k' n' s' A' cap' l' r').In w1 lb hb ∧ (T.mk k2 n2 s2 A2 cap2 l2 r2).In w1 lc hc ∧ Fr No w w1 ∧ w.heap.size ≤ w1.heap.size) := fun w1 f =>
      ⟨ba.fr f fun h => h, bb.fr f fun h => h, bc.fr f fun h => h, ha0.no f, ib0.no f (by omega), ic0.no f (by omega), fr0.trans f, (fr0.trans f).size⟩
    have HG := hide hgoal
    have fr00 := Fr.refl No ((((w.alloc (.cells #[.int .u8 k, .int .i64 n, .string s, .slice A l.length cap, .int .i64 r] 27)).alloc (.cells #[.int .u8 k', .int .i64 n', .string s', .slice A' l'.length cap', .int .i64 r'] 27)).alloc (.cells #[.int .u8 k2, .int .i64 n2, .string s2, .slice A2 l2.length cap2, .int .i64 r2] 27)))
    obtain ⟨a0, a1, a2, a3, a4, -⟩ := ba.cells5
    obtain ⟨b0, b1, b2, b3, b4, -⟩ := bb.cells5
    have aq := ba.lt
    have bq := bb.lt
    clear hgoal ba bb bc ha0 ib0 ic0 fr0
    by_cases hk : k2 = 0
    · subst hk
      go_enter Try.func50, Try.ntmps50
      go_wp2_with fail
      obtain ⟨-, -, -, s0, -, -, g0, h0⟩ := HG.out _ fr00
      have hmy := refMay_any (T.mk k n s A cap l r) _ lo hi s0.inn (Nat.le_trans hh h0)
      rw [T.val_mk, HEA.out, HM.out] at hmy
      refine hmy.mono ?_
      rintro e w1 ⟨rfl, f1⟩
      clear hmy s0 g0 h0 z0 z1 z2 z3 z4 zq a0 a1 a2 a3 a4 b0 b1 b2 b3 b4 aq bq
      obtain ⟨ba1, bb1, bc1, -⟩ := HG.out w1 f1
      obtain ⟨z0, z1, z2, z3, z4, -⟩ := bc1.cells5
      obtain ⟨a0, a1, a2, a3, a4, -⟩ := ba1.cells5
      have zq := bc1.lt
      have aq := ba1.lt
      clear ba1 bb1 bc1
      go_wp2_with fail
      obtain ⟨-, -, -, s1, i1b, i1c, g1, h1⟩ := HG.out _ f1
      have hsm := refSame_any (T.mk k n s A cap l r) (T.mk 0 n2 s2 A2 cap2 l2 r2) w1 0 (w1).heap.size (T.In.more (Nat.zero_le _) (Nat.le_trans hh h1) _ s1.inn) (T.In.more (Nat.zero_le _) (Nat.le_trans hhc h1) _ i1c) (Nat.le_refl _)
      rw [T.val_mk, T.val_mk, HEA.out, HEC.out, HSELF.out] at hsm
      refine hsm.mono ?_
      rintro e w2 ⟨rfl, f2⟩
      obtain ⟨ba2, bb2, bc2, s2', i2b, i2c, g2, h2⟩ := HG.out w2 ((f1).trans f2)
      clear hsm s1 i1b i1c g1 h1 f2 z0 z1 z2 z3 z4 zq a0 a1 a2 a3 a4 aq
      obtain ⟨a0, a1, a2, a3, a4, -⟩ := ba2.cells5
      have aq := ba2.lt
      have hsp := spoil_any (T.mk k n s A cap l r) w2 lo hi s2' (Nat.le_trans hh h2) (Nat.le_trans hl h2) (by rw [HEA.out]; omega)
      rw [T.val_mk, HBL.out] at hsp
      have HSP := hide hsp
      have HB2 := hide bb2
      have HC2 := hide bc2
      have HIB := hide i2b
      have HIC := hide i2c
      have HG2 := hide g2
      clear hsp ba2 bb2 bc2 s2' i2b i2c g2
      go_wp2_with fail
      refine HSP.out.mono ?_
      rintro e w3 ⟨⟨z, rfl, hz, -⟩, f3⟩
      have hz' : (0 : Int) < (z : Int) := by omega
      clear a0 a1 a2 a3 a4 aq
      have hnb : ∀ i, w.heap.size ≤ i → ¬ i ∈ bl := fun i hi h => by have := HBLT.out i h; omega
      have bb3 := HB2.out.fr f3 (hnb _ (by omega))
      have bc3 := HC2.out.fr f3 (hnb _ (by omega))
      have i3b := HIB.out.fr f3 (Nat.le_trans hhb h2) HDB.out
      have i3c := HIC.out.fr f3 (Nat.le_trans hhc h2) HDC.out
      have hs3 := f3.size
      have HF3 := hide ((HG2.out.no (S := fun i => i ∈ bl)).trans f3)
      obtain ⟨b0, b1, b2, b3, b4, -⟩ := bb3.cells5
      obtain ⟨z0, z1, z2, z3, z4, -⟩ := bc3.cells5
      have bq := bb3.lt
      have zq := bc3.lt
      clear hnb bb3 bc3 f3
      go_wp2_with fail
      have hsm := refSame_any (T.mk k' n' s' A' cap' l' r') (T.mk 0 n2 s2 A2 cap2 l2 r2) w3 0 w3.heap.size (T.In.more (Nat.zero_le _) (by omega) _ i3b) (T.In.more (Nat.zero_le _) (by omega) _ i3c) (Nat.le_refl _)
      rw [T.val_mk, T.val_mk, HEB.out, HEC.out, HSELF.out] at hsm
      refine hsm.mono ?_
      rintro e w4 ⟨rfl, f4⟩
      go_wp2
      go_ret
      exact ⟨rfl, HF3.out.thenNo f4⟩
    · have hk' : (k2 == 0) = false := by simpa using hk
      go_enter Try.func50, Try.ntmps50
      go_wp2_with fail
      clear z0 z1 z2 z3 z4 zq a0 a1 a2 a3 a4 aq b0 b1 b2 b3 b4 bq
      generalize World.alloc (World.alloc (World.alloc w _) _) _ = W0 at *
      obtain ⟨-, -, -, s1, i1b, i1c, g1, h1⟩ := HG.out _ fr00
      have hsm := refSame_any (T.mk k n s A cap l r) (T.mk k2 n2 s2 A2 cap2 l2 r2) W0 0 (W0).heap.size (T.In.more (Nat.zero_le _) (Nat.le_trans hh h1) _ s1.inn) (T.In.more (Nat.zero_le _) (Nat.le_trans hhc h1) _ i1c) (Nat.le_refl _)
      rw [T.val_mk, T.val_mk, HEA.out, HEC.out, HSELF.out] at hsm
      refine hsm.mono ?_
      rintro e w2 ⟨rfl, f2⟩
      obtain ⟨ba2, bb2, bc2, s2', i2b, i2c, g2, h2⟩ := HG.out w2 ((fr00).trans f2)
      clear hsm s1 i1b i1c g1 h1 f2 fr00
      obtain ⟨a0, a1, a2, a3, a4, -⟩ := ba2.cells5
      have aq := ba2.lt
      have hsp := spoil_any (T.mk k n s A cap l r) w2 lo hi s2' (Nat.le_trans hh h2) (Nat.le_trans hl h2) (by rw [HEA.out]; omega)
      rw [T.val_mk, HBL.out] at hsp
      have HSP := hide hsp
      have HB2 := hide bb2
      have HC2 := hide bc2
      have HIB := hide i2b
      have HIC := hide i2c
      have HG2 := hide g2
      clear hsp ba2 bb2 bc2 s2' i2b i2c g2
      go_wp2_with fail
      refine HSP.out.mono ?_
      rintro e w3 ⟨⟨z, rfl, hz, -⟩, f3⟩
      have hz' : (0 : Int) < (z : Int) := by omega
      clear a0 a1 a2 a3 a4 aq
      have hnb : ∀ i, w.heap.size ≤ i → ¬ i ∈ bl := fun i hi h => by have := HBLT.out i h; omega
      have bb3 := HB2.out.fr f3 (hnb _ (by omega))
      have bc3 := HC2.out.fr f3 (hnb _ (by omega))
      have i3b := HIB.out.fr f3 (Nat.le_trans hhb h2) HDB.out
      have i3c := HIC.out.fr f3 (Nat.le_trans hhc h2) HDC.out
      have hs3 := f3.size
      have HF3 := hide ((HG2.out.no (S := fun i => i ∈ bl)).trans f3)
      obtain ⟨b0, b1, b2, b3, b4, -⟩ := bb3.cells5
      obtain ⟨z0, z1, z2, z3, z4, -⟩ := bc3.cells5
      have bq := bb3.lt
      have zq := bc3.lt
      clear hnb bb3 bc3 f3
      go_wp2_with fail
      have hsm := refSame_any (T.mk k' n' s' A' cap' l' r') (T.mk k2 n2 s2 A2 cap2 l2 r2) w3 0 w3.heap.size (T.In.more (Nat.zero_le _) (by omega) _ i3b) (T.In.more (Nat.zero_le _) (by omega) _ i3c) (Nat.le_refl _)
      rw [T.val_mk, T.val_mk, HEB.out, HEC.out, HSELF.out] at hsm
      refine hsm.mono ?_
      rintro e w4 ⟨rfl, f4⟩
      go_wp2
      go_ret
      exact ⟨rfl, HF3.out.thenNo f4⟩

end Go.Proofs.Ytihjmipmjogpoaa

/- Chapter 2: the document's answer: Deep, Refs. -/
namespace Go.Proofs.Ytihjmipmjogpoaa
open Go.RowKit

set_option maxRecDepth 100000 in
set_option maxHeartbeats 2000000 in
/-- The document's Deep. -/
theorem refDeep_any (t : T) : ∀ (w : World) (lo hi : Nat), t.In w lo hi → hi ≤ w.heap.size → t.v.dep ≤ 16 → Calls Try.prog 63 #[t.val] w fun e w' => e = .returned (.int .i64 (t.v.dep : Int)) ∧ Fr No w w' := by
  induction t using T.ind with
  | h k n s A cap l r ih =>
    intro w lo hi ht hh hd
    rw [T.val_mk]
    have fit := (T.in_mk.1 ht).1
    have hlen := fit.len1
    have hK := Blk.new' w 27 #[.int .u8 k, .int .i64 n, .string s, .slice A l.length cap, .int .i64 r] rfl
    have fr1 := (Fr.refl No w).alloc (.cells #[.int .u8 k, .int .i64 n, .string s, .slice A l.length cap, .int .i64 r] 27)
    by_cases h3 : k = 3
    case neg =>
      have h3' : (k != 3) = true := by simpa using h3
      have e : (T.mk k n s A cap l r).v.dep = 0 := by rw [T.v_mk, V.dep_mk, if_neg h3]
      rw [e]
      clear ih
      go_enter Try.func63, Try.ntmps63
      go_wp2
      go_ret
      exact ⟨rfl, fr1⟩
    subst h3
    have e : (T.mk 3 n s A cap l r).v.dep = top ((l.map T.v).map V.dep) + 1 := by rw [T.v_mk, V.dep_mk, if_pos rfl]; omega
    rw [e] at hd ⊢
    have hchild : ∀ x ∈ l, x.v.dep ≤ 15 := by
      intro x hx
      have := le_top (List.mem_map_of_mem (f := V.dep) (List.mem_map_of_mem (f := T.v) hx))
      omega
    clear e
    go_enter Try.func63, Try.ntmps63
    go_wp2_with fail
    go_loopw [3, 4, 5] (fun v i _ wr => ∃ j m : Nat, j ≤ l.length ∧ i = .int .i64 j ∧ v = .int .i64 (m : Int) ∧ m = top (((l.map T.v).map V.dep).take j) ∧ m ≤ 16 ∧ Fr No (w.alloc (.cells #[.int .u8 3, .int .i64 n, .string s, .slice A l.length cap, .int .i64 r] 27)) wr) (fun _ i _ _ => l.length - (intOf i).toNat)
    case atStart =>
      exact ⟨0, 0, Nat.zero_le _, rfl, rfl, by simp [top], by omega, Fr.refl _ _⟩
    case round =>
      obtain ⟨j, m, hj, rfl, rfl, hm, hm17, fr⟩ := hrel
      have frw := fr1.trans fr
      have HM := hide hm
      obtain ⟨c0, c1, c2, c3, c4, cf⟩ := (hK.fr fr fun h => h).cells5
      clear hm
      by_cases hlt : j < l.length
      · obtain ⟨b, o, k1, n1, s1, A1, cap1, l1, r1, rfl, hb0, hb1, hx, hin, e0, e1, e2, e3, e4⟩ := T.elem (ht.no frw hh) hlt
        have IH := ih l[j] (List.getElem_mem hlt)
        have hc := hchild l[j] (List.getElem_mem hlt)
        have hto := top_take_succ ((l.map T.v).map V.dep) j (by simpa using hlt)
        rw [List.getElem_map, List.getElem_map] at hto
        rw [hx] at IH hc hto
        rw [T.val_mk] at IH
        generalize (T.mk k1 n1 s1 A1 cap1 l1 r1).v = u at *
        have g0 : b < wr.heap.size := by have := frw.size; omega
        have IH2 := IH wr lo hi hin (by have := frw.size; omega) (by omega)
        have HIH := hide IH2
        have HF := hide fr
        have HT := hide hto
        clear hx ih fr frw fr1 hto hchild hin IH IH2
        generalize hq : u.dep = q at *
        have HQ := hide hq
        clear hq
        go_wp2_with fail
        refine HIH.out.mono ?_
        rintro e w2 ⟨rfl, fr2⟩
        have HF2 := hide fr2
        clear fr2
        by_cases hlt2 : m < q
        · go_wp2
          go_roundw
          case rel => exact ⟨j + 1, q, hlt, by go_num, rfl, by rw [HT.out, ← HM.out, Nat.max_eq_right (by omega)], by omega, HF.out.trans HF2.out⟩
          case measure => simp [intOf]; omega
        · go_wp2
          go_roundw
          case rel => exact ⟨j + 1, m, hlt, by go_num, rfl, by rw [HT.out, ← HM.out, Nat.max_eq_left (by omega)], by omega, HF.out.trans HF2.out⟩
          case measure => simp [intOf]; omega
      · obtain rfl : l.length = j := by omega
        have HW := hide frw
        clear ih
        have hm2 : m = top ((l.map T.v).map V.dep) := by rw [HM.out, List.take_of_length_le (by simp)]
        have HM2 := hide hm2
        clear hm2
        go_wp2
        go_ret
        exact ⟨by rw [← HM2.out]; rfl, HW.out⟩

/-- The references of a value, by the document. -/
def V.rf : V → List Int
  | .mk k _ _ l r => if k = 4 then [r] else (l.map V.rf).flatten
termination_by v => v
theorem V.rf_mk (k n : Int) (s : ByteArray) (l : List V) (r : Int) : (V.mk k n s l r).rf = if k = 4 then [r] else (l.map V.rf).flatten := by rw [V.rf]

theorem rf_walkL (l : List V) : ∀ (i : Nat) (p : List Int), (∀ v ∈ l, ∀ p, refsOf (v.walk p) = v.rf) → refsOf (walkL (l.map V.walk) i p) = (l.map V.rf).flatten := by
  induction l with
  | nil => intro i p _; rfl
  | cons x l ih =>
    intro i p h
    simp only [List.map_cons, walkL, refsOf_append, List.flatten_cons]
    rw [h x (by simp), ih (i + 1) p fun v hv => h v (by simp [hv])]

theorem rf_walk (v : V) : v.ok = true → ∀ p, refsOf (v.walk p) = v.rf := by
  induction v using V.ind with
  | h k n s l r ih =>
    intro hok p
    rw [V.ok_mk, Bool.and_eq_true, List.all_eq_true] at hok
    rw [V.walk_mk, V.rf_mk]
    simp only [refsOf]
    by_cases h4 : k = 4
    · obtain rfl : l = [] := List.eq_nil_of_length_eq_zero (fok_len (by omega) hok.1)
      simp [h4, walkL, refsOf]
    · rw [if_neg h4, if_neg h4, rf_walkL l 0 p fun v hv => ih v hv (hok.2 v hv)]

theorem refs_rf {v : V} (h : v.may = true) : v.refs = v.rf := by
  rw [V.refs, if_pos h, rf_walk v (may_ok h)]

theorem rf_length (v : V) : v.rf.length ≤ v.size := by
  induction v using V.ind with
  | h k n s l r ih =>
    rw [V.rf_mk, V.size_mk]
    split
    · simp
    · have : ((l.map V.rf).flatten).length ≤ (l.map V.size).sum := by
        rename_i h4
        clear h4
        induction l with
        | nil => simp
        | cons x l ih2 =>
          have h1 := ih x (by simp)
          have h2 := ih2 fun v hv => ih v (by simp [hv])
          simp only [List.map_cons, List.flatten_cons, List.length_append, List.sum_cons]
          omega
      omega

abbrev refCells (L : List Int) : List Value := L.map fun r => Value.int .i64 r

/-- What the document's Refs gives. -/
def RfP (L : List Int) (w : World) (e : Ending) (w' : World) : Prop :=
  ∃ v, e = .returned v ∧ w'.ownsRow w.heap.size 25 1 v L.length (refCells L) ∧ (L = [] → v = .slice none 0 0) ∧ Fr No w w'

set_option maxRecDepth 100000 in
set_option maxHeartbeats 4000000 in
theorem refRefs_any (t : T) : ∀ (w : World) (lo hi : Nat), t.In w lo hi → hi ≤ w.heap.size → t.v.size ≤ 1000000 → Calls Try.prog 62 #[t.val] w (RfP t.v.rf w) := by
  induction t using T.ind with
  | h k n s A cap l r ih =>
    intro w lo hi ht hh hsz
    rw [T.val_mk]
    have fit := (T.in_mk.1 ht).1
    have hlen := fit.len1
    have hK := Blk.new' w 27 #[.int .u8 k, .int .i64 n, .string s, .slice A l.length cap, .int .i64 r] rfl
    have fr1 := (Fr.refl No w).alloc (.cells #[.int .u8 k, .int .i64 n, .string s, .slice A l.length cap, .int .i64 r] 27)
    by_cases h4 : k = 4
    · subst h4
      have e : (T.mk 4 n s A cap l r).v.rf = [r] := by rw [T.v_mk, V.rf_mk, if_pos rfl]
      rw [e]
      have hB := Blk.new (w.alloc (.cells #[.int .u8 4, .int .i64 n, .string s, .slice A l.length cap, .int .i64 r] 27)) 25 #[.int .i64 r]
      have hP : RfP [r] w (.returned (.slice (some ⟨w.heap.size + 1, 0, none⟩) 1 1)) ((w.alloc (.cells #[.int .u8 4, .int .i64 n, .string s, .slice A l.length cap, .int .i64 r] 27)).alloc (.cells #[.int .i64 r] 25)) := by
        refine ⟨_, rfl, ⟨rfl, .inr ⟨w.heap.size + 1, 1, #[.int .i64 r], rfl, by omega, ?_, Nat.le_refl _, by unfold maxLen; omega, rfl, rfl⟩⟩, (fun h => by cases h), fr1.alloc _⟩
        rw [World.size_alloc] at hB
        exact hB
      have HP := hide hP
      clear ih hP hB
      go_enter Try.func62, Try.ntmps62
      go_wp2
      go_ret
      exact HP.out
    have h4' : (k == 4) = false := by simpa using h4
    have hrf : (T.mk k n s A cap l r).v.rf = ((l.map T.v).map V.rf).flatten := by rw [T.v_mk, V.rf_mk, if_neg h4]
    have hsize : (T.mk k n s A cap l r).v.size = 1 + ((l.map T.v).map V.size).sum := by rw [T.v_mk, V.size_mk]
    rw [hsize] at hsz
    have HRF := hide hrf
    clear hsize hrf
    obtain ⟨i0, hi0, hz0, hz1, hz2⟩ := info_parts ref_info
    go_enter Try.func62, Try.ntmps62
    go_wp2_with fail
    go_loopw [3, 4] (fun v i wr => ∃ (j : Nat) (A3 : Option Addr) (c3 : Nat) (L : List Int), j ≤ l.length ∧ i = .int .i64 j ∧ v = .slice A3 L.length c3 ∧ L = (((l.map T.v).take j).map V.rf).flatten ∧ wr.ownsRow (w.heap.size + 1) 25 1 v L.length (refCells L) ∧ (L = [] → v = .slice none 0 0) ∧ L.length ≤ (((l.map T.v).map V.size).take j).sum ∧ Fr No w wr ∧ Blk wr w.heap.size 27 #[.int .u8 k, .int .i64 n, .string s, .slice A l.length cap, .int .i64 r]) (fun _ i _ => l.length - (intOf i).toNat)
    case atStart =>
      exact ⟨0, none, 0, [], Nat.zero_le _, rfl, rfl, by simp, World.ownsRow_nil _ _ _ _, fun _ => rfl, by simp, fr1, hK⟩
    case round =>
      obtain ⟨j, A3, c3, L, hj, rfl, rfl, hL, own, hnil, hLs, fr, blk⟩ := hrel
      obtain ⟨c0, c1, c2, c3', c4, cf⟩ := blk.cells5
      have q0 := blk.lt
      have hts := sum_take_le ((l.map T.v).map V.size) j
      by_cases hlt : j < l.length
      · obtain ⟨b, o, k1, n1, s1, A1, cap1, l1, r1, rfl, hb0, hb1, hx, hin, e0, e1, e2, e3, e4⟩ := T.elem (ht.no fr hh) hlt
        have hto := sum_take_succ ((l.map T.v).map V.size) j (by simpa using hlt)
        have hts2 := sum_take_le ((l.map T.v).map V.size) (j + 1)
        rw [List.getElem_map, List.getElem_map, hx] at hto
        have hj' : j < (l.map T.v).length := by simpa using hlt
        have hap : (((l.map T.v).take (j + 1)).map V.rf).flatten = L ++ (T.mk k1 n1 s1 A1 cap1 l1 r1).v.rf := by
          rw [List.take_succ_eq_append_getElem hj', List.map_append, List.flatten_append, ← hL, List.getElem_map, hx]; simp
        have hrl := rf_length (T.mk k1 n1 s1 A1 cap1 l1 r1).v
        have IH := ih l[j] (List.getElem_mem hlt) wr lo hi (by rw [hx]; exact hin) (by have := fr.size; omega)
        rw [hx, T.val_mk] at IH
        generalize (T.mk k1 n1 s1 A1 cap1 l1 r1).v = u at *
        have IH2 := IH (by omega)
        have hus : u.size ≤ 1000000 := by omega
        have g0 : b < wr.heap.size := by have := fr.size; omega
        have HIH := hide IH2
        have HO := hide own
        have HF := hide fr
        have HB := hide blk
        have HN := hide hnil
        have HAP := hide hap
        have HTO := hide hto
        have HLS := hide hLs
        clear ih IH IH2 own fr blk hnil hap hto hL hx hin ht hLs hts2
        generalize hR : u.rf = R at *
        have HR := hide hR
        have hRl : R.length ≤ 1000000 := by omega
        have hLl : L.length ≤ 1000000 := by have := HLS.out; omega
        clear hR
        go_wp2_with fail
        refine HIH.out.mono ?_
        rintro e w2 ⟨vc, rfl, oc, hcn, f2⟩
        have hs2 := f2.size
        have hsw := HF.out.size
        have own2 := owns_fr HO.out f2 fun _ _ h => h
        have HF2 := hide f2
        have HB2 := hide (HB.out.fr f2 fun h => h)
        rcases List.eq_nil_or_concat R with rfl | ⟨R', x, hRe⟩
        · obtain rfl := hcn rfl
          clear hcn f2
          go_wp2_with (at_builtin; refine wpList_append_own_none (by rfl) _ _ _ (by rfl) (w.heap.size + 1) 25 i0 1 Try.underlying100 hi0 (.slice A3 L.length c3) L.length (refCells L) (by rfl) own2 (by rfl) ?_)
          go_roundw
          case rel => exact ⟨j + 1, A3, c3, L, hlt, by go_num, rfl, by rw [HAP.out]; simp, own2, HN.out, by rw [HTO.out]; have := HLS.out; omega, HF.out.trans HF2.out, HB2.out⟩
          case measure => simp [intOf]; omega
        · have hne : 0 < R.length := by rw [hRe]; simp
          clear hRe hcn
          obtain ⟨gc, cc, rfl, hg1, hg2⟩ := oc.form hne
          have hnews := World.ownsRow.cells oc (g := gc) rfl
          have HNE := hide hnews
          clear hnews oc f2
          go_wp2_with (at_builtin; refine wpList_append_lies _ (by rfl) _ _ _ (by rfl) (w.heap.size + 1) 25 i0 _ 1 8 Try.underlying100 hi0 hz0 hz1 hz2 (by rfl) (by omega) (.slice A3 L.length c3) L.length (refCells L) (by rfl) own2 ⟨gc, 0, none⟩ R.length cc (refCells R) (by rfl) (by simp) HNE.out (by simp [Value.oneCell']) hne (by unfold maxLen; omega) (by omega) (by omega) w2.heap.size rfl ?_; intro g cp w3 hown3 hgrow hat hlt3; have HO3 := hide hown3; have HG := hide hgrow; have HA := hide hat; clear hown3 hgrow hat)
          go_roundw
          case rel =>
            have hl2 := owns_lt own2
            have e : (L ++ R).length = L.length + R.length := List.length_append
            have hnb : ∀ i, i < w.heap.size + 1 → ¬ some i = (Value.slice A3 L.length c3).ownBlock := fun i hi h => by
              have := hl2 i h.symm; omega
            refine ⟨j + 1, some ⟨g, 0, none⟩, cp, L ++ R, hlt, by go_num, by rw [e], HAP.out.symm, ?_, fun h => ?_, ?_, ?_, HB2.out.fr (fr_grown HG.out) (hnb _ (by omega))⟩
            · have := HO3.out
              rw [e, refCells, List.map_append]
              exact this
            · exfalso
              have e0 : (L ++ R).length = 0 := by rw [h]; rfl
              omega
            · rw [HTO.out, e]; have := HLS.out; omega
            · exact (HF.out.trans HF2.out).trans' (fr_grown HG.out) fun i hi h => hnb i (by omega) h
          case measure => simp [intOf]; omega
      · obtain rfl : l.length = j := by omega
        have hLe : L = ((l.map T.v).map V.rf).flatten := by rw [hL, List.take_of_length_le (by simp)]
        have hP : RfP (T.mk k n s A cap l r).v.rf w (.returned (.slice A3 L.length c3)) wr := by
          rw [HRF.out, ← hLe]
          exact ⟨_, rfl, owns_mono own (by omega), hnil, fr⟩
        have HP := hide hP
        clear hP own hnil fr ih ht
        go_wp2
        go_ret
        exact HP.out

end Go.Proofs.Ytihjmipmjogpoaa

/- Chapter 2: posternlaw02.awake. -/
namespace Go.Proofs.Ytihjmipmjogpoaa
open Go.RowKit

theorem func105_neq_nil (w : World) (g : Nat) : (binOp .neq 73 (.func (.func 105) #[] #[.pointer (some ⟨g, 0, none⟩)]) .nilFunc).run Try.prog w = .ok (.bool true) w := by kernel_rfl

set_option maxRecDepth 100000 in
set_option maxHeartbeats 8000000 in
theorem awake_any (w : World) : Calls Try.prog 38 #[] w fun e w' => e = .returned (.bool true) ∧ Fr No w w' := by
  have hfn := func105_neq_nil
  go_enter Try.func38, Try.ntmps38
  go_wp2_with fail
  refine (num2_any 1 w).mono ?_
  rintro e w1 ⟨rfl, f1⟩
  go_wp2_with fail
  refine (ref2_any 7 w1).mono ?_
  rintro e w2 ⟨rfl, f2⟩
  have g2 := f1.trans f2
  clear f1 f2
  go_wp2_with fail
  have hB3 : Blk (w2.alloc (.cells awC1 27)) w2.heap.size 27 awC1 := Blk.new w2 27 awC1
  have g3 := g2.alloc (.cells awC1 27)
  unfold awC1 at hB3 g3
  generalize World.alloc w2 _ = w3 at *
  refine (list2_any _ 1 1 w3).mono ?_
  rintro e w4 ⟨rfl, f4⟩
  have hB4 := hB3.fr f4 fun h => h
  have g4 := g3.trans f4
  clear hB3 g3 f4 g2
  go_wp2_with fail
  have hB5 := hB4.alloc (.cells (awC2 w2.heap.size) 27)
  have hC5 : Blk (w4.alloc (.cells (awC2 w2.heap.size) 27)) w4.heap.size 27 (awC2 w2.heap.size) := Blk.new w4 27 _
  have g5 := g4.alloc (.cells (awC2 w2.heap.size) 27)
  unfold awC2 at hB5 hC5 g5
  generalize World.alloc w4 _ = w5 at *
  refine (list2_any _ 2 2 w5).mono ?_
  rintro e w6 ⟨rfl, f6⟩
  have hB6 := hB5.fr f6 fun h => h
  have hC6 := hC5.fr f6 fun h => h
  have g6 := g5.trans f6
  clear hB5 hC5 hB4 g4 g5 f6
  go_wp2_with fail
  have hV7 : Blk (w6.alloc (.cells #[.int .u8 3, .int .i64 0, .string ⟨#[]⟩, .slice (some ⟨w4.heap.size, 0, none⟩) 2 2, .int .i64 0] 27)) w6.heap.size 27 #[.int .u8 3, .int .i64 0, .string ⟨#[]⟩, .slice (some ⟨w4.heap.size, 0, none⟩) 2 2, .int .i64 0] := Blk.new w6 27 _
  have hB7 := hB6.alloc (.cells #[.int .u8 3, .int .i64 0, .string ⟨#[]⟩, .slice (some ⟨w4.heap.size, 0, none⟩) 2 2, .int .i64 0] 27)
  have hC7 := hC6.alloc (.cells #[.int .u8 3, .int .i64 0, .string ⟨#[]⟩, .slice (some ⟨w4.heap.size, 0, none⟩) 2 2, .int .i64 0] 27)
  have g7 := g6.alloc (.cells #[.int .u8 3, .int .i64 0, .string ⟨#[]⟩, .slice (some ⟨w4.heap.size, 0, none⟩) 2 2, .int .i64 0] 27)
  clear hB6 hC6 g6
  generalize World.alloc w6 _ = w7 at *
  generalize w6.heap.size = gv at *
  generalize w4.heap.size = gc at *
  generalize w2.heap.size = gb at *
  refine (aw_bytes hB7 hC7).mono ?_
  rintro e w8 ⟨rfl, f8⟩
  unfold awS
  have hV8 := hV7.fr f8 fun h => h
  have hB8 := hB7.fr f8 fun h => h
  have hC8 := hC7.fr f8 fun h => h
  have g8 := g7.trans f8
  clear hV7 hB7 hC7 g7 f8
  go_wp2_with fail
  refine (aw_read w8).mono ?_
  rintro e w9 ⟨⟨⟨k, n, s, A, cap, l, r⟩, ht, rfl, hin⟩, f9⟩
  rw [T.val_mk]
  have hV9 := hV8.fr f9 fun h => h
  have hB9 := hB8.fr f9 fun h => h
  have hC9 := hC8.fr f9 fun h => h
  have g9 := g8.trans f9
  obtain ⟨c0, c1, c2, c3, c4, -⟩ := hV9.cells5
  have q0 := hV9.lt
  have HT := hide ht
  have HI := hide hin
  clear hV8 hB8 hC8 g8 f9 ht hin
  go_wp2_with fail
  have f10 := ((Fr.refl No w9).alloc (.cells #[.int .u8 k, .int .i64 n, .string s, .slice A l.length cap, .int .i64 r] 27)).alloc (.cells #[.int .i64 1, .int .i64 0] 3)
  have hX10 : Blk ((w9.alloc (.cells #[.int .u8 k, .int .i64 n, .string s, .slice A l.length cap, .int .i64 r] 27)).alloc (.cells #[.int .i64 1, .int .i64 0] 3)) w9.heap.size 27 #[.int .u8 k, .int .i64 n, .string s, .slice A l.length cap, .int .i64 r] := (Blk.new w9 27 _).alloc _
  have hP10 : Blk ((w9.alloc (.cells #[.int .u8 k, .int .i64 n, .string s, .slice A l.length cap, .int .i64 r] 27)).alloc (.cells #[.int .i64 1, .int .i64 0] 3)) (w9.heap.size + 1) 3 #[.int .i64 1, .int .i64 0] := Blk.new' _ 3 _ (by simp)
  have hV10 := hV9.fr f10 fun h => h
  have hB10 := hB9.fr f10 fun h => h
  have hC10 := hC9.fr f10 fun h => h
  have g10 := g9.trans f10
  have HI10 := hide (HI.out.no f10 (Nat.le_refl _))
  have HS10 := hide f10.size
  clear hV9 hB9 hC9 g9 f10 c0 c1 c2 c3 c4 q0
  generalize World.alloc (World.alloc w9 _) _ = w10 at *
  generalize hgx : w9.heap.size = gx at *
  clear hgx
  refine (aw_atc hB10 hC10 hP10).mono ?_
  rintro e w11 ⟨⟨A2, cap2, rfl⟩, f11⟩
  have hV11 := hV10.fr f11 fun h => h
  have hB11 := hB10.fr f11 fun h => h
  have hC11 := hC10.fr f11 fun h => h
  have hX11 := hX10.fr f11 fun h => h
  have g11 := g10.trans f11
  have HI11 := hide (HI10.out.no f11 HS10.out)
  have HS11 := hide (Nat.le_trans HS10.out f11.size)
  clear hV10 hB10 hC10 hX10 hP10 g10 f11 HI10 HS10
  go_wp2_with fail
  have f12 := (Fr.refl No w11).alloc (.cells #[.int .u8 4, .int .i64 0, .string ⟨#[]⟩, .slice A2 0 cap2, .int .i64 7] 27)
  have hY12 : Blk (w11.alloc (.cells #[.int .u8 4, .int .i64 0, .string ⟨#[]⟩, .slice A2 0 cap2, .int .i64 7] 27)) w11.heap.size 27 #[.int .u8 4, .int .i64 0, .string ⟨#[]⟩, .slice A2 0 cap2, .int .i64 7] := Blk.new w11 27 _
  have hV12 := hV11.fr f12 fun h => h
  have hB12 := hB11.fr f12 fun h => h
  have hC12 := hC11.fr f12 fun h => h
  have hX12 := hX11.fr f12 fun h => h
  have g12 := g11.trans f12
  have HI12 := hide (HI11.out.no f12 HS11.out)
  have HS12 := hide (Nat.le_trans HS11.out f12.size)
  clear hV11 hB11 hC11 hX11 g11 f12 HI11 HS11
  generalize World.alloc w11 _ = w12 at *
  generalize hgy : w11.heap.size = gy at *
  clear hgy
  refine (num2_any 1 w12).mono ?_
  rintro e w13 ⟨rfl, f13⟩
  go_wp2_with fail
  refine (num2_any 2 w13).mono ?_
  rintro e w14 ⟨rfl, f14⟩
  go_wp2_with fail
  refine (aw_order w14).mono ?_
  rintro e w15 ⟨rfl, f15⟩
  have f := (f13.trans f14).trans f15
  have hV15 := hV12.fr f fun h => h
  have hB15 := hB12.fr f fun h => h
  have hC15 := hC12.fr f fun h => h
  have hX15 := hX12.fr f fun h => h
  have hY15 := hY12.fr f fun h => h
  have g15 := g12.trans f
  have HI15 := hide (HI12.out.no f HS12.out)
  have HS15 := hide (Nat.le_trans HS12.out f.size)
  clear hV12 hB12 hC12 hX12 hY12 g12 f f13 f14 f15 HI12 HS12
  obtain ⟨c0, c1, c2, c3, c4, -⟩ := hV15.cells5
  obtain ⟨x0, x1, x2, x3, x4, -⟩ := hX15.cells5
  have q0 := hV15.lt
  have q1 := hX15.lt
  go_wp2_with fail
  have HSM := aw_same hB15 hC15 HT.out (T.In.more (Nat.le_refl _) HS15.out _ HI15.out)
  rw [T.val_mk] at HSM
  refine HSM.mono ?_
  rintro e w16 ⟨rfl, f16⟩
  have hV16 := hV15.fr f16 fun h => h
  have hB16 := hB15.fr f16 fun h => h
  have hC16 := hC15.fr f16 fun h => h
  have hY16 := hY15.fr f16 fun h => h
  have g16 := g15.trans f16
  clear hV15 hB15 hC15 hX15 hY15 g15 f16 HI15 HS15 c0 c1 c2 c3 c4 x0 x1 x2 x3 x4 q0 q1 HSM HT HI
  obtain ⟨c0, c1, c2, c3, c4, -⟩ := hV16.cells5
  obtain ⟨y0, y1, y2, y3, y4, -⟩ := hY16.cells5
  have q0 := hV16.lt
  have q1 := hY16.lt
  go_wp2_with fail
  clear c0 c1 c2 c3 c4 y0 y1 y2 y3 y4 q0 q1 hY16
  refine (aw_parts hB16 hC16).mono ?_
  rintro e w17 ⟨rfl, f17⟩
  have hV17 := hV16.fr f17 fun h => h
  have hB17 := hB16.fr f17 fun h => h
  have hC17 := hC16.fr f17 fun h => h
  have g17 := g16.trans f17
  clear hV16 hB16 hC16 g16 f17
  obtain ⟨c0, c1, c2, c3, c4, -⟩ := hV17.cells5
  have q0 := hV17.lt
  go_wp2_with fail
  clear c0 c1 c2 c3 c4 q0
  refine (aw_deep hB17 hC17).mono ?_
  rintro e w18 ⟨rfl, f18⟩
  have hV18 := hV17.fr f18 fun h => h
  have hB18 := hB17.fr f18 fun h => h
  have hC18 := hC17.fr f18 fun h => h
  have g18 := g17.trans f18
  clear hV17 hB17 hC17 g17 f18
  obtain ⟨c0, c1, c2, c3, c4, -⟩ := hV18.cells5
  have q0 := hV18.lt
  go_wp2_with fail
  clear c0 c1 c2 c3 c4 q0
  refine (aw_mayc hB18 hC18).mono ?_
  rintro e w19 ⟨rfl, f19⟩
  have hV19 := hV18.fr f19 fun h => h
  have hB19 := hB18.fr f19 fun h => h
  have hC19 := hC18.fr f19 fun h => h
  have g19 := g18.trans f19
  clear hV18 hB18 hC18 g18 f19
  obtain ⟨c0, c1, c2, c3, c4, -⟩ := hV19.cells5
  have q0 := hV19.lt
  go_wp2_with fail
  clear c0 c1 c2 c3 c4 q0
  refine (aw_each hB19 hC19).mono ?_
  rintro e w20 ⟨rfl, f20⟩
  have g20 := g19.trans f20
  go_wp2
  go_ret
  exact ⟨rfl, g20⟩

end Go.Proofs.Ytihjmipmjogpoaa

/- Chapter 2: a value that came in, and its lent likeness, in a world behind. -/
namespace Go.Proofs.Ytihjmipmjogpoaa
open Go.RowKit

structure Lo (w wi : World) (b0 go : Nat) (v own : T) (lo hi : Nat) : Prop where
  bv : Blk wi b0 27 v.cells.toArray
  bo : Blk wi go 27 own.cells.toArray
  iv : v.In wi 0 w.heap.size
  io : own.In wi lo hi
  mo : own.Mk wi
  f : Fr No w wi
  h0 : w.heap.size ≤ b0
  h1 : b0 < lo
  h2 : lo ≤ hi
  h3 : hi ≤ go

theorem Lo.fr {S : Nat → Prop} {w wi wj : World} {b0 go : Nat} {v own : T} {lo hi : Nat} (h : Lo w wi b0 go v own lo hi) (f : Fr S wi wj) (hs : ∀ i, i ≤ go → ¬ S i) : Lo w wj b0 go v own lo hi := by
  have a := h.bo.lt
  have b := h.f.size
  have c := h.h0
  have d := h.h1
  have e := h.h2
  have g := h.h3
  exact ⟨h.bv.fr f (hs _ (by omega)), h.bo.fr f (hs _ (by omega)), h.iv.fr f b (fun i _ hi => hs i (by omega)), h.io.fr f (by omega) (fun i _ hi => hs i (by omega)),
    T.Mk.fr f (by omega) _ h.io (fun i hi => hs i (by have := T.In.blocks _ h.io i hi; omega)) h.mo, h.f.trans' f (fun i hi hS => hs i (by omega) hS), h.h0, h.h1, h.h2, h.h3⟩

theorem Lo.no {w wi wj : World} {b0 go : Nat} {v own : T} {lo hi : Nat} (h : Lo w wi b0 go v own lo hi) (f : Fr No wi wj) : Lo w wj b0 go v own lo hi := h.fr f fun _ _ h => h

theorem Lo.lt {w wi : World} {b0 go : Nat} {v own : T} {lo hi : Nat} (h : Lo w wi b0 go v own lo hi) : hi ≤ wi.heap.size := by have := h.bo.lt; have := h.h3; omega

theorem may_small {v : V} (h : v.may = true) : (v.size : Int) ≤ 1200 ∧ (v.ht : Int) ≤ 40 := by
  have h1 := ht_le_dep v (may_ok h)
  simp only [V.may, V.fits, Bool.and_eq_true, decide_eq_true_eq] at h
  omega

theorem rf_rng {w : World} {lo hi : Nat} (t : T) : t.In w lo hi → ∀ r ∈ t.v.rf, -9223372036854775808 ≤ r ∧ r ≤ 9223372036854775807 := by
  induction t using T.ind with
  | h k n s A cap l r ih =>
    intro h x hx
    obtain ⟨f, _, hl⟩ := T.in_mk.1 h
    rw [T.v_mk, V.rf_mk] at hx
    split at hx
    · simp at hx; subst hx; exact ⟨f.r0, f.r1⟩
    · obtain ⟨L, hL, hx⟩ := List.mem_flatten.1 hx
      obtain ⟨u, hu, rfl⟩ := List.mem_map.1 hL
      obtain ⟨y, hy, rfl⟩ := List.mem_map.1 hu
      exact ih y hy (hl y hy) x hx

theorem rf_pos (v : V) : v.ok = true → ∀ r ∈ v.rf, 1 ≤ r := by
  induction v using V.ind with
  | h k n s l r ih =>
    intro h x hx
    rw [V.ok_mk, Bool.and_eq_true, List.all_eq_true] at h
    rw [V.rf_mk] at hx
    split at hx
    · rename_i h4
      subst h4
      simp at hx
      subst hx
      have := h.1
      simp [fok] at this
      omega
    · obtain ⟨L, hL, hx⟩ := List.mem_flatten.1 hx
      obtain ⟨u, hu, rfl⟩ := List.mem_map.1 hL
      exact ih u hu (h.2 u hu) x hx

end Go.Proofs.Ytihjmipmjogpoaa

/- Chapter 2: plain laws of renaming. -/
namespace Go.Proofs.Ytihjmipmjogpoaa
open Go.RowKit

theorem ren_size (f : Int → Option Int) (v : V) : (v.ren f).size = v.size := by
  induction v using V.ind with
  | h k n s l r ih =>
    rw [V.ren_mk]
    split
    · rw [V.size_mk, V.size_mk]
    · have e : l.map (V.size ∘ V.ren f) = l.map V.size := List.map_congr_left fun x hx => ih x hx
      rw [V.size_mk, V.size_mk, List.map_map, e]

theorem ren_dep (f : Int → Option Int) (v : V) : (v.ren f).dep = v.dep := by
  induction v using V.ind with
  | h k n s l r ih =>
    rw [V.ren_mk]
    split
    · rw [V.dep_mk, V.dep_mk]
    · have e : l.map (V.dep ∘ V.ren f) = l.map V.dep := List.map_congr_left fun x hx => ih x hx
      rw [V.dep_mk, V.dep_mk, List.map_map, e]

theorem ren_rf (f : Int → Option Int) (v : V) : (v.ren f).rf = v.rf.map fun r => (f r).getD 0 := by
  induction v using V.ind with
  | h k n s l r ih =>
    rw [V.ren_mk]
    by_cases h4 : k = 4
    · rw [if_pos h4, V.rf_mk, V.rf_mk, if_pos h4, if_pos h4]; rfl
    · have e : l.map (V.rf ∘ V.ren f) = l.map (fun v => v.rf.map fun r => (f r).getD 0) := List.map_congr_left fun x hx => ih x hx
      rw [if_neg h4, V.rf_mk, V.rf_mk, if_neg h4, if_neg h4, List.map_map, e, List.map_flatten, List.map_map]
      rfl

theorem named_iff (f : Int → Option Int) (v : V) : v.named f = true ↔ ∀ r ∈ v.rf, (f r).isSome = true := by
  induction v using V.ind with
  | h k n s l r ih =>
    rw [V.named_mk, V.rf_mk]
    by_cases h4 : k = 4
    · simp [h4]
    · rw [if_neg h4, if_neg h4, List.all_eq_true]
      constructor
      · intro h x hx
        obtain ⟨L, hL, hx⟩ := List.mem_flatten.1 hx
        obtain ⟨u, hu, rfl⟩ := List.mem_map.1 hL
        exact (ih u hu).1 (h u hu) x hx
      · intro h u hu
        exact (ih u hu).2 fun x hx => h x (List.mem_flatten.2 ⟨_, List.mem_map_of_mem hu, hx⟩)

theorem ren_ok (f : Int → Option Int) (v : V) : v.ok = true → (∀ r ∈ v.rf, 1 ≤ (f r).getD 0) → (v.ren f).ok = true := by
  induction v using V.ind with
  | h k n s l r ih =>
    intro hok hp
    rw [V.ok_mk, Bool.and_eq_true, List.all_eq_true] at hok
    rw [V.rf_mk] at hp
    rw [V.ren_mk]
    by_cases h4 : k = 4
    · subst h4
      rw [if_pos rfl] at hp ⊢
      have := hp r (by simp)
      rw [V.ok_mk, Bool.and_eq_true, List.all_eq_true]
      refine ⟨?_, hok.2⟩
      have h1 := hok.1
      simp [fok] at h1 ⊢
      exact ⟨⟨⟨this, h1.1.1.2⟩, h1.1.2⟩, h1.2⟩
    · rw [if_neg h4] at hp ⊢
      rw [V.ok_mk, Bool.and_eq_true, List.all_eq_true, List.length_map]
      refine ⟨hok.1, fun u hu => ?_⟩
      obtain ⟨x, hx, rfl⟩ := List.mem_map.1 hu
      exact ih x hx (hok.2 x hx) fun r hr => hp r (List.mem_flatten.2 ⟨_, List.mem_map_of_mem hx, hr⟩)

theorem ren_may {f : Int → Option Int} {v : V} (hm : v.may = true) (hp : ∀ r ∈ v.rf, 1 ≤ (f r).getD 0) : (v.ren f).may = true := by
  have h := hm
  simp only [V.may, V.fits, Bool.and_eq_true, decide_eq_true_eq] at h ⊢
  exact ⟨⟨ren_ok f v h.1.1 hp, by rw [ren_size]; exact h.1.2⟩, by rw [ren_dep]; exact h.2⟩

theorem ren_congr {f g : Int → Option Int} (v : V) : (∀ r ∈ v.rf, (f r).getD 0 = (g r).getD 0) → v.ren f = v.ren g := by
  induction v using V.ind with
  | h k n s l r ih =>
    intro h
    rw [V.rf_mk] at h
    rw [V.ren_mk, V.ren_mk]
    by_cases h4 : k = 4
    · rw [if_pos h4] at h ⊢; rw [if_pos h4, h r (by simp)]
    · rw [if_neg h4] at h ⊢
      rw [if_neg h4]
      have e : l.map (V.ren f) = l.map (V.ren g) := List.map_congr_left fun x hx => ih x hx fun r hr => h r (List.mem_flatten.2 ⟨_, List.mem_map_of_mem hx, hr⟩)
      rw [e]

theorem ren_ren (f g : Int → Option Int) (v : V) : (v.ren f).ren g = v.ren fun r => g ((f r).getD 0) := by
  induction v using V.ind with
  | h k n s l r ih =>
    rw [V.ren_mk, V.ren_mk]
    by_cases h4 : k = 4
    · rw [if_pos h4, if_pos h4, V.ren_mk, if_pos h4]
    · rw [if_neg h4, if_neg h4, V.ren_mk, if_neg h4, List.map_map]
      have e : l.map (V.ren g ∘ V.ren f) = l.map (V.ren fun r => g ((f r).getD 0)) := List.map_congr_left fun x hx => ih x hx
      rw [e]

theorem ren_some (v : V) : v.ren some = v := by
  induction v using V.ind with
  | h k n s l r ih =>
    rw [V.ren_mk]
    by_cases h4 : k = 4
    · rw [if_pos h4]; rfl
    · rw [if_neg h4]
      have e : l.map (V.ren some) = l.map id := List.map_congr_left fun x hx => ih x hx
      rw [e, List.map_id]

theorem ren_id {f : Int → Option Int} {v : V} (h : ∀ r ∈ v.rf, (f r).getD 0 = r) : v.ren f = v := by
  rw [ren_congr (g := some) v h, ren_some]

/-! ### Names -/
theorem nm_mem : ∀ (fs ts : List Int) (r t : Int), nmOf fs ts r = some t → t ∈ ts
  | [], _, _, _, h => by simp [nmOf] at h
  | _ :: _, [], _, _, h => by simp [nmOf] at h
  | f :: fs, t0 :: ts, r, t, h => by
    simp only [nmOf] at h
    split at h
    · injection h with h; simp [h]
    · exact List.mem_cons_of_mem _ (nm_mem fs ts r t h)

theorem nm_isSome : ∀ (fs ts : List Int) (r : Int), fs.length ≤ ts.length → r ∈ fs → (nmOf fs ts r).isSome = true
  | [], _, _, _, h => by simp at h
  | _ :: _, [], _, h, _ => by simp at h
  | f :: fs, t :: ts, r, h, hm => by
    simp only [nmOf]
    split
    · rfl
    · rename_i hne
      rcases List.mem_cons.1 hm with rfl | hm
      · exact absurd rfl hne
      · exact nm_isSome fs ts r (by simpa using h) hm

theorem nm_key : ∀ (fs ts : List Int) (r t : Int), nmOf fs ts r = some t → r ∈ fs
  | [], _, _, _, h => by simp [nmOf] at h
  | _ :: _, [], _, _, h => by simp [nmOf] at h
  | f :: fs, t0 :: ts, r, t, h => by
    simp only [nmOf] at h
    split at h
    · rename_i e; simp [e]
    · exact List.mem_cons_of_mem _ (nm_key fs ts r t h)

/-- There and back. -/
theorem nm_back : ∀ (fs ts : List Int) (r t : Int), ts.Nodup → nmOf fs ts r = some t → nmOf ts fs t = some r
  | [], _, _, _, _, h => by simp [nmOf] at h
  | _ :: _, [], _, _, _, h => by simp [nmOf] at h
  | f :: fs, t0 :: ts, r, t, hn, h => by
    rw [List.nodup_cons] at hn
    simp only [nmOf] at h ⊢
    by_cases hf : f = r
    · rw [if_pos hf] at h
      injection h with h
      rw [if_pos h, hf]
    · rw [if_neg hf] at h
      have hm := nm_mem fs ts r t h
      rw [if_neg (fun e => hn.1 (by rw [e]; exact hm))]
      exact nm_back fs ts r t hn.2 h

/-- Twice at once: each name by what it goes under. -/
theorem nm_map : ∀ (fs ts : List Int) (g : Int → Int) (r t : Int), nmOf fs ts r = some t → nmOf fs (ts.map g) r = some (g t)
  | [], _, _, _, _, h => by simp [nmOf] at h
  | _ :: _, [], _, _, _, h => by simp [nmOf] at h
  | f :: fs, t0 :: ts, g, r, t, h => by
    simp only [nmOf, List.map_cons] at h ⊢
    split at h
    · rename_i e
      rw [if_pos e]
      injection h with h
      rw [h]
    · rename_i e
      rw [if_neg e]
      exact nm_map fs ts g r t h

theorem all_ge {L : List Int} (h : (L.all fun r => decide (1 ≤ r)) = true) : ∀ r ∈ L, 1 ≤ r := fun r hr => by simpa using List.all_eq_true.1 h r hr

/-- What it takes to be renamed. -/
theorem renV_ok {v : V} {fs ts : List Int} (h : (renV v fs ts).2 = 0) : v.may = true ∧ fs.length = ts.length ∧ (∀ r ∈ fs, 1 ≤ r) ∧ (∀ r ∈ ts, 1 ≤ r) ∧ v.named (nmOf fs ts) = true ∧ (renV v fs ts).1 = v.ren (nmOf fs ts) := by
  unfold renV at h ⊢
  split at h
  · rename_i hc
    simp only [Bool.and_eq_true, decide_eq_true_eq] at hc
    split at h
    · rename_i hn
      rw [if_pos (by simp only [Bool.and_eq_true, decide_eq_true_eq]; exact hc), if_pos hn]
      exact ⟨hc.1, hc.2.1, all_ge hc.2.2.1, all_ge hc.2.2.2, hn, rfl⟩
    · cases h
  · cases h

theorem renV_yes {v : V} {fs ts : List Int} (h1 : v.may = true) (h2 : fs.length = ts.length) (h3 : ∀ r ∈ fs, 1 ≤ r) (h4 : ∀ r ∈ ts, 1 ≤ r) (h5 : v.named (nmOf fs ts) = true) : renV v fs ts = (v.ren (nmOf fs ts), 0) := by
  unfold renV
  rw [if_pos, if_pos h5]
  simp only [Bool.and_eq_true, decide_eq_true_eq, List.all_eq_true]
  exact ⟨h1, h2, h3, h4⟩

theorem renV_err (v : V) (fs ts : List Int) : (renV v fs ts).2 = 0 ∨ (renV v fs ts).2 = 2 ∨ (renV v fs ts).2 = 21 := by
  unfold renV
  split
  · split <;> simp
  · simp

theorem nm_pos {v : V} {fs ts : List Int} (h4 : ∀ r ∈ ts, 1 ≤ r) (h5 : v.named (nmOf fs ts) = true) : ∀ r ∈ v.rf, 1 ≤ (nmOf fs ts r).getD 0 := fun r hr => by
  have h := (named_iff _ v).1 h5 r hr
  cases hq : nmOf fs ts r with
  | none => rw [hq] at h; cases h
  | some t => exact h4 t (nm_mem fs ts r t hq)

/-- Renamed back, where no name is met twice. -/
theorem ren_back {v : V} {fs ts : List Int} (h : (renV v fs ts).2 = 0) (hn : ts.Nodup) : renV (v.ren (nmOf fs ts)) ts fs = (v, 0) := by
  obtain ⟨h1, h2, h3, h4, h5, -⟩ := renV_ok h
  have hp := nm_pos h4 h5
  have hall := (named_iff _ v).1 h5
  have hb : ∀ r ∈ v.rf, nmOf ts fs ((nmOf fs ts r).getD 0) = some r := fun r hr => by
    cases hq : nmOf fs ts r with
    | none => have := hall r hr; rw [hq] at this; cases this
    | some t => exact nm_back fs ts r t hn hq
  rw [renV_yes (ren_may h1 hp) h2.symm h4 h3]
  · rw [ren_ren, ren_id]
    intro r hr
    rw [hb r hr]; rfl
  · rw [named_iff, ren_rf]
    intro x hx
    obtain ⟨r, hr, rfl⟩ := List.mem_map.1 hx
    rw [hb r hr]; rfl

/-- Renamed twice is renamed once. -/
theorem ren_twice {v : V} {fs ts ns : List Int} (h : (renV v fs ts).2 = 0) (h' : (renV (v.ren (nmOf fs ts)) ts ns).2 = 0) :
    renV v fs (ts.map fun t => (nmOf ts ns t).getD 0) = ((renV (v.ren (nmOf fs ts)) ts ns).1, 0) := by
  obtain ⟨h1, h2, h3, h4, h5, -⟩ := renV_ok h
  obtain ⟨g1, g2, g3, g4, g5, g6⟩ := renV_ok h'
  have hall := (named_iff _ v).1 h5
  have hb : ∀ r ∈ v.rf, nmOf fs (ts.map fun t => (nmOf ts ns t).getD 0) r = some ((nmOf ts ns ((nmOf fs ts r).getD 0)).getD 0) := fun r hr => by
    cases hq : nmOf fs ts r with
    | none => have := hall r hr; rw [hq] at this; cases this
    | some t => exact nm_map fs ts _ r t hq
  rw [renV_yes h1 (by simpa using h2) h3]
  · rw [g6, ren_ren, ren_congr (g := fun r => nmOf ts ns ((nmOf fs ts r).getD 0)) v fun r hr => by rw [hb r hr]; rfl]
  · intro x hx
    obtain ⟨t, ht, rfl⟩ := List.mem_map.1 hx
    cases hq : nmOf ts ns t with
    | none => have := nm_isSome ts ns t (by omega) ht; rw [hq] at this; cases this
    | some z => exact g4 z (nm_mem ts ns t z hq)
  · rw [named_iff]
    intro r hr
    rw [hb r hr]; rfl

end Go.Proofs.Ytihjmipmjogpoaa

/- Texts joined: Wo45, Wo31, Wo34, Wo36. -/
import Derived.Test.YtnddfiohofnbaaaJn7
import Derived.LoopN
/- posternlaw09.pairsOf. -/
namespace Go.Proofs.Ytnddfiohofnbaaa
open Go.RowKit

set_option maxRecDepth 100000 in
set_option maxHeartbeats 8000000 in
theorem pairsOf_w (W : World) : Calls Try.prog 16 #[.int .i64 6] W (PairsP 6 W) := by
  have HNew := hide (New_one W)
  obtain ⟨i0, hi0, hz0, hz1, hz2⟩ := info_parts side28_info
  go_enter Try.func16, Try.ntmps16
  go_wp2_with fail
  refine HNew.out.mono ?_
  rintro e w1 ⟨m0, rfl, hok, hth, hmd, f1⟩
  have hst : PL W m0.wb 0 none 0 none 0 m0 w1 := ⟨PW.zero hth hmd, hok, f1, World.ownsRow_nil _ _ _ _, World.ownsRow_nil _ _ _ _, by simp [Value.ownBlock]⟩
  have HST := hide hst
  generalize m0.wb = wb at *
  clear hok hth hmd f1 HNew hst
  go_wp2_with fail
  go_loopw [2, 3, 4, 5] (fun p s o i wr => ∃ (k : Nat) (A1 : Option Addr) (c1 : Nat) (A2 : Option Addr) (c2 : Nat) (m : Wm), k ≤ 6 ∧ p = .pointer (some ⟨wb, 0, none⟩) ∧ i = .int .i64 (k : Int) ∧ s = .slice A1 k c1 ∧ o = .slice A2 k c2 ∧ PL W wb k A1 c1 A2 c2 m wr) (fun _ _ _ i _ => 6 - (intOf i).toNat)
  case atStart => exact ⟨0, none, 0, none, 0, m0, by omega, rfl, rfl, rfl, rfl, HST.out⟩
  case round =>
    obtain ⟨k, A1, c1, A2, c2, m, hk, rfl, rfl, rfl, rfl, inv⟩ := hrel
    by_cases hlt : k < 6
    · have hd : decide ((k : Int) < 6) = true := by simp; omega
      have HP := hide (pl_pair inv hlt)
      have HNE := hide inv.ne
      clear inv HST
      go_wp2_with fail
      refine HP.out.mono ?_
      rintro e w2 ⟨rfl, m', hpw, hok, hfr, hs, ho⟩
      have hz2' : W.heap.size ≤ w2.heap.size := hfr.size
      have hsa := hs.alloc (.cells #[.int .i64 (2 * (k : Int) + 1)] 28)
      have hoa := ho.alloc (.cells #[.int .i64 (2 * (k : Int) + 1)] 28)
      have hka := hok.no ((Fr.refl No w2).alloc (.cells #[.int .i64 (2 * (k : Int) + 1)] 28))
      have hfa := hfr.alloc (.cells #[.int .i64 (2 * (k : Int) + 1)] 28)
      have HOA := hide hoa
      have HKA := hide hka
      have HFA := hide hfa
      have HPW := hide hpw
      have HSA := hide hsa
      have HLS := hide (fun g hg => (owns_lt hs g hg).2)
      have HLO := hide (fun g hg => (owns_lt ho g hg).2)
      clear hs ho hok hfr hpw hoa hka hfa HP hsa
      go_wp2_with (first
        | (at_builtin; refine wpList_append_lies _ (by rfl) _ _ _ (by rfl) W.heap.size 28 i0 _ 1 8 Try.underlying40 hi0 hz0 hz1 hz2 (by rfl) (by omega) (.slice A1 k c1) k (sNums k) (by rfl) HSA.out ⟨w2.heap.size, 0, none⟩ 1 1 [.int .i64 (2 * (k : Int) + 1)] (by rfl) (by rfl) (World.news_of_block (Blk.new w2 28 _)) (by simp [Value.oneCell']) (by omega) (by unfold maxLen; omega) (by omega) (by simp; omega) (w2.heap.size + 1) (by simp) ?_; intro g1 cp1 w3 hown1 hgrow1 hat1 hlt1; have HOW1 := hide hown1; have HG1 := hide hgrow1; have HA1 := hide hat1; have hz3 : w2.heap.size + 1 ≤ w3.heap.size := (by have := hgrow1.size; simpa using this); have HO3 := hide ((row_grown HOA.out HG1.out (fun g hg h => HNE.out g h hg)).alloc (.cells #[.int .i64 (2 * (k : Int) + 2)] 28)); clear hown1 hgrow1 hat1)
        | (at_builtin; refine wpList_append_lies _ (by rfl) _ _ _ (by rfl) W.heap.size 28 i0 _ 1 8 Try.underlying40 hi0 hz0 hz1 hz2 (by rfl) (by omega) (.slice A2 k c2) k (oNums k) (by rfl) HO3.out ⟨w3.heap.size, 0, none⟩ 1 1 [.int .i64 (2 * (k : Int) + 2)] (by rfl) (by rfl) (World.news_of_block (Blk.new w3 28 _)) (by simp [Value.oneCell']) (by omega) (by unfold maxLen; omega) (by omega) (by simp; omega) (w3.heap.size + 1) (by simp) ?_; intro g2 cp2 w4 hown2 hgrow2 hat2 hlt2; have HOW2 := hide hown2; have HG2 := hide hgrow2; have HA2 := hide hat2; clear hown2 hgrow2 hat2))
      go_roundw
      case rel =>
        have hw3 := row_grown HOA.out HG1.out (fun g hg h => HNE.out g h hg)
        have hk3 : m'.Ok W.heap.size w3 := world_grown HKA.out HSA.out HG1.out
        have hk3a := hk3.no ((Fr.refl No w3).alloc (.cells #[.int .i64 (2 * (k : Int) + 2)] 28))
        have ho3 := hw3.alloc (.cells #[.int .i64 (2 * (k : Int) + 2)] 28)
        have hk4 : m'.Ok W.heap.size w4 := world_grown hk3a ho3 HG2.out
        have hs3 := HOW1.out.alloc (.cells #[.int .i64 (2 * (k : Int) + 2)] 28)
        have hne12 : ∀ g, (Value.slice (some ⟨g1, 0, none⟩) (k + 1) cp1).ownBlock = some g → (Value.slice A2 k c2).ownBlock ≠ some g := fun g hg h => by
          simp [Value.ownBlock] at hg
          subst hg
          rcases HA1.out with q | q
          · exact HNE.out g1 q h
          · have := HLO.out g1 h; omega
        have hs4 := row_grown hs3 HG2.out hne12
        have hol := owns_lt HSA.out
        have hol2 := owns_lt HOA.out
        have hf3 : Fr No W w3 := HFA.out.trans' (fr_grown HG1.out) fun i hi h => by have := (hol i h.symm).1; omega
        have hf4 : Fr No W w4 := (hf3.alloc _).trans' (fr_grown HG2.out) fun i hi h => by have := (hol2 i h.symm).1; omega
        refine ⟨k + 1, some ⟨g1, 0, none⟩, cp1, some ⟨g2, 0, none⟩, cp2, m', by omega, rfl, by go_num, rfl, rfl, ⟨HPW.out, hk4, hf4, ?_, ?_, fun g hg h => ?_⟩⟩
        · rw [sNums_succ]; exact hs4
        · rw [oNums_succ]; exact HOW2.out
        · simp [Value.ownBlock] at hg h
          subst hg
          rcases HA2.out with q | q
          · rw [h] at q
            rcases HA1.out with p | p
            · exact HNE.out g1 p q
            · have := HLO.out g1 q; omega
          · have := (owns_lt HOW1.out g1 rfl).2; omega
      case measure => simp [intOf]; omega
    · obtain rfl : 6 = k := by omega
      have HI := hide inv
      clear inv HST
      go_wp2_with fail
      refine bodyPost_ret (v := .tuple #[.pointer (some ⟨wb, 0, none⟩), .slice A1 6 c1, .slice A2 6 c2]) (by simp [results, Try.results16, go_sem, *]) rfl ?_
      exact ⟨wb, A1, c1, A2, c2, m, rfl, HI.out⟩

end Go.Proofs.Ytnddfiohofnbaaa

/- posternref09.Alike: whether two values are one. -/
namespace Go.Proofs.Ytnddfiohofnbaaa
open Go.RowKit

theorem bytes_extA {a b : ByteArray} (h : a.toList = b.toList) : a = b := by
  obtain ⟨⟨x⟩⟩ := a
  obtain ⟨⟨y⟩⟩ := b
  rw [ByteArray.toList_eq, ByteArray.toList_eq] at h
  simp at h
  rw [h]

/-- Whether two values are one, and no block below turns. -/
def SameP (u v : V) (w : World) (e : Ending) (w' : World) : Prop := ∃ q : Bool, e = .returned (.bool q) ∧ (q = true ↔ u = v) ∧ Fr No w w'

set_option maxRecDepth 100000 in
set_option maxHeartbeats 2000000 in
theorem alike_any (t : T) : ∀ (t' : T) (w : World) (lo hi lo' hi' : Nat), t.In w lo hi → hi ≤ w.heap.size → t'.In w lo' hi' → hi' ≤ w.heap.size → Calls Try.prog 22 #[t.val, t'.val] w (SameP t.v t'.v w) := by
  induction t using T.ind with
  | h k n s A cap l r ih =>
    intro t' w lo hi lo' hi' ht hh ht' hh'
    cases t' with
    | mk k' n' s' A' cap' l' r' =>
      rw [T.val_mk, T.val_mk]
      have fr2 := ((Fr.refl No w).alloc (.cells #[.int .u8 k, .int .i64 n, .string s, .slice A l.length cap, .int .i64 r] 37)).alloc (.cells #[.int .u8 k', .int .i64 n', .string s', .slice A' l'.length cap', .int .i64 r'] 37)
      by_cases hk : k = k'
      case neg =>
        have hk' : (k != k') = true := by simpa using hk
        go_enter Try.func22, Try.ntmps22
        go_wp2
        go_ret
        exact ⟨false, rfl, by rw [T.v_mk, T.v_mk]; simp [hk], fr2⟩
      by_cases hn : n = n'
      case neg =>
        have hn' : (n != n') = true := by simpa using hn
        subst hk
        go_enter Try.func22, Try.ntmps22
        go_wp2
        go_ret
        exact ⟨false, rfl, by rw [T.v_mk, T.v_mk]; simp [hn], fr2⟩
      by_cases hs : s = s'
      case neg =>
        have hs' : (s.toList == s'.toList) = false := by simpa using fun h => hs (bytes_extA h)
        have hs2 : ¬ s.toList = s'.toList := fun h => hs (bytes_extA h)
        subst hk
        subst hn
        go_enter Try.func22, Try.ntmps22
        go_wp2
        go_ret
        exact ⟨false, rfl, by rw [T.v_mk, T.v_mk]; simp [hs], fr2⟩
      by_cases hr : r = r'
      case neg =>
        have hr' : (r != r') = true := by simpa using hr
        have HF2 := hide fr2
        subst hk
        subst hn
        subst hs
        go_enter Try.func22, Try.ntmps22
        go_wp2
        go_ret
        exact ⟨false, rfl, by rw [T.v_mk, T.v_mk]; simp [hr], HF2.out⟩
      by_cases hl : l.length = l'.length
      case neg =>
        have hl' : ((l.length : Int) != (l'.length : Int)) = true := by simp; omega
        subst hk
        subst hn
        subst hs
        subst hr
        go_enter Try.func22, Try.ntmps22
        go_wp2
        go_ret
        refine ⟨false, rfl, ?_, fr2⟩
        rw [T.v_mk, T.v_mk]
        simp
        intro h
        exact hl (by simpa using congrArg List.length h)
      subst hk
      subst hn
      subst hs
      subst hr
      have hlen := (T.in_mk.1 ht).1.len1
      have hl' : ((l.length : Int) != (l'.length : Int)) = false := by simp; omega
      have HL := hide hl
      clear hl
      go_enter Try.func22, Try.ntmps22
      go_wp2_with fail
      go_loopw [5] (fun i wr => ∃ j : Nat, j ≤ l.length ∧ i = .int .i64 j ∧ Fr No ((w.alloc (.cells #[.int .u8 k, .int .i64 n, .string s, .slice A l.length cap, .int .i64 r] 37)).alloc (.cells #[.int .u8 k, .int .i64 n, .string s, .slice A' l'.length cap', .int .i64 r] 37)) wr ∧ ∀ i (h : i < j) (h1 : i < l.length) (h2 : i < l'.length), l[i].v = l'[i].v) (fun i _ => l.length - (intOf i).toNat)
      case atStart =>
        exact ⟨0, Nat.zero_le _, rfl, Fr.refl _ _, fun i h => absurd h (by omega)⟩
      case round =>
        obtain ⟨j, hj, rfl, fr, hsame⟩ := hrel
        have hK := ((Blk.new' w 37 #[.int .u8 k, .int .i64 n, .string s, .slice A l.length cap, .int .i64 r] rfl).alloc (.cells #[.int .u8 k, .int .i64 n, .string s, .slice A' l'.length cap', .int .i64 r] 37)).fr fr (fun h => h)
        have hV := (Blk.new' (w.alloc (.cells #[.int .u8 k, .int .i64 n, .string s, .slice A l.length cap, .int .i64 r] 37)) 37 #[.int .u8 k, .int .i64 n, .string s, .slice A' l'.length cap', .int .i64 r] (g := w.heap.size + 1) (by simp)).fr fr (fun h => h)
        have frw := fr2.trans fr
        have hszr := fr.size
        simp at hszr
        by_cases hlt : j < l.length
        · have hlt' : j < l'.length := by have := HL.out; omega
          obtain ⟨b, o, k1, n1, s1, A1, cap1, l1, r1, rfl, hb0, hb1, hx, hin, e0, e1, e2, e3, e4⟩ := T.elem (ht.no frw hh) hlt
          obtain ⟨b', o', k2, n2, s2, A2, cap2, l2, r2, rfl, hb0', hb1', hx', hin', f0, f1, f2, f3, f4⟩ := T.elem (ht'.no frw hh') hlt'
          have IH := ih l[j] (List.getElem_mem hlt) l'[j]
          rw [hx, hx', T.val_mk, T.val_mk] at IH
          obtain ⟨c0, c1, c2, c3, c4, cf⟩ := hK.cells5
          obtain ⟨d0, d1, d2, d3, d4, df⟩ := hV.cells5
          have g0 : b < wr.heap.size := by omega
          have g1 : b' < wr.heap.size := by omega
          have g2 : w.heap.size < wr.heap.size := by omega
          have g3 : w.heap.size + 1 < wr.heap.size := by omega
          have hh0 : hi ≤ wr.heap.size := by omega
          have hh1 : hi' ≤ wr.heap.size := by omega
          have HX := hide hx
          have HX' := hide hx'
          have HF := hide fr
          have HW := hide frw
          have HT := hide ht
          have HT' := hide ht'
          have HS := hide hsame
          clear hx hx' ih hK hV fr frw ht ht' fr2 hsame
          go_wp2_with fail
          go_region_held3 (fun w' => (∀ c i, c < wr.heap.size → w'.cell? ⟨c, i, none⟩ = wr.cell? ⟨c, i, none⟩) ∧ Fr No wr w')
            (first | exact ⟨fun _ _ _ => rfl, Fr.drew (Fr.refl No wr)⟩ | (have hq : Fr No wr _ := (‹_ ∧ Fr No wr _›).2.trans ‹Fr No _ _›; exact ⟨hq.cells, hq⟩))
            (first
              | (go_at_call 22; have hs0 := (‹_ ∧ Fr No wr _›).2; ((with_reducible refine (IH _ lo hi lo' hi' ?_ ?_ ?_ ?_).mono ?_); (exact hin.no hs0 hh0); (exact Nat.le_trans hh0 hs0.size); (exact hin'.no hs0 hh1); (exact Nat.le_trans hh1 hs0.size); rintro e w2 ⟨q, rfl, hq, fr1⟩)))
          cases q with
          | false =>
            go_wp2
            go_ret
            refine ⟨false, rfl, ?_, HW.out.trans (‹_ ∧ Fr No wr _›).2⟩
            rw [T.v_mk, T.v_mk]
            simp
            intro h
            have h1 := congrArg (fun q => q[j]?) h
            simp [hlt, hlt'] at h1
            rw [HX.out, HX'.out] at h1
            exact absurd (hq.2 h1) (by simp)
          | true =>
            go_wp2
            go_roundw
            case rel =>
              refine ⟨j + 1, hlt, by go_num, HF.out.trans (‹_ ∧ Fr No wr _›).2, fun i hi h1 h2 => ?_⟩
              rcases Nat.lt_or_ge i j with h | h
              · exact HS.out i h h1 h2
              · obtain rfl : i = j := by omega
                rw [HX.out, HX'.out]
                exact hq.1 rfl
            case measure => simp [intOf]; omega
        · obtain rfl : l.length = j := by omega
          obtain ⟨c0, c1, c2, c3, c4, cf⟩ := hK.cells5
          obtain ⟨d0, d1, d2, d3, d4, df⟩ := hV.cells5
          have HS := hide hsame
          clear hsame ih
          go_wp2
          go_ret
          refine ⟨true, rfl, ?_, frw⟩
          rw [T.v_mk, T.v_mk]
          simp
          refine List.ext_getElem (by simpa using HL.out) fun i h1 h2 => ?_
          simp at h1 h2
          simpa using HS.out i h1 h1 h2

end Go.Proofs.Ytnddfiohofnbaaa

/- SealSealed: room, Great, look, may. -/
namespace Go.Proofs.Ytnddfiohofnbaaa
open Go.RowKit

theorem look_no {v : V} {left deep : Int} : LookP v left deep (-1) := by
  unfold LookP
  exact ⟨by omega, by omega, fun h => absurd h (by omega)⟩

theorem bytes_nil : (⟨#[]⟩ : ByteArray).toList = [] := by rw [ByteArray.toList_eq]

theorem looki_start {l : List V} {left deep : Int} (h : 1 ≤ left) : LookI l left deep (left - 1) 0 := by
  unfold LookI
  refine ⟨by omega, by simp, by simp [sizeTo_zero]⟩

theorem look_leaf {k n : Int} {s : ByteArray} {r left deep : Int} (hf : fok k n s 0 r = true) (hk : k ≠ 3) (h1 : 1 ≤ left) (h2 : left ≤ 512) (hd : 0 ≤ deep) : LookP (.mk k n s (([] : List T).map T.v) r) left deep (left - 1) :=
  looki_end (looki_start h1) hf (fun h => absurd h hk) hd h2

set_option maxRecDepth 100000 in
set_option maxHeartbeats 16000000 in
theorem look_any (t : T) : ∀ (left deep : Int) (w : World) (lo hi : Nat), t.In w lo hi → hi ≤ w.heap.size → 0 ≤ left → left ≤ 512 → 0 ≤ deep → deep ≤ 16 →
    Calls Try.prog 52 #[t.val, .int .i64 left, .int .i64 deep] w fun e w' => ∃ x : Int, e = .returned (.int .i64 x) ∧ LookP t.v left deep x ∧ Fr No w w' := by
  induction t using T.ind with
  | h k n s A cap l r ih =>
    intro left deep w lo hi ht hh hl0 hl1 hd0 hd1
    rw [T.val_mk]
    have fit := (T.in_mk.1 ht).1
    have hlen := fit.len1
    have k0 := fit.k0
    have fr1 := (Fr.refl No w).alloc (.cells #[.int .u8 k, .int .i64 n, .string s, .slice A l.length cap, .int .i64 r] 37)
    have hK := Blk.new' w 37 #[.int .u8 k, .int .i64 n, .string s, .slice A l.length cap, .int .i64 r] rfl
    have h0 := bytes_nil
    have hk : k = 0 ∨ k = 1 ∨ k = 2 ∨ k = 3 ∨ k = 4 ∨ 5 ≤ k := by omega
    have hw : IntKind.i64.wrap (left - 1) = left - 1 := IntWalk.i64_in _ (by omega)
    have HIH := hide ih
    have HT := hide ht
    clear ih ht fit
    by_cases hleft : left < 1
    · rcases hk with rfl | rfl | rfl | rfl | rfl | hk5
      · skip
        by_cases hn : n = 0
        case neg =>
          have e1 : (n == 0) = false := by simpa using hn
          go_enter Try.func52, Try.ntmps52
          go_wp2
          go_ret
          exact ⟨-1, rfl, look_no, fr1⟩
        subst hn
        by_cases hs : s = ⟨#[]⟩
        case neg =>
          have e1 : (s.toList == []) = false := by simp only [beq_eq_false_iff_ne, ne_eq]; exact fun h => hs (bytes_extA (by rw [h, h0]))
          go_enter Try.func52, Try.ntmps52
          go_wp2
          go_ret
          exact ⟨-1, rfl, look_no, fr1⟩
        subst hs
        by_cases hl : l.length = 0
        case neg =>
          have e1 : (l.length == 0) = false := by simpa using hl
          have e2 : ((l.length : Int) == 0) = false := by simpa using hl
          go_enter Try.func52, Try.ntmps52
          go_wp2
          go_ret
          exact ⟨-1, rfl, look_no, fr1⟩
        obtain rfl : l = [] := List.eq_nil_of_length_eq_zero hl
        by_cases hr : r = 0
        case neg =>
          have e1 : (r == 0) = false := by simpa using hr
          go_enter Try.func52, Try.ntmps52
          go_wp2
          go_ret
          exact ⟨-1, rfl, look_no, fr1⟩
        subst hr
        go_enter Try.func52, Try.ntmps52
        go_wp2
        go_ret
        exact ⟨-1, rfl, look_no, fr1⟩
      · skip
        by_cases hs : s = ⟨#[]⟩
        case neg =>
          have e1 : (s.toList == []) = false := by simp only [beq_eq_false_iff_ne, ne_eq]; exact fun h => hs (bytes_extA (by rw [h, h0]))
          go_enter Try.func52, Try.ntmps52
          go_wp2
          go_ret
          exact ⟨-1, rfl, look_no, fr1⟩
        subst hs
        by_cases hl : l.length = 0
        case neg =>
          have e1 : (l.length == 0) = false := by simpa using hl
          have e2 : ((l.length : Int) == 0) = false := by simpa using hl
          go_enter Try.func52, Try.ntmps52
          go_wp2
          go_ret
          exact ⟨-1, rfl, look_no, fr1⟩
        obtain rfl : l = [] := List.eq_nil_of_length_eq_zero hl
        by_cases hr : r = 0
        case neg =>
          have e1 : (r == 0) = false := by simpa using hr
          go_enter Try.func52, Try.ntmps52
          go_wp2
          go_ret
          exact ⟨-1, rfl, look_no, fr1⟩
        subst hr
        go_enter Try.func52, Try.ntmps52
        go_wp2
        go_ret
        exact ⟨-1, rfl, look_no, fr1⟩
      · skip
        by_cases hn : n = 0
        case neg =>
          have e1 : (n == 0) = false := by simpa using hn
          go_enter Try.func52, Try.ntmps52
          go_wp2
          go_ret
          exact ⟨-1, rfl, look_no, fr1⟩
        subst hn
        by_cases hl : l.length = 0
        case neg =>
          have e1 : (l.length == 0) = false := by simpa using hl
          have e2 : ((l.length : Int) == 0) = false := by simpa using hl
          go_enter Try.func52, Try.ntmps52
          go_wp2
          go_ret
          exact ⟨-1, rfl, look_no, fr1⟩
        obtain rfl : l = [] := List.eq_nil_of_length_eq_zero hl
        by_cases hr : r = 0
        case neg =>
          have e1 : (r == 0) = false := by simpa using hr
          go_enter Try.func52, Try.ntmps52
          go_wp2
          go_ret
          exact ⟨-1, rfl, look_no, fr1⟩
        subst hr
        go_enter Try.func52, Try.ntmps52
        go_wp2
        go_ret
        exact ⟨-1, rfl, look_no, fr1⟩
      · skip
        by_cases hn : n = 0
        case neg =>
          have e1 : (n == 0) = false := by simpa using hn
          go_enter Try.func52, Try.ntmps52
          go_wp2
          go_ret
          exact ⟨-1, rfl, look_no, fr1⟩
        subst hn
        by_cases hs : s = ⟨#[]⟩
        case neg =>
          have e1 : (s.toList == []) = false := by simp only [beq_eq_false_iff_ne, ne_eq]; exact fun h => hs (bytes_extA (by rw [h, h0]))
          go_enter Try.func52, Try.ntmps52
          go_wp2
          go_ret
          exact ⟨-1, rfl, look_no, fr1⟩
        subst hs
        by_cases hr : r = 0
        case neg =>
          have e1 : (r == 0) = false := by simpa using hr
          go_enter Try.func52, Try.ntmps52
          go_wp2
          go_ret
          exact ⟨-1, rfl, look_no, fr1⟩
        subst hr
        go_enter Try.func52, Try.ntmps52
        go_wp2
        go_ret
        exact ⟨-1, rfl, look_no, fr1⟩
      · skip
        by_cases hn : n = 0
        case neg =>
          have e1 : (n == 0) = false := by simpa using hn
          go_enter Try.func52, Try.ntmps52
          go_wp2
          go_ret
          exact ⟨-1, rfl, look_no, fr1⟩
        subst hn
        by_cases hs : s = ⟨#[]⟩
        case neg =>
          have e1 : (s.toList == []) = false := by simp only [beq_eq_false_iff_ne, ne_eq]; exact fun h => hs (bytes_extA (by rw [h, h0]))
          go_enter Try.func52, Try.ntmps52
          go_wp2
          go_ret
          exact ⟨-1, rfl, look_no, fr1⟩
        subst hs
        by_cases hl : l.length = 0
        case neg =>
          have e1 : (l.length == 0) = false := by simpa using hl
          have e2 : ((l.length : Int) == 0) = false := by simpa using hl
          go_enter Try.func52, Try.ntmps52
          go_wp2
          go_ret
          exact ⟨-1, rfl, look_no, fr1⟩
        obtain rfl : l = [] := List.eq_nil_of_length_eq_zero hl
        go_enter Try.func52, Try.ntmps52
        go_wp2
        go_ret
        exact ⟨-1, rfl, look_no, fr1⟩
      · skip
        have f1 : (k == 1) = false := by simp; omega
        have f2 : (k == 2) = false := by simp; omega
        have f3 : (k == 3) = false := by simp; omega
        have f4 : (k == 4) = false := by simp; omega
        have f5 : decide (4 < k) = true := by simp; omega
        by_cases hn : n = 0
        case neg =>
          have e1 : (n == 0) = false := by simpa using hn
          go_enter Try.func52, Try.ntmps52
          go_wp2
          go_ret
          exact ⟨-1, rfl, look_no, fr1⟩
        subst hn
        by_cases hs : s = ⟨#[]⟩
        case neg =>
          have e1 : (s.toList == []) = false := by simp only [beq_eq_false_iff_ne, ne_eq]; exact fun h => hs (bytes_extA (by rw [h, h0]))
          go_enter Try.func52, Try.ntmps52
          go_wp2
          go_ret
          exact ⟨-1, rfl, look_no, fr1⟩
        subst hs
        by_cases hl : l.length = 0
        case neg =>
          have e1 : (l.length == 0) = false := by simpa using hl
          have e2 : ((l.length : Int) == 0) = false := by simpa using hl
          go_enter Try.func52, Try.ntmps52
          go_wp2
          go_ret
          exact ⟨-1, rfl, look_no, fr1⟩
        obtain rfl : l = [] := List.eq_nil_of_length_eq_zero hl
        by_cases hr : r = 0
        case neg =>
          have e1 : (r == 0) = false := by simpa using hr
          go_enter Try.func52, Try.ntmps52
          go_wp2
          go_ret
          exact ⟨-1, rfl, look_no, fr1⟩
        subst hr
        go_enter Try.func52, Try.ntmps52
        go_wp2
        go_ret
        exact ⟨-1, rfl, look_no, fr1⟩
    · have hleft2 : decide (left < 1) = false := by simpa using hleft
      rcases hk with rfl | rfl | rfl | rfl | rfl | hk5
      · skip
        by_cases hn : n = 0
        case neg =>
          have e1 : (n == 0) = false := by simpa using hn
          go_enter Try.func52, Try.ntmps52
          go_wp2
          go_ret
          exact ⟨-1, rfl, look_no, fr1⟩
        subst hn
        by_cases hs : s = ⟨#[]⟩
        case neg =>
          have e1 : (s.toList == []) = false := by simp only [beq_eq_false_iff_ne, ne_eq]; exact fun h => hs (bytes_extA (by rw [h, h0]))
          go_enter Try.func52, Try.ntmps52
          go_wp2
          go_ret
          exact ⟨-1, rfl, look_no, fr1⟩
        subst hs
        by_cases hl : l.length = 0
        case neg =>
          have e1 : (l.length == 0) = false := by simpa using hl
          have e2 : ((l.length : Int) == 0) = false := by simpa using hl
          go_enter Try.func52, Try.ntmps52
          go_wp2
          go_ret
          exact ⟨-1, rfl, look_no, fr1⟩
        obtain rfl : l = [] := List.eq_nil_of_length_eq_zero hl
        by_cases hr : r = 0
        case neg =>
          have e1 : (r == 0) = false := by simpa using hr
          go_enter Try.func52, Try.ntmps52
          go_wp2
          go_ret
          exact ⟨-1, rfl, look_no, fr1⟩
        subst hr
        clear HIH
        go_enter Try.func52, Try.ntmps52
        go_wp2_with fail
        refine wp_loop_rounds 1 ?_
        rw [rounds_succ]
        go_wp2_with fail
        go_ret
        refine ⟨left - 1, rfl, ?_, fr1⟩
        rw [T.v_mk]
        refine look_leaf ?_ (by decide) (by omega) (by omega) (by omega)
        simp [fok]
      · skip
        by_cases hs : s = ⟨#[]⟩
        case neg =>
          have e1 : (s.toList == []) = false := by simp only [beq_eq_false_iff_ne, ne_eq]; exact fun h => hs (bytes_extA (by rw [h, h0]))
          go_enter Try.func52, Try.ntmps52
          go_wp2
          go_ret
          exact ⟨-1, rfl, look_no, fr1⟩
        subst hs
        by_cases hl : l.length = 0
        case neg =>
          have e1 : (l.length == 0) = false := by simpa using hl
          have e2 : ((l.length : Int) == 0) = false := by simpa using hl
          go_enter Try.func52, Try.ntmps52
          go_wp2
          go_ret
          exact ⟨-1, rfl, look_no, fr1⟩
        obtain rfl : l = [] := List.eq_nil_of_length_eq_zero hl
        by_cases hr : r = 0
        case neg =>
          have e1 : (r == 0) = false := by simpa using hr
          go_enter Try.func52, Try.ntmps52
          go_wp2
          go_ret
          exact ⟨-1, rfl, look_no, fr1⟩
        subst hr
        clear HIH
        go_enter Try.func52, Try.ntmps52
        go_wp2_with fail
        refine wp_loop_rounds 1 ?_
        rw [rounds_succ]
        go_wp2_with fail
        go_ret
        refine ⟨left - 1, rfl, ?_, fr1⟩
        rw [T.v_mk]
        refine look_leaf ?_ (by decide) (by omega) (by omega) (by omega)
        simp [fok]
      · skip
        by_cases hn : n = 0
        case neg =>
          have e1 : (n == 0) = false := by simpa using hn
          go_enter Try.func52, Try.ntmps52
          go_wp2
          go_ret
          exact ⟨-1, rfl, look_no, fr1⟩
        subst hn
        by_cases hl : l.length = 0
        case neg =>
          have e1 : (l.length == 0) = false := by simpa using hl
          have e2 : ((l.length : Int) == 0) = false := by simpa using hl
          go_enter Try.func52, Try.ntmps52
          go_wp2
          go_ret
          exact ⟨-1, rfl, look_no, fr1⟩
        obtain rfl : l = [] := List.eq_nil_of_length_eq_zero hl
        by_cases hr : r = 0
        case neg =>
          have e1 : (r == 0) = false := by simpa using hr
          go_enter Try.func52, Try.ntmps52
          go_wp2
          go_ret
          exact ⟨-1, rfl, look_no, fr1⟩
        subst hr
        by_cases hs1 : (256 : Int) < (s.size : Int)
        case pos =>
          go_enter Try.func52, Try.ntmps52
          go_wp2
          go_ret
          exact ⟨-1, rfl, look_no, fr1⟩
        have hs2 : decide ((256 : Int) < (s.size : Int)) = false := by simpa using hs1
        clear HIH
        go_enter Try.func52, Try.ntmps52
        go_wp2_with fail
        refine wp_loop_rounds 1 ?_
        rw [rounds_succ]
        go_wp2_with fail
        go_ret
        refine ⟨left - 1, rfl, ?_, fr1⟩
        rw [T.v_mk]
        refine look_leaf ?_ (by decide) (by omega) (by omega) (by omega)
        simp [fok]; omega
      · skip
        by_cases hn : n = 0
        case neg =>
          have e1 : (n == 0) = false := by simpa using hn
          go_enter Try.func52, Try.ntmps52
          go_wp2
          go_ret
          exact ⟨-1, rfl, look_no, fr1⟩
        subst hn
        by_cases hs : s = ⟨#[]⟩
        case neg =>
          have e1 : (s.toList == []) = false := by simp only [beq_eq_false_iff_ne, ne_eq]; exact fun h => hs (bytes_extA (by rw [h, h0]))
          go_enter Try.func52, Try.ntmps52
          go_wp2
          go_ret
          exact ⟨-1, rfl, look_no, fr1⟩
        subst hs
        by_cases hr : r = 0
        case neg =>
          have e1 : (r == 0) = false := by simpa using hr
          go_enter Try.func52, Try.ntmps52
          go_wp2
          go_ret
          exact ⟨-1, rfl, look_no, fr1⟩
        subst hr
        by_cases hd3 : deep < 1
        case pos =>
          go_enter Try.func52, Try.ntmps52
          go_wp2
          go_ret
          exact ⟨-1, rfl, look_no, fr1⟩
        have hd4 : decide (deep < 1) = false := by simpa using hd3
        have hw2 : IntKind.i64.wrap (deep - 1) = deep - 1 := IntWalk.i64_in _ (by omega)
        go_enter Try.func52, Try.ntmps52
        go_wp2_with fail
        go_loopw [1, 8] (fun v i wr => ∃ (j : Nat) (x : Int), j ≤ l.length ∧ i = .int .i64 (j : Int) ∧ v = .int .i64 x ∧ LookI (l.map T.v) left deep x j ∧ x ≤ 511 ∧ Fr No (w.alloc (.cells #[.int .u8 3, .int .i64 0, .string ⟨#[]⟩, .slice A l.length cap, .int .i64 0] 37)) wr) (fun _ i _ => l.length - (intOf i).toNat)
        case atStart => exact ⟨0, left - 1, Nat.zero_le _, rfl, rfl, looki_start (by omega), by omega, Fr.refl _ _⟩
        case round =>
          obtain ⟨j, x, hj, rfl, rfl, hlk, hx5, fr⟩ := hrel
          obtain ⟨d0, d1, d2, d3, d4, df⟩ := (hK.fr fr fun h => h).cells5
          have q0 := (hK.fr fr fun h => h).lt
          have frw := fr1.trans fr
          have hx0 := hlk.1
          by_cases hlt : j < l.length
          · obtain ⟨b, o, k1, n1, s1, A1, cap1, l1, r1, rfl, hb0, hb1', hxx, hin, e0, e1, e2, e3, e4⟩ := T.elem (HT.out.no frw hh) hlt
            have hc := HIH.out l[j] (List.getElem_mem hlt) x (deep - 1) wr lo hi (by rw [hxx]; exact hin) (by have := frw.size; omega) (by omega) (by omega) (by omega) (by omega)
            have hj' : j < (l.map T.v).length := by simpa using hlt
            have hxv : (l.map T.v)[j] = (T.mk k1 n1 s1 A1 cap1 l1 r1).v := by rw [List.getElem_map, hxx]
            have hstep := fun y => looki_step (y := y) hlk hj'
            rw [hxv] at hstep
            rw [hxx, T.val_mk] at hc
            generalize (T.mk k1 n1 s1 A1 cap1 l1 r1).v = u at *
            have g0 : b < wr.heap.size := by have := frw.size; omega
            have HC := hide hc
            have HST := hide hstep
            have HF := hide fr
            have HW := hide frw
            clear hc hstep hlk fr frw hxv hxx hin HIH fr1
            go_wp2_with fail
            refine HC.out.mono ?_
            rintro e w2 ⟨y, rfl, hy, fr2⟩
            have hyb := hy.1
            have hyc := hy.2.1
            have HY := hide hy
            have HF2 := hide (HF.out.trans fr2)
            have HW2 := hide (HW.out.trans fr2)
            clear hy fr2
            by_cases hy0 : y < 0
            · go_wp2
              go_ret
              exact ⟨-1, rfl, look_no, HW2.out⟩
            · have hy1 : decide (y < 0) = false := by simpa using hy0
              have hy5 : y ≤ 511 := by have := (HY.out.2.2 (by omega)).2.2; have := u.size_pos; omega
              have HLI := hide (HST.out y HY.out (by omega))
              go_wp2
              go_roundw
              case rel => exact ⟨j + 1, y, hlt, by go_num, rfl, HLI.out, hy5, HF2.out⟩
              case measure => simp [intOf]; omega
          · obtain rfl : l.length = j := by omega
            have HLK := hide hlk
            have HW := hide frw
            clear hlk frw fr fr1 HIH
            go_wp2
            go_ret
            refine ⟨x, rfl, ?_, HW.out⟩
            rw [T.v_mk]
            refine looki_end (by simpa using HLK.out) ?_ (by omega) (by omega) (by omega)
            simp [fok]
      · skip
        by_cases hn : n = 0
        case neg =>
          have e1 : (n == 0) = false := by simpa using hn
          go_enter Try.func52, Try.ntmps52
          go_wp2
          go_ret
          exact ⟨-1, rfl, look_no, fr1⟩
        subst hn
        by_cases hs : s = ⟨#[]⟩
        case neg =>
          have e1 : (s.toList == []) = false := by simp only [beq_eq_false_iff_ne, ne_eq]; exact fun h => hs (bytes_extA (by rw [h, h0]))
          go_enter Try.func52, Try.ntmps52
          go_wp2
          go_ret
          exact ⟨-1, rfl, look_no, fr1⟩
        subst hs
        by_cases hl : l.length = 0
        case neg =>
          have e1 : (l.length == 0) = false := by simpa using hl
          have e2 : ((l.length : Int) == 0) = false := by simpa using hl
          go_enter Try.func52, Try.ntmps52
          go_wp2
          go_ret
          exact ⟨-1, rfl, look_no, fr1⟩
        obtain rfl : l = [] := List.eq_nil_of_length_eq_zero hl
        by_cases hr1 : r < 1
        case pos =>
          go_enter Try.func52, Try.ntmps52
          go_wp2
          go_ret
          exact ⟨-1, rfl, look_no, fr1⟩
        have hr2 : decide (r < 1) = false := by simpa using hr1
        clear HIH
        go_enter Try.func52, Try.ntmps52
        go_wp2_with fail
        refine wp_loop_rounds 1 ?_
        rw [rounds_succ]
        go_wp2_with fail
        go_ret
        refine ⟨left - 1, rfl, ?_, fr1⟩
        rw [T.v_mk]
        refine look_leaf ?_ (by decide) (by omega) (by omega) (by omega)
        simp [fok]; omega
      · skip
        have f1 : (k == 1) = false := by simp; omega
        have f2 : (k == 2) = false := by simp; omega
        have f3 : (k == 3) = false := by simp; omega
        have f4 : (k == 4) = false := by simp; omega
        have f5 : decide (4 < k) = true := by simp; omega
        by_cases hn : n = 0
        case neg =>
          have e1 : (n == 0) = false := by simpa using hn
          go_enter Try.func52, Try.ntmps52
          go_wp2
          go_ret
          exact ⟨-1, rfl, look_no, fr1⟩
        subst hn
        by_cases hs : s = ⟨#[]⟩
        case neg =>
          have e1 : (s.toList == []) = false := by simp only [beq_eq_false_iff_ne, ne_eq]; exact fun h => hs (bytes_extA (by rw [h, h0]))
          go_enter Try.func52, Try.ntmps52
          go_wp2
          go_ret
          exact ⟨-1, rfl, look_no, fr1⟩
        subst hs
        by_cases hl : l.length = 0
        case neg =>
          have e1 : (l.length == 0) = false := by simpa using hl
          have e2 : ((l.length : Int) == 0) = false := by simpa using hl
          go_enter Try.func52, Try.ntmps52
          go_wp2
          go_ret
          exact ⟨-1, rfl, look_no, fr1⟩
        obtain rfl : l = [] := List.eq_nil_of_length_eq_zero hl
        by_cases hr : r = 0
        case neg =>
          have e1 : (r == 0) = false := by simpa using hr
          go_enter Try.func52, Try.ntmps52
          go_wp2
          go_ret
          exact ⟨-1, rfl, look_no, fr1⟩
        subst hr
        go_enter Try.func52, Try.ntmps52
        go_wp2
        go_ret
        exact ⟨-1, rfl, look_no, fr1⟩

end Go.Proofs.Ytnddfiohofnbaaa

/- SealSealed: room, Great, may, Nothing, hold. -/
namespace Go.Proofs.Ytnddfiohofnbaaa
open Go.RowKit


set_option maxRecDepth 100000 in
set_option maxHeartbeats 4000000 in
theorem room_any (t : T) : ∀ (left : Int) (w : World) (lo hi : Nat), t.In w lo hi → hi ≤ w.heap.size → -3000000000000 ≤ left → left ≤ 20000 →
    Calls Try.prog 51 #[t.val, .int .i64 left] w fun e w' => ∃ x : Int, e = .returned (.int .i64 x) ∧ -3000000000000 ≤ x ∧ x ≤ 20000 ∧ Fr No w w' := by
  induction t using T.ind with
  | h k n s A cap l r ih =>
    intro left w lo hi ht hh hl0 hl1
    rw [T.val_mk]
    have fit := (T.in_mk.1 ht).1
    have hlen := fit.len1
    have hs1 := fit.s1
    have fr1 := (Fr.refl No w).alloc (.cells #[.int .u8 k, .int .i64 n, .string s, .slice A l.length cap, .int .i64 r] 37)
    have hK := Blk.new' w 37 #[.int .u8 k, .int .i64 n, .string s, .slice A l.length cap, .int .i64 r] rfl
    by_cases hleft : left < 0
    · clear ih
      go_enter Try.func51, Try.ntmps51
      go_wp2
      go_ret
      exact ⟨-1, rfl, by omega, by omega, fr1⟩
    · have hleft2 : decide (left < 0) = false := by simpa using hleft
      have hw : IntKind.i64.wrap (left - 1) = left - 1 := IntWalk.i64_in _ (by omega)
      have hw2 : IntKind.i64.wrap (left - 1 - (s.size : Int) / 64) = left - 1 - (s.size : Int) / 64 := IntWalk.i64_in _ (by omega)
      have hw3 : IntKind.i64.wrap ((s.size : Int) / 64) = (s.size : Int) / 64 := IntWalk.i64_in _ (by omega)
      have hb : -3000000000000 ≤ left - 1 - (s.size : Int) / 64 := by omega
      have hb1 : left - 1 - (s.size : Int) / 64 ≤ 20000 := by omega
      have HIH := hide ih
      have HT := hide ht
      clear ih ht fit
      go_enter Try.func51, Try.ntmps51
      go_wp2_with fail
      generalize left - 1 - (s.size : Int) / 64 = z at *
      go_loopw [1, 5] (fun v i wr => ∃ (j : Nat) (x : Int), j ≤ l.length ∧ i = .int .i64 (j : Int) ∧ v = .int .i64 x ∧ -3000000000000 ≤ x ∧ x ≤ 20000 ∧ Fr No (w.alloc (.cells #[.int .u8 k, .int .i64 n, .string s, .slice A l.length cap, .int .i64 r] 37)) wr) (fun _ i _ => l.length - (intOf i).toNat)
      case atStart => exact ⟨0, z, Nat.zero_le _, rfl, rfl, hb, hb1, Fr.refl _ _⟩
      case round =>
        obtain ⟨j, x, hj, rfl, rfl, hx0, hx1, fr⟩ := hrel
        obtain ⟨d0, d1, d2, d3, d4, df⟩ := (hK.fr fr fun h => h).cells5
        have q0 := (hK.fr fr fun h => h).lt
        have frw := fr1.trans fr
        by_cases hlt : j < l.length
        · by_cases hxn : 0 ≤ x
          · obtain ⟨b, o, k1, n1, s1, A1, cap1, l1, r1, rfl, hb0, hb1', hxx, hin, e0, e1, e2, e3, e4⟩ := T.elem (HT.out.no frw hh) hlt
            have hc := HIH.out l[j] (List.getElem_mem hlt) x wr lo hi (by rw [hxx]; exact hin) (by have := frw.size; omega) (by omega) (by omega)
            rw [hxx, T.val_mk] at hc
            have g0 : b < wr.heap.size := by have := frw.size; omega
            have HC := hide hc
            have HF := hide fr
            clear hc fr frw hxx hin HIH fr1
            go_wp2_with fail
            refine HC.out.mono ?_
            rintro e w2 ⟨y, rfl, hy0, hy1, fr2⟩
            have HF2 := hide (HF.out.trans fr2)
            clear fr2
            go_wp2
            go_roundw
            case rel => exact ⟨j + 1, y, hlt, by go_num, rfl, hy0, hy1, HF2.out⟩
            case measure => simp [intOf]; omega
          · have HW := hide frw
            have hxn2 : decide (x ≥ 0) = false := by simpa using hxn
            clear frw fr fr1 HIH
            go_wp2
            go_ret
            exact ⟨x, rfl, hx0, hx1, HW.out⟩
        · obtain rfl : l.length = j := by omega
          have HW := hide frw
          clear frw fr fr1 HIH
          go_wp2
          go_ret
          exact ⟨x, rfl, hx0, hx1, HW.out⟩

set_option maxRecDepth 100000 in
theorem Great_any (t : T) (w : World) (lo hi : Nat) (ht : t.In w lo hi) (hh : hi ≤ w.heap.size) : Calls Try.prog 17 #[t.val] w fun e w' => (∃ q : Bool, e = .returned (.bool q)) ∧ Fr No w w' := by
  obtain ⟨k, n, s, A, cap, l, r⟩ := t
  have f0 := (Fr.refl No w).alloc (.cells #[.int .u8 k, .int .i64 n, .string s, .slice A l.length cap, .int .i64 r] 37)
  have hR := room_any (T.mk k n s A cap l r) 20000 _ lo hi (ht.no f0 hh) (Nat.le_trans hh f0.size) (by omega) (by omega)
  rw [T.val_mk] at *
  have HR := hide hR
  have HF := hide f0
  clear hR f0 ht
  go_enter Try.func17, Try.ntmps17
  go_wp2_with fail
  refine HR.out.mono ?_
  rintro e w2 ⟨x, rfl, h0, h1, f2⟩
  go_wp2
  go_ret
  exact ⟨⟨_, rfl⟩, HF.out.trans f2⟩

set_option maxRecDepth 100000 in
/-- The law's may, of a value that may not be. -/
theorem lmay_no (t : T) (w : World) (lo hi : Nat) (ht : t.In w lo hi) (hh : hi ≤ w.heap.size) (hm : t.v.may = false) : Calls Try.prog 19 #[t.val] w fun e w' => e = .returned (.bool false) ∧ Fr No w w' := by
  have hG := fun w' (f : Fr No w w') => Great_any t w' lo hi (ht.no f hh) (Nat.le_trans hh f.size)
  have hL := fun w' (f : Fr No w w') => look_any t 512 16 w' lo hi (ht.no f hh) (Nat.le_trans hh f.size) (by omega) (by omega) (by omega) (by omega)
  have hX : ∀ x, LookP t.v 512 16 x → x < 0 := fun x h => by
    by_cases h0 : 0 ≤ x
    · rw [look_may h h0] at hm; cases hm
    · omega
  obtain ⟨k, n, s, A, cap, l, r⟩ := t
  have f0 := (Fr.refl No w).alloc (.cells #[.int .u8 k, .int .i64 n, .string s, .slice A l.length cap, .int .i64 r] 37)
  have hK := Blk.new' w 37 #[.int .u8 k, .int .i64 n, .string s, .slice A l.length cap, .int .i64 r] rfl
  rw [T.val_mk] at *
  generalize (T.mk k n s A cap l r).v = u at *
  have HG := hide hG
  have HL := hide hL
  have HX := hide hX
  have HF := hide f0
  have HK := hide hK
  clear hG hL hX f0 ht hm hK
  go_enter Try.func19, Try.ntmps19
  go_wp2_with fail
  refine (HG.out _ HF.out).mono ?_
  rintro e w2 ⟨⟨q, rfl⟩, f2⟩
  obtain ⟨d0, d1, d2, d3, d4, df⟩ := (HK.out.fr f2 fun h => h).cells5
  have q0 := (HK.out.fr f2 fun h => h).lt
  have HF2 := hide (HF.out.trans f2)
  clear f2
  cases q with
  | true =>
    go_wp2
    go_ret
    exact ⟨rfl, HF2.out⟩
  | false =>
    go_wp2_with fail
    refine (HL.out _ HF2.out).mono ?_
    rintro e w3 ⟨x, rfl, hx, f3⟩
    have hx0 := HX.out x hx
    have hx1 : decide (x ≥ 0) = false := by simp; omega
    have HF3 := hide (HF2.out.trans f3)
    clear f3 hx
    go_wp2
    go_ret
    exact ⟨rfl, HF3.out⟩

set_option maxRecDepth 100000 in
theorem Nothing_zero (w : World) : Calls Try.prog 23 #[.agg #[.int .u8 0, .int .i64 0, .string ⟨#[]⟩, .slice none 0 0, .int .i64 0]] w fun e w' => e = .returned (.bool true) ∧ Fr No w w' := by
  have f0 := (Fr.refl No w).alloc (.cells #[.int .u8 0, .int .i64 0, .string ⟨#[]⟩, .slice none 0 0, .int .i64 0] 37)
  have hin := fun w' : World => (T.ow_nil (w := w') (lo := 0) (hi := 0) (k := 0) (n := 0) (s := ⟨#[]⟩) (A := none) (cap := 0) (r := 0) ⟨by decide, by decide, by decide, by decide, by decide, by decide, by decide, by decide, by decide⟩).inn
  have hA := fun w' : World => alike_any (T.mk 0 0 ⟨#[]⟩ none 0 [] 0) (T.mk 0 0 ⟨#[]⟩ none 0 [] 0) w' 0 0 0 0 (hin w') (Nat.zero_le _) (hin w') (Nat.zero_le _)
  rw [T.val_mk] at hA
  have HA := hide hA
  have HF := hide f0
  clear hA f0 hin
  go_enter Try.func23, Try.ntmps23
  go_wp2_with fail
  refine (HA.out _).mono ?_
  rintro e w2 ⟨q, rfl, hq, f2⟩
  obtain rfl : q = true := hq.2 rfl
  go_wp2
  go_ret
  exact ⟨rfl, HF.out.trans f2⟩

theorem hold_any (b : Int) (w : World) : Calls Try.prog 21 #[.int .i64 b] w fun e w' => e = .returned (.agg #[.int .u8 4, .int .i64 0, .string ⟨#[]⟩, .slice none 0 0, .int .i64 b]) ∧ Fr No w w' := by
  go_enter Try.func21, Try.ntmps21
  go_wp2
  refine bodyPost_ret (v := .agg #[.int .u8 4, .int .i64 0, .string ⟨#[]⟩, .slice none 0 0, .int .i64 b]) (by simp [results, Try.results21, go_sem, *]) rfl ⟨rfl, ?_⟩
  repeat (first | with_reducible exact Fr.refl No w | with_reducible refine Fr.alloc ?_ _ | with_reducible refine Fr.setNew ?_ (by first | (simp; done) | (simp; omega)) _)

end Go.Proofs.Ytnddfiohofnbaaa

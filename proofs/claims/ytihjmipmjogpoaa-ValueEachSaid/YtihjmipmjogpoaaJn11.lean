/- Texts joined: P7, Z6, P8, Q2, P15, P18, J9, H4, I0. -/
import Derived.Test.YtihjmipmjogpoaaJn10
import Derived.Laws.AppendOwnNone
import Derived.Deep.QuietTactic
import Derived.BigQuiet
import Derived.Deep.AppendLies
import Derived.Deep.Upon
import Derived.Deep.RegionHeld3
/- Chapter 2: the document's answer: Deep, Refs. -/
namespace Go.Proofs.Ytihjmipmjogpoaa
open Go.RowKit

set_option maxRecDepth 100000 in
set_option maxHeartbeats 2000000 in
/-- The document's Deep. -/
theorem refDeep_any (t : T) : ∀ (w : World) (lo hi : Nat), t.In w lo hi → hi ≤ w.heap.size → t.v.dep ≤ 16 → Calls Try.prog 63 #[t.val] w fun e w' => e = .returned (.int .i64 (t.v.dep : Int)) ∧ Fr No w w' := by
  induction t using T.ind with
  | h k n s A cap l r ih =>
    intro w lo hi ht hh hd
    rw [T.val_mk]
    have fit := (T.in_mk.1 ht).1
    have hlen := fit.len1
    have hK := Blk.new' w 27 #[.int .u8 k, .int .i64 n, .string s, .slice A l.length cap, .int .i64 r] rfl
    have fr1 := (Fr.refl No w).alloc (.cells #[.int .u8 k, .int .i64 n, .string s, .slice A l.length cap, .int .i64 r] 27)
    by_cases h3 : k = 3
    case neg =>
      have h3' : (k != 3) = true := by simpa using h3
      have e : (T.mk k n s A cap l r).v.dep = 0 := by rw [T.v_mk, V.dep_mk, if_neg h3]
      rw [e]
      clear ih
      go_enter Try.func63, Try.ntmps63
      go_wp2
      go_ret
      exact ⟨rfl, fr1⟩
    subst h3
    have e : (T.mk 3 n s A cap l r).v.dep = top ((l.map T.v).map V.dep) + 1 := by rw [T.v_mk, V.dep_mk, if_pos rfl]; omega
    rw [e] at hd ⊢
    have hchild : ∀ x ∈ l, x.v.dep ≤ 15 := by
      intro x hx
      have := le_top (List.mem_map_of_mem (f := V.dep) (List.mem_map_of_mem (f := T.v) hx))
      omega
    clear e
    go_enter Try.func63, Try.ntmps63
    go_wp2_with fail
    go_loopw [3, 4, 5] (fun v i _ wr => ∃ j m : Nat, j ≤ l.length ∧ i = .int .i64 j ∧ v = .int .i64 (m : Int) ∧ m = top (((l.map T.v).map V.dep).take j) ∧ m ≤ 16 ∧ Fr No (w.alloc (.cells #[.int .u8 3, .int .i64 n, .string s, .slice A l.length cap, .int .i64 r] 27)) wr) (fun _ i _ _ => l.length - (intOf i).toNat)
    case atStart =>
      exact ⟨0, 0, Nat.zero_le _, rfl, rfl, by simp [top], by omega, Fr.refl _ _⟩
    case round =>
      obtain ⟨j, m, hj, rfl, rfl, hm, hm17, fr⟩ := hrel
      have frw := fr1.trans fr
      have HM := hide hm
      obtain ⟨c0, c1, c2, c3, c4, cf⟩ := (hK.fr fr fun h => h).cells5
      clear hm
      by_cases hlt : j < l.length
      · obtain ⟨b, o, k1, n1, s1, A1, cap1, l1, r1, rfl, hb0, hb1, hx, hin, e0, e1, e2, e3, e4⟩ := T.elem (ht.no frw hh) hlt
        have IH := ih l[j] (List.getElem_mem hlt)
        have hc := hchild l[j] (List.getElem_mem hlt)
        have hto := top_take_succ ((l.map T.v).map V.dep) j (by simpa using hlt)
        rw [List.getElem_map, List.getElem_map] at hto
        rw [hx] at IH hc hto
        rw [T.val_mk] at IH
        generalize (T.mk k1 n1 s1 A1 cap1 l1 r1).v = u at *
        have g0 : b < wr.heap.size := by have := frw.size; omega
        have IH2 := IH wr lo hi hin (by have := frw.size; omega) (by omega)
        have HIH := hide IH2
        have HF := hide fr
        have HT := hide hto
        clear hx ih fr frw fr1 hto hchild hin IH IH2
        generalize hq : u.dep = q at *
        have HQ := hide hq
        clear hq
        go_wp2_with fail
        refine HIH.out.mono ?_
        rintro e w2 ⟨rfl, fr2⟩
        have HF2 := hide fr2
        clear fr2
        by_cases hlt2 : m < q
        · go_wp2
          go_roundw
          case rel => exact ⟨j + 1, q, hlt, by go_num, rfl, by rw [HT.out, ← HM.out, Nat.max_eq_right (by omega)], by omega, HF.out.trans HF2.out⟩
          case measure => simp [intOf]; omega
        · go_wp2
          go_roundw
          case rel => exact ⟨j + 1, m, hlt, by go_num, rfl, by rw [HT.out, ← HM.out, Nat.max_eq_left (by omega)], by omega, HF.out.trans HF2.out⟩
          case measure => simp [intOf]; omega
      · obtain rfl : l.length = j := by omega
        have HW := hide frw
        clear ih
        have hm2 : m = top ((l.map T.v).map V.dep) := by rw [HM.out, List.take_of_length_le (by simp)]
        have HM2 := hide hm2
        clear hm2
        go_wp2
        go_ret
        exact ⟨by rw [← HM2.out]; rfl, HW.out⟩

/-- The references of a value, by the document. -/
def V.rf : V → List Int
  | .mk k _ _ l r => if k = 4 then [r] else (l.map V.rf).flatten
termination_by v => v
theorem V.rf_mk (k n : Int) (s : ByteArray) (l : List V) (r : Int) : (V.mk k n s l r).rf = if k = 4 then [r] else (l.map V.rf).flatten := by rw [V.rf]

theorem rf_walkL (l : List V) : ∀ (i : Nat) (p : List Int), (∀ v ∈ l, ∀ p, refsOf (v.walk p) = v.rf) → refsOf (walkL (l.map V.walk) i p) = (l.map V.rf).flatten := by
  induction l with
  | nil => intro i p _; rfl
  | cons x l ih =>
    intro i p h
    simp only [List.map_cons, walkL, refsOf_append, List.flatten_cons]
    rw [h x (by simp), ih (i + 1) p fun v hv => h v (by simp [hv])]

theorem rf_walk (v : V) : v.ok = true → ∀ p, refsOf (v.walk p) = v.rf := by
  induction v using V.ind with
  | h k n s l r ih =>
    intro hok p
    rw [V.ok_mk, Bool.and_eq_true, List.all_eq_true] at hok
    rw [V.walk_mk, V.rf_mk]
    simp only [refsOf]
    by_cases h4 : k = 4
    · obtain rfl : l = [] := List.eq_nil_of_length_eq_zero (fok_len (by omega) hok.1)
      simp [h4, walkL, refsOf]
    · rw [if_neg h4, if_neg h4, rf_walkL l 0 p fun v hv => ih v hv (hok.2 v hv)]

theorem refs_rf {v : V} (h : v.may = true) : v.refs = v.rf := by
  rw [V.refs, if_pos h, rf_walk v (may_ok h)]

theorem rf_length (v : V) : v.rf.length ≤ v.size := by
  induction v using V.ind with
  | h k n s l r ih =>
    rw [V.rf_mk, V.size_mk]
    split
    · simp
    · have : ((l.map V.rf).flatten).length ≤ (l.map V.size).sum := by
        rename_i h4
        clear h4
        induction l with
        | nil => simp
        | cons x l ih2 =>
          have h1 := ih x (by simp)
          have h2 := ih2 fun v hv => ih v (by simp [hv])
          simp only [List.map_cons, List.flatten_cons, List.length_append, List.sum_cons]
          omega
      omega

abbrev refCells (L : List Int) : List Value := L.map fun r => Value.int .i64 r

/-- What the document's Refs gives. -/
def RfP (L : List Int) (w : World) (e : Ending) (w' : World) : Prop :=
  ∃ v, e = .returned v ∧ w'.ownsRow w.heap.size 25 1 v L.length (refCells L) ∧ (L = [] → v = .slice none 0 0) ∧ Fr No w w'

set_option maxRecDepth 100000 in
set_option maxHeartbeats 4000000 in
theorem refRefs_any (t : T) : ∀ (w : World) (lo hi : Nat), t.In w lo hi → hi ≤ w.heap.size → t.v.size ≤ 1000000 → Calls Try.prog 62 #[t.val] w (RfP t.v.rf w) := by
  induction t using T.ind with
  | h k n s A cap l r ih =>
    intro w lo hi ht hh hsz
    rw [T.val_mk]
    have fit := (T.in_mk.1 ht).1
    have hlen := fit.len1
    have hK := Blk.new' w 27 #[.int .u8 k, .int .i64 n, .string s, .slice A l.length cap, .int .i64 r] rfl
    have fr1 := (Fr.refl No w).alloc (.cells #[.int .u8 k, .int .i64 n, .string s, .slice A l.length cap, .int .i64 r] 27)
    by_cases h4 : k = 4
    · subst h4
      have e : (T.mk 4 n s A cap l r).v.rf = [r] := by rw [T.v_mk, V.rf_mk, if_pos rfl]
      rw [e]
      have hB := Blk.new (w.alloc (.cells #[.int .u8 4, .int .i64 n, .string s, .slice A l.length cap, .int .i64 r] 27)) 25 #[.int .i64 r]
      have hP : RfP [r] w (.returned (.slice (some ⟨w.heap.size + 1, 0, none⟩) 1 1)) ((w.alloc (.cells #[.int .u8 4, .int .i64 n, .string s, .slice A l.length cap, .int .i64 r] 27)).alloc (.cells #[.int .i64 r] 25)) := by
        refine ⟨_, rfl, ⟨rfl, .inr ⟨w.heap.size + 1, 1, #[.int .i64 r], rfl, by omega, ?_, Nat.le_refl _, by unfold maxLen; omega, rfl, rfl⟩⟩, (fun h => by cases h), fr1.alloc _⟩
        rw [World.size_alloc] at hB
        exact hB
      have HP := hide hP
      clear ih hP hB
      go_enter Try.func62, Try.ntmps62
      go_wp2
      go_ret
      exact HP.out
    have h4' : (k == 4) = false := by simpa using h4
    have hrf : (T.mk k n s A cap l r).v.rf = ((l.map T.v).map V.rf).flatten := by rw [T.v_mk, V.rf_mk, if_neg h4]
    have hsize : (T.mk k n s A cap l r).v.size = 1 + ((l.map T.v).map V.size).sum := by rw [T.v_mk, V.size_mk]
    rw [hsize] at hsz
    have HRF := hide hrf
    clear hsize hrf
    obtain ⟨i0, hi0, hz0, hz1, hz2⟩ := info_parts ref_info
    go_enter Try.func62, Try.ntmps62
    go_wp2_with fail
    go_loopw [3, 4] (fun v i wr => ∃ (j : Nat) (A3 : Option Addr) (c3 : Nat) (L : List Int), j ≤ l.length ∧ i = .int .i64 j ∧ v = .slice A3 L.length c3 ∧ L = (((l.map T.v).take j).map V.rf).flatten ∧ wr.ownsRow (w.heap.size + 1) 25 1 v L.length (refCells L) ∧ (L = [] → v = .slice none 0 0) ∧ L.length ≤ (((l.map T.v).map V.size).take j).sum ∧ Fr No w wr ∧ Blk wr w.heap.size 27 #[.int .u8 k, .int .i64 n, .string s, .slice A l.length cap, .int .i64 r]) (fun _ i _ => l.length - (intOf i).toNat)
    case atStart =>
      exact ⟨0, none, 0, [], Nat.zero_le _, rfl, rfl, by simp, World.ownsRow_nil _ _ _ _, fun _ => rfl, by simp, fr1, hK⟩
    case round =>
      obtain ⟨j, A3, c3, L, hj, rfl, rfl, hL, own, hnil, hLs, fr, blk⟩ := hrel
      obtain ⟨c0, c1, c2, c3', c4, cf⟩ := blk.cells5
      have q0 := blk.lt
      have hts := sum_take_le ((l.map T.v).map V.size) j
      by_cases hlt : j < l.length
      · obtain ⟨b, o, k1, n1, s1, A1, cap1, l1, r1, rfl, hb0, hb1, hx, hin, e0, e1, e2, e3, e4⟩ := T.elem (ht.no fr hh) hlt
        have hto := sum_take_succ ((l.map T.v).map V.size) j (by simpa using hlt)
        have hts2 := sum_take_le ((l.map T.v).map V.size) (j + 1)
        rw [List.getElem_map, List.getElem_map, hx] at hto
        have hj' : j < (l.map T.v).length := by simpa using hlt
        have hap : (((l.map T.v).take (j + 1)).map V.rf).flatten = L ++ (T.mk k1 n1 s1 A1 cap1 l1 r1).v.rf := by
          rw [List.take_succ_eq_append_getElem hj', List.map_append, List.flatten_append, ← hL, List.getElem_map, hx]; simp
        have hrl := rf_length (T.mk k1 n1 s1 A1 cap1 l1 r1).v
        have IH := ih l[j] (List.getElem_mem hlt) wr lo hi (by rw [hx]; exact hin) (by have := fr.size; omega)
        rw [hx, T.val_mk] at IH
        generalize (T.mk k1 n1 s1 A1 cap1 l1 r1).v = u at *
        have IH2 := IH (by omega)
        have hus : u.size ≤ 1000000 := by omega
        have g0 : b < wr.heap.size := by have := fr.size; omega
        have HIH := hide IH2
        have HO := hide own
        have HF := hide fr
        have HB := hide blk
        have HN := hide hnil
        have HAP := hide hap
        have HTO := hide hto
        have HLS := hide hLs
        clear ih IH IH2 own fr blk hnil hap hto hL hx hin ht hLs hts2
        generalize hR : u.rf = R at *
        have HR := hide hR
        have hRl : R.length ≤ 1000000 := by omega
        have hLl : L.length ≤ 1000000 := by have := HLS.out; omega
        clear hR
        go_wp2_with fail
        refine HIH.out.mono ?_
        rintro e w2 ⟨vc, rfl, oc, hcn, f2⟩
        have hs2 := f2.size
        have hsw := HF.out.size
        have own2 := owns_fr HO.out f2 fun _ _ h => h
        have HF2 := hide f2
        have HB2 := hide (HB.out.fr f2 fun h => h)
        rcases List.eq_nil_or_concat R with rfl | ⟨R', x, hRe⟩
        · obtain rfl := hcn rfl
          clear hcn f2
          go_wp2_with (at_builtin; refine wpList_append_own_none (by rfl) _ _ _ (by rfl) (w.heap.size + 1) 25 i0 1 Try.underlying100 hi0 (.slice A3 L.length c3) L.length (refCells L) (by rfl) own2 (by rfl) ?_)
          go_roundw
          case rel => exact ⟨j + 1, A3, c3, L, hlt, by go_num, rfl, by rw [HAP.out]; simp, own2, HN.out, by rw [HTO.out]; have := HLS.out; omega, HF.out.trans HF2.out, HB2.out⟩
          case measure => simp [intOf]; omega
        · have hne : 0 < R.length := by rw [hRe]; simp
          clear hRe hcn
          obtain ⟨gc, cc, rfl, hg1, hg2⟩ := oc.form hne
          have hnews := World.ownsRow.cells oc (g := gc) rfl
          have HNE := hide hnews
          clear hnews oc f2
          go_wp2_with (at_builtin; refine wpList_append_lies _ (by rfl) _ _ _ (by rfl) (w.heap.size + 1) 25 i0 _ 1 8 Try.underlying100 hi0 hz0 hz1 hz2 (by rfl) (by omega) (.slice A3 L.length c3) L.length (refCells L) (by rfl) own2 ⟨gc, 0, none⟩ R.length cc (refCells R) (by rfl) (by simp) HNE.out (by simp [Value.oneCell']) hne (by unfold maxLen; omega) (by omega) (by omega) w2.heap.size rfl ?_; intro g cp w3 hown3 hgrow hat hlt3; have HO3 := hide hown3; have HG := hide hgrow; have HA := hide hat; clear hown3 hgrow hat)
          go_roundw
          case rel =>
            have hl2 := owns_lt own2
            have e : (L ++ R).length = L.length + R.length := List.length_append
            have hnb : ∀ i, i < w.heap.size + 1 → ¬ some i = (Value.slice A3 L.length c3).ownBlock := fun i hi h => by
              have := hl2 i h.symm; omega
            refine ⟨j + 1, some ⟨g, 0, none⟩, cp, L ++ R, hlt, by go_num, by rw [e], HAP.out.symm, ?_, fun h => ?_, ?_, ?_, HB2.out.fr (fr_grown HG.out) (hnb _ (by omega))⟩
            · have := HO3.out
              rw [e, refCells, List.map_append]
              exact this
            · exfalso
              have e0 : (L ++ R).length = 0 := by rw [h]; rfl
              omega
            · rw [HTO.out, e]; have := HLS.out; omega
            · exact (HF.out.trans HF2.out).trans' (fr_grown HG.out) fun i hi h => hnb i (by omega) h
          case measure => simp [intOf]; omega
      · obtain rfl : l.length = j := by omega
        have hLe : L = ((l.map T.v).map V.rf).flatten := by rw [hL, List.take_of_length_le (by simp)]
        have hP : RfP (T.mk k n s A cap l r).v.rf w (.returned (.slice A3 L.length c3)) wr := by
          rw [HRF.out, ← hLe]
          exact ⟨_, rfl, owns_mono own (by omega), hnil, fr⟩
        have HP := hide hP
        clear hP own hnil fr ih ht
        go_wp2
        go_ret
        exact HP.out

end Go.Proofs.Ytihjmipmjogpoaa

/- Chapter 2: posternlaw02.awake. -/
namespace Go.Proofs.Ytihjmipmjogpoaa
open Go.RowKit

theorem func105_neq_nil (w : World) (g : Nat) : (binOp .neq 73 (.func (.func 105) #[] #[.pointer (some ⟨g, 0, none⟩)]) .nilFunc).run Try.prog w = .ok (.bool true) w := by kernel_rfl

set_option maxRecDepth 100000 in
set_option maxHeartbeats 8000000 in
theorem awake_any (w : World) : Calls Try.prog 38 #[] w fun e w' => e = .returned (.bool true) ∧ Fr No w w' := by
  have hfn := func105_neq_nil
  go_enter Try.func38, Try.ntmps38
  go_wp2_with fail
  refine (num2_any 1 w).mono ?_
  rintro e w1 ⟨rfl, f1⟩
  go_wp2_with fail
  refine (ref2_any 7 w1).mono ?_
  rintro e w2 ⟨rfl, f2⟩
  have g2 := f1.trans f2
  clear f1 f2
  go_wp2_with fail
  have hB3 : Blk (w2.alloc (.cells awC1 27)) w2.heap.size 27 awC1 := Blk.new w2 27 awC1
  have g3 := g2.alloc (.cells awC1 27)
  unfold awC1 at hB3 g3
  generalize World.alloc w2 _ = w3 at *
  refine (list2_any _ 1 1 w3).mono ?_
  rintro e w4 ⟨rfl, f4⟩
  have hB4 := hB3.fr f4 fun h => h
  have g4 := g3.trans f4
  clear hB3 g3 f4 g2
  go_wp2_with fail
  have hB5 := hB4.alloc (.cells (awC2 w2.heap.size) 27)
  have hC5 : Blk (w4.alloc (.cells (awC2 w2.heap.size) 27)) w4.heap.size 27 (awC2 w2.heap.size) := Blk.new w4 27 _
  have g5 := g4.alloc (.cells (awC2 w2.heap.size) 27)
  unfold awC2 at hB5 hC5 g5
  generalize World.alloc w4 _ = w5 at *
  refine (list2_any _ 2 2 w5).mono ?_
  rintro e w6 ⟨rfl, f6⟩
  have hB6 := hB5.fr f6 fun h => h
  have hC6 := hC5.fr f6 fun h => h
  have g6 := g5.trans f6
  clear hB5 hC5 hB4 g4 g5 f6
  go_wp2_with fail
  have hV7 : Blk (w6.alloc (.cells #[.int .u8 3, .int .i64 0, .string ⟨#[]⟩, .slice (some ⟨w4.heap.size, 0, none⟩) 2 2, .int .i64 0] 27)) w6.heap.size 27 #[.int .u8 3, .int .i64 0, .string ⟨#[]⟩, .slice (some ⟨w4.heap.size, 0, none⟩) 2 2, .int .i64 0] := Blk.new w6 27 _
  have hB7 := hB6.alloc (.cells #[.int .u8 3, .int .i64 0, .string ⟨#[]⟩, .slice (some ⟨w4.heap.size, 0, none⟩) 2 2, .int .i64 0] 27)
  have hC7 := hC6.alloc (.cells #[.int .u8 3, .int .i64 0, .string ⟨#[]⟩, .slice (some ⟨w4.heap.size, 0, none⟩) 2 2, .int .i64 0] 27)
  have g7 := g6.alloc (.cells #[.int .u8 3, .int .i64 0, .string ⟨#[]⟩, .slice (some ⟨w4.heap.size, 0, none⟩) 2 2, .int .i64 0] 27)
  clear hB6 hC6 g6
  generalize World.alloc w6 _ = w7 at *
  generalize w6.heap.size = gv at *
  generalize w4.heap.size = gc at *
  generalize w2.heap.size = gb at *
  refine (aw_bytes hB7 hC7).mono ?_
  rintro e w8 ⟨rfl, f8⟩
  unfold awS
  have hV8 := hV7.fr f8 fun h => h
  have hB8 := hB7.fr f8 fun h => h
  have hC8 := hC7.fr f8 fun h => h
  have g8 := g7.trans f8
  clear hV7 hB7 hC7 g7 f8
  go_wp2_with fail
  refine (aw_read w8).mono ?_
  rintro e w9 ⟨⟨⟨k, n, s, A, cap, l, r⟩, ht, rfl, hin⟩, f9⟩
  rw [T.val_mk]
  have hV9 := hV8.fr f9 fun h => h
  have hB9 := hB8.fr f9 fun h => h
  have hC9 := hC8.fr f9 fun h => h
  have g9 := g8.trans f9
  obtain ⟨c0, c1, c2, c3, c4, -⟩ := hV9.cells5
  have q0 := hV9.lt
  have HT := hide ht
  have HI := hide hin
  clear hV8 hB8 hC8 g8 f9 ht hin
  go_wp2_with fail
  have f10 := ((Fr.refl No w9).alloc (.cells #[.int .u8 k, .int .i64 n, .string s, .slice A l.length cap, .int .i64 r] 27)).alloc (.cells #[.int .i64 1, .int .i64 0] 3)
  have hX10 : Blk ((w9.alloc (.cells #[.int .u8 k, .int .i64 n, .string s, .slice A l.length cap, .int .i64 r] 27)).alloc (.cells #[.int .i64 1, .int .i64 0] 3)) w9.heap.size 27 #[.int .u8 k, .int .i64 n, .string s, .slice A l.length cap, .int .i64 r] := (Blk.new w9 27 _).alloc _
  have hP10 : Blk ((w9.alloc (.cells #[.int .u8 k, .int .i64 n, .string s, .slice A l.length cap, .int .i64 r] 27)).alloc (.cells #[.int .i64 1, .int .i64 0] 3)) (w9.heap.size + 1) 3 #[.int .i64 1, .int .i64 0] := Blk.new' _ 3 _ (by simp)
  have hV10 := hV9.fr f10 fun h => h
  have hB10 := hB9.fr f10 fun h => h
  have hC10 := hC9.fr f10 fun h => h
  have g10 := g9.trans f10
  have HI10 := hide (HI.out.no f10 (Nat.le_refl _))
  have HS10 := hide f10.size
  clear hV9 hB9 hC9 g9 f10 c0 c1 c2 c3 c4 q0
  generalize World.alloc (World.alloc w9 _) _ = w10 at *
  generalize hgx : w9.heap.size = gx at *
  clear hgx
  refine (aw_atc hB10 hC10 hP10).mono ?_
  rintro e w11 ⟨⟨A2, cap2, rfl⟩, f11⟩
  have hV11 := hV10.fr f11 fun h => h
  have hB11 := hB10.fr f11 fun h => h
  have hC11 := hC10.fr f11 fun h => h
  have hX11 := hX10.fr f11 fun h => h
  have g11 := g10.trans f11
  have HI11 := hide (HI10.out.no f11 HS10.out)
  have HS11 := hide (Nat.le_trans HS10.out f11.size)
  clear hV10 hB10 hC10 hX10 hP10 g10 f11 HI10 HS10
  go_wp2_with fail
  have f12 := (Fr.refl No w11).alloc (.cells #[.int .u8 4, .int .i64 0, .string ⟨#[]⟩, .slice A2 0 cap2, .int .i64 7] 27)
  have hY12 : Blk (w11.alloc (.cells #[.int .u8 4, .int .i64 0, .string ⟨#[]⟩, .slice A2 0 cap2, .int .i64 7] 27)) w11.heap.size 27 #[.int .u8 4, .int .i64 0, .string ⟨#[]⟩, .slice A2 0 cap2, .int .i64 7] := Blk.new w11 27 _
  have hV12 := hV11.fr f12 fun h => h
  have hB12 := hB11.fr f12 fun h => h
  have hC12 := hC11.fr f12 fun h => h
  have hX12 := hX11.fr f12 fun h => h
  have g12 := g11.trans f12
  have HI12 := hide (HI11.out.no f12 HS11.out)
  have HS12 := hide (Nat.le_trans HS11.out f12.size)
  clear hV11 hB11 hC11 hX11 g11 f12 HI11 HS11
  generalize World.alloc w11 _ = w12 at *
  generalize hgy : w11.heap.size = gy at *
  clear hgy
  refine (num2_any 1 w12).mono ?_
  rintro e w13 ⟨rfl, f13⟩
  go_wp2_with fail
  refine (num2_any 2 w13).mono ?_
  rintro e w14 ⟨rfl, f14⟩
  go_wp2_with fail
  refine (aw_order w14).mono ?_
  rintro e w15 ⟨rfl, f15⟩
  have f := (f13.trans f14).trans f15
  have hV15 := hV12.fr f fun h => h
  have hB15 := hB12.fr f fun h => h
  have hC15 := hC12.fr f fun h => h
  have hX15 := hX12.fr f fun h => h
  have hY15 := hY12.fr f fun h => h
  have g15 := g12.trans f
  have HI15 := hide (HI12.out.no f HS12.out)
  have HS15 := hide (Nat.le_trans HS12.out f.size)
  clear hV12 hB12 hC12 hX12 hY12 g12 f f13 f14 f15 HI12 HS12
  obtain ⟨c0, c1, c2, c3, c4, -⟩ := hV15.cells5
  obtain ⟨x0, x1, x2, x3, x4, -⟩ := hX15.cells5
  have q0 := hV15.lt
  have q1 := hX15.lt
  go_wp2_with fail
  have HSM := aw_same hB15 hC15 HT.out (T.In.more (Nat.le_refl _) HS15.out _ HI15.out)
  rw [T.val_mk] at HSM
  refine HSM.mono ?_
  rintro e w16 ⟨rfl, f16⟩
  have hV16 := hV15.fr f16 fun h => h
  have hB16 := hB15.fr f16 fun h => h
  have hC16 := hC15.fr f16 fun h => h
  have hY16 := hY15.fr f16 fun h => h
  have g16 := g15.trans f16
  clear hV15 hB15 hC15 hX15 hY15 g15 f16 HI15 HS15 c0 c1 c2 c3 c4 x0 x1 x2 x3 x4 q0 q1 HSM HT HI
  obtain ⟨c0, c1, c2, c3, c4, -⟩ := hV16.cells5
  obtain ⟨y0, y1, y2, y3, y4, -⟩ := hY16.cells5
  have q0 := hV16.lt
  have q1 := hY16.lt
  go_wp2_with fail
  clear c0 c1 c2 c3 c4 y0 y1 y2 y3 y4 q0 q1 hY16
  refine (aw_parts hB16 hC16).mono ?_
  rintro e w17 ⟨rfl, f17⟩
  have hV17 := hV16.fr f17 fun h => h
  have hB17 := hB16.fr f17 fun h => h
  have hC17 := hC16.fr f17 fun h => h
  have g17 := g16.trans f17
  clear hV16 hB16 hC16 g16 f17
  obtain ⟨c0, c1, c2, c3, c4, -⟩ := hV17.cells5
  have q0 := hV17.lt
  go_wp2_with fail
  clear c0 c1 c2 c3 c4 q0
  refine (aw_deep hB17 hC17).mono ?_
  rintro e w18 ⟨rfl, f18⟩
  have hV18 := hV17.fr f18 fun h => h
  have hB18 := hB17.fr f18 fun h => h
  have hC18 := hC17.fr f18 fun h => h
  have g18 := g17.trans f18
  clear hV17 hB17 hC17 g17 f18
  obtain ⟨c0, c1, c2, c3, c4, -⟩ := hV18.cells5
  have q0 := hV18.lt
  go_wp2_with fail
  clear c0 c1 c2 c3 c4 q0
  refine (aw_mayc hB18 hC18).mono ?_
  rintro e w19 ⟨rfl, f19⟩
  have hV19 := hV18.fr f19 fun h => h
  have hB19 := hB18.fr f19 fun h => h
  have hC19 := hC18.fr f19 fun h => h
  have g19 := g18.trans f19
  clear hV18 hB18 hC18 g18 f19
  obtain ⟨c0, c1, c2, c3, c4, -⟩ := hV19.cells5
  have q0 := hV19.lt
  go_wp2_with fail
  clear c0 c1 c2 c3 c4 q0
  refine (aw_each hB19 hC19).mono ?_
  rintro e w20 ⟨rfl, f20⟩
  have g20 := g19.trans f20
  go_wp2
  go_ret
  exact ⟨rfl, g20⟩

end Go.Proofs.Ytihjmipmjogpoaa

/- Chapter 2: a value that came in, and its lent likeness, in a world behind. -/
namespace Go.Proofs.Ytihjmipmjogpoaa
open Go.RowKit

structure Lo (w wi : World) (b0 go : Nat) (v own : T) (lo hi : Nat) : Prop where
  bv : Blk wi b0 27 v.cells.toArray
  bo : Blk wi go 27 own.cells.toArray
  iv : v.In wi 0 w.heap.size
  io : own.In wi lo hi
  mo : own.Mk wi
  f : Fr No w wi
  h0 : w.heap.size ≤ b0
  h1 : b0 < lo
  h2 : lo ≤ hi
  h3 : hi ≤ go

theorem Lo.fr {S : Nat → Prop} {w wi wj : World} {b0 go : Nat} {v own : T} {lo hi : Nat} (h : Lo w wi b0 go v own lo hi) (f : Fr S wi wj) (hs : ∀ i, i ≤ go → ¬ S i) : Lo w wj b0 go v own lo hi := by
  have a := h.bo.lt
  have b := h.f.size
  have c := h.h0
  have d := h.h1
  have e := h.h2
  have g := h.h3
  exact ⟨h.bv.fr f (hs _ (by omega)), h.bo.fr f (hs _ (by omega)), h.iv.fr f b (fun i _ hi => hs i (by omega)), h.io.fr f (by omega) (fun i _ hi => hs i (by omega)),
    T.Mk.fr f (by omega) _ h.io (fun i hi => hs i (by have := T.In.blocks _ h.io i hi; omega)) h.mo, h.f.trans' f (fun i hi hS => hs i (by omega) hS), h.h0, h.h1, h.h2, h.h3⟩

theorem Lo.no {w wi wj : World} {b0 go : Nat} {v own : T} {lo hi : Nat} (h : Lo w wi b0 go v own lo hi) (f : Fr No wi wj) : Lo w wj b0 go v own lo hi := h.fr f fun _ _ h => h

theorem Lo.lt {w wi : World} {b0 go : Nat} {v own : T} {lo hi : Nat} (h : Lo w wi b0 go v own lo hi) : hi ≤ wi.heap.size := by have := h.bo.lt; have := h.h3; omega

theorem may_small {v : V} (h : v.may = true) : (v.size : Int) ≤ 1200 ∧ (v.ht : Int) ≤ 40 := by
  have h1 := ht_le_dep v (may_ok h)
  simp only [V.may, V.fits, Bool.and_eq_true, decide_eq_true_eq] at h
  omega

theorem rf_rng {w : World} {lo hi : Nat} (t : T) : t.In w lo hi → ∀ r ∈ t.v.rf, -9223372036854775808 ≤ r ∧ r ≤ 9223372036854775807 := by
  induction t using T.ind with
  | h k n s A cap l r ih =>
    intro h x hx
    obtain ⟨f, _, hl⟩ := T.in_mk.1 h
    rw [T.v_mk, V.rf_mk] at hx
    split at hx
    · simp at hx; subst hx; exact ⟨f.r0, f.r1⟩
    · obtain ⟨L, hL, hx⟩ := List.mem_flatten.1 hx
      obtain ⟨u, hu, rfl⟩ := List.mem_map.1 hL
      obtain ⟨y, hy, rfl⟩ := List.mem_map.1 hu
      exact ih y hy (hl y hy) x hx

theorem rf_pos (v : V) : v.ok = true → ∀ r ∈ v.rf, 1 ≤ r := by
  induction v using V.ind with
  | h k n s l r ih =>
    intro h x hx
    rw [V.ok_mk, Bool.and_eq_true, List.all_eq_true] at h
    rw [V.rf_mk] at hx
    split at hx
    · rename_i h4
      subst h4
      simp at hx
      subst hx
      have := h.1
      simp [fok] at this
      omega
    · obtain ⟨L, hL, hx⟩ := List.mem_flatten.1 hx
      obtain ⟨u, hu, rfl⟩ := List.mem_map.1 hL
      exact ih u hu (h.2 u hu) x hx

end Go.Proofs.Ytihjmipmjogpoaa

/- Chapter 2: plain laws of renaming. -/
namespace Go.Proofs.Ytihjmipmjogpoaa
open Go.RowKit

theorem ren_size (f : Int → Option Int) (v : V) : (v.ren f).size = v.size := by
  induction v using V.ind with
  | h k n s l r ih =>
    rw [V.ren_mk]
    split
    · rw [V.size_mk, V.size_mk]
    · have e : l.map (V.size ∘ V.ren f) = l.map V.size := List.map_congr_left fun x hx => ih x hx
      rw [V.size_mk, V.size_mk, List.map_map, e]

theorem ren_dep (f : Int → Option Int) (v : V) : (v.ren f).dep = v.dep := by
  induction v using V.ind with
  | h k n s l r ih =>
    rw [V.ren_mk]
    split
    · rw [V.dep_mk, V.dep_mk]
    · have e : l.map (V.dep ∘ V.ren f) = l.map V.dep := List.map_congr_left fun x hx => ih x hx
      rw [V.dep_mk, V.dep_mk, List.map_map, e]

theorem ren_rf (f : Int → Option Int) (v : V) : (v.ren f).rf = v.rf.map fun r => (f r).getD 0 := by
  induction v using V.ind with
  | h k n s l r ih =>
    rw [V.ren_mk]
    by_cases h4 : k = 4
    · rw [if_pos h4, V.rf_mk, V.rf_mk, if_pos h4, if_pos h4]; rfl
    · have e : l.map (V.rf ∘ V.ren f) = l.map (fun v => v.rf.map fun r => (f r).getD 0) := List.map_congr_left fun x hx => ih x hx
      rw [if_neg h4, V.rf_mk, V.rf_mk, if_neg h4, if_neg h4, List.map_map, e, List.map_flatten, List.map_map]
      rfl

theorem named_iff (f : Int → Option Int) (v : V) : v.named f = true ↔ ∀ r ∈ v.rf, (f r).isSome = true := by
  induction v using V.ind with
  | h k n s l r ih =>
    rw [V.named_mk, V.rf_mk]
    by_cases h4 : k = 4
    · simp [h4]
    · rw [if_neg h4, if_neg h4, List.all_eq_true]
      constructor
      · intro h x hx
        obtain ⟨L, hL, hx⟩ := List.mem_flatten.1 hx
        obtain ⟨u, hu, rfl⟩ := List.mem_map.1 hL
        exact (ih u hu).1 (h u hu) x hx
      · intro h u hu
        exact (ih u hu).2 fun x hx => h x (List.mem_flatten.2 ⟨_, List.mem_map_of_mem hu, hx⟩)

theorem ren_ok (f : Int → Option Int) (v : V) : v.ok = true → (∀ r ∈ v.rf, 1 ≤ (f r).getD 0) → (v.ren f).ok = true := by
  induction v using V.ind with
  | h k n s l r ih =>
    intro hok hp
    rw [V.ok_mk, Bool.and_eq_true, List.all_eq_true] at hok
    rw [V.rf_mk] at hp
    rw [V.ren_mk]
    by_cases h4 : k = 4
    · subst h4
      rw [if_pos rfl] at hp ⊢
      have := hp r (by simp)
      rw [V.ok_mk, Bool.and_eq_true, List.all_eq_true]
      refine ⟨?_, hok.2⟩
      have h1 := hok.1
      simp [fok] at h1 ⊢
      exact ⟨⟨⟨this, h1.1.1.2⟩, h1.1.2⟩, h1.2⟩
    · rw [if_neg h4] at hp ⊢
      rw [V.ok_mk, Bool.and_eq_true, List.all_eq_true, List.length_map]
      refine ⟨hok.1, fun u hu => ?_⟩
      obtain ⟨x, hx, rfl⟩ := List.mem_map.1 hu
      exact ih x hx (hok.2 x hx) fun r hr => hp r (List.mem_flatten.2 ⟨_, List.mem_map_of_mem hx, hr⟩)

theorem ren_may {f : Int → Option Int} {v : V} (hm : v.may = true) (hp : ∀ r ∈ v.rf, 1 ≤ (f r).getD 0) : (v.ren f).may = true := by
  have h := hm
  simp only [V.may, V.fits, Bool.and_eq_true, decide_eq_true_eq] at h ⊢
  exact ⟨⟨ren_ok f v h.1.1 hp, by rw [ren_size]; exact h.1.2⟩, by rw [ren_dep]; exact h.2⟩

theorem ren_congr {f g : Int → Option Int} (v : V) : (∀ r ∈ v.rf, (f r).getD 0 = (g r).getD 0) → v.ren f = v.ren g := by
  induction v using V.ind with
  | h k n s l r ih =>
    intro h
    rw [V.rf_mk] at h
    rw [V.ren_mk, V.ren_mk]
    by_cases h4 : k = 4
    · rw [if_pos h4] at h ⊢; rw [if_pos h4, h r (by simp)]
    · rw [if_neg h4] at h ⊢
      rw [if_neg h4]
      have e : l.map (V.ren f) = l.map (V.ren g) := List.map_congr_left fun x hx => ih x hx fun r hr => h r (List.mem_flatten.2 ⟨_, List.mem_map_of_mem hx, hr⟩)
      rw [e]

theorem ren_ren (f g : Int → Option Int) (v : V) : (v.ren f).ren g = v.ren fun r => g ((f r).getD 0) := by
  induction v using V.ind with
  | h k n s l r ih =>
    rw [V.ren_mk, V.ren_mk]
    by_cases h4 : k = 4
    · rw [if_pos h4, if_pos h4, V.ren_mk, if_pos h4]
    · rw [if_neg h4, if_neg h4, V.ren_mk, if_neg h4, List.map_map]
      have e : l.map (V.ren g ∘ V.ren f) = l.map (V.ren fun r => g ((f r).getD 0)) := List.map_congr_left fun x hx => ih x hx
      rw [e]

theorem ren_some (v : V) : v.ren some = v := by
  induction v using V.ind with
  | h k n s l r ih =>
    rw [V.ren_mk]
    by_cases h4 : k = 4
    · rw [if_pos h4]; rfl
    · rw [if_neg h4]
      have e : l.map (V.ren some) = l.map id := List.map_congr_left fun x hx => ih x hx
      rw [e, List.map_id]

theorem ren_id {f : Int → Option Int} {v : V} (h : ∀ r ∈ v.rf, (f r).getD 0 = r) : v.ren f = v := by
  rw [ren_congr (g := some) v h, ren_some]

/-! ### Names -/
theorem nm_mem : ∀ (fs ts : List Int) (r t : Int), nmOf fs ts r = some t → t ∈ ts
  | [], _, _, _, h => by simp [nmOf] at h
  | _ :: _, [], _, _, h => by simp [nmOf] at h
  | f :: fs, t0 :: ts, r, t, h => by
    simp only [nmOf] at h
    split at h
    · injection h with h; simp [h]
    · exact List.mem_cons_of_mem _ (nm_mem fs ts r t h)

theorem nm_isSome : ∀ (fs ts : List Int) (r : Int), fs.length ≤ ts.length → r ∈ fs → (nmOf fs ts r).isSome = true
  | [], _, _, _, h => by simp at h
  | _ :: _, [], _, h, _ => by simp at h
  | f :: fs, t :: ts, r, h, hm => by
    simp only [nmOf]
    split
    · rfl
    · rename_i hne
      rcases List.mem_cons.1 hm with rfl | hm
      · exact absurd rfl hne
      · exact nm_isSome fs ts r (by simpa using h) hm

theorem nm_key : ∀ (fs ts : List Int) (r t : Int), nmOf fs ts r = some t → r ∈ fs
  | [], _, _, _, h => by simp [nmOf] at h
  | _ :: _, [], _, _, h => by simp [nmOf] at h
  | f :: fs, t0 :: ts, r, t, h => by
    simp only [nmOf] at h
    split at h
    · rename_i e; simp [e]
    · exact List.mem_cons_of_mem _ (nm_key fs ts r t h)

/-- There and back. -/
theorem nm_back : ∀ (fs ts : List Int) (r t : Int), ts.Nodup → nmOf fs ts r = some t → nmOf ts fs t = some r
  | [], _, _, _, _, h => by simp [nmOf] at h
  | _ :: _, [], _, _, _, h => by simp [nmOf] at h
  | f :: fs, t0 :: ts, r, t, hn, h => by
    rw [List.nodup_cons] at hn
    simp only [nmOf] at h ⊢
    by_cases hf : f = r
    · rw [if_pos hf] at h
      injection h with h
      rw [if_pos h, hf]
    · rw [if_neg hf] at h
      have hm := nm_mem fs ts r t h
      rw [if_neg (fun e => hn.1 (by rw [e]; exact hm))]
      exact nm_back fs ts r t hn.2 h

/-- Twice at once: each name by what it goes under. -/
theorem nm_map : ∀ (fs ts : List Int) (g : Int → Int) (r t : Int), nmOf fs ts r = some t → nmOf fs (ts.map g) r = some (g t)
  | [], _, _, _, _, h => by simp [nmOf] at h
  | _ :: _, [], _, _, _, h => by simp [nmOf] at h
  | f :: fs, t0 :: ts, g, r, t, h => by
    simp only [nmOf, List.map_cons] at h ⊢
    split at h
    · rename_i e
      rw [if_pos e]
      injection h with h
      rw [h]
    · rename_i e
      rw [if_neg e]
      exact nm_map fs ts g r t h

theorem all_ge {L : List Int} (h : (L.all fun r => decide (1 ≤ r)) = true) : ∀ r ∈ L, 1 ≤ r := fun r hr => by simpa using List.all_eq_true.1 h r hr

/-- What it takes to be renamed. -/
theorem renV_ok {v : V} {fs ts : List Int} (h : (renV v fs ts).2 = 0) : v.may = true ∧ fs.length = ts.length ∧ (∀ r ∈ fs, 1 ≤ r) ∧ (∀ r ∈ ts, 1 ≤ r) ∧ v.named (nmOf fs ts) = true ∧ (renV v fs ts).1 = v.ren (nmOf fs ts) := by
  unfold renV at h ⊢
  split at h
  · rename_i hc
    simp only [Bool.and_eq_true, decide_eq_true_eq] at hc
    split at h
    · rename_i hn
      rw [if_pos (by simp only [Bool.and_eq_true, decide_eq_true_eq]; exact hc), if_pos hn]
      exact ⟨hc.1, hc.2.1, all_ge hc.2.2.1, all_ge hc.2.2.2, hn, rfl⟩
    · cases h
  · cases h

theorem renV_yes {v : V} {fs ts : List Int} (h1 : v.may = true) (h2 : fs.length = ts.length) (h3 : ∀ r ∈ fs, 1 ≤ r) (h4 : ∀ r ∈ ts, 1 ≤ r) (h5 : v.named (nmOf fs ts) = true) : renV v fs ts = (v.ren (nmOf fs ts), 0) := by
  unfold renV
  rw [if_pos, if_pos h5]
  simp only [Bool.and_eq_true, decide_eq_true_eq, List.all_eq_true]
  exact ⟨h1, h2, h3, h4⟩

theorem renV_err (v : V) (fs ts : List Int) : (renV v fs ts).2 = 0 ∨ (renV v fs ts).2 = 2 ∨ (renV v fs ts).2 = 21 := by
  unfold renV
  split
  · split <;> simp
  · simp

theorem nm_pos {v : V} {fs ts : List Int} (h4 : ∀ r ∈ ts, 1 ≤ r) (h5 : v.named (nmOf fs ts) = true) : ∀ r ∈ v.rf, 1 ≤ (nmOf fs ts r).getD 0 := fun r hr => by
  have h := (named_iff _ v).1 h5 r hr
  cases hq : nmOf fs ts r with
  | none => rw [hq] at h; cases h
  | some t => exact h4 t (nm_mem fs ts r t hq)

/-- Renamed back, where no name is met twice. -/
theorem ren_back {v : V} {fs ts : List Int} (h : (renV v fs ts).2 = 0) (hn : ts.Nodup) : renV (v.ren (nmOf fs ts)) ts fs = (v, 0) := by
  obtain ⟨h1, h2, h3, h4, h5, -⟩ := renV_ok h
  have hp := nm_pos h4 h5
  have hall := (named_iff _ v).1 h5
  have hb : ∀ r ∈ v.rf, nmOf ts fs ((nmOf fs ts r).getD 0) = some r := fun r hr => by
    cases hq : nmOf fs ts r with
    | none => have := hall r hr; rw [hq] at this; cases this
    | some t => exact nm_back fs ts r t hn hq
  rw [renV_yes (ren_may h1 hp) h2.symm h4 h3]
  · rw [ren_ren, ren_id]
    intro r hr
    rw [hb r hr]; rfl
  · rw [named_iff, ren_rf]
    intro x hx
    obtain ⟨r, hr, rfl⟩ := List.mem_map.1 hx
    rw [hb r hr]; rfl

/-- Renamed twice is renamed once. -/
theorem ren_twice {v : V} {fs ts ns : List Int} (h : (renV v fs ts).2 = 0) (h' : (renV (v.ren (nmOf fs ts)) ts ns).2 = 0) :
    renV v fs (ts.map fun t => (nmOf ts ns t).getD 0) = ((renV (v.ren (nmOf fs ts)) ts ns).1, 0) := by
  obtain ⟨h1, h2, h3, h4, h5, -⟩ := renV_ok h
  obtain ⟨g1, g2, g3, g4, g5, g6⟩ := renV_ok h'
  have hall := (named_iff _ v).1 h5
  have hb : ∀ r ∈ v.rf, nmOf fs (ts.map fun t => (nmOf ts ns t).getD 0) r = some ((nmOf ts ns ((nmOf fs ts r).getD 0)).getD 0) := fun r hr => by
    cases hq : nmOf fs ts r with
    | none => have := hall r hr; rw [hq] at this; cases this
    | some t => exact nm_map fs ts _ r t hq
  rw [renV_yes h1 (by simpa using h2) h3]
  · rw [g6, ren_ren, ren_congr (g := fun r => nmOf ts ns ((nmOf fs ts r).getD 0)) v fun r hr => by rw [hb r hr]; rfl]
  · intro x hx
    obtain ⟨t, ht, rfl⟩ := List.mem_map.1 hx
    cases hq : nmOf ts ns t with
    | none => have := nm_isSome ts ns t (by omega) ht; rw [hq] at this; cases this
    | some z => exact g4 z (nm_mem ts ns t z hq)
  · rw [named_iff]
    intro r hr
    rw [hb r hr]; rfl

end Go.Proofs.Ytihjmipmjogpoaa

/- Chapter 2: the law's own image: the references that some are turned into. -/
namespace Go.Proofs.Ytihjmipmjogpoaa
open Go.RowKit

theorem nm_next {fs ts : List Int} {k : Nat} {r x : Int} (h : fs[k]? = some x) (hne : x ≠ r) : nmOf (fs.drop k) (ts.drop k) r = nmOf (fs.drop (k + 1)) (ts.drop (k + 1)) r := by
  obtain ⟨hk, hx⟩ := List.getElem?_eq_some_iff.1 h
  rw [List.drop_eq_getElem_cons hk, hx]
  rcases Nat.lt_or_ge k ts.length with h2 | h2
  · rw [List.drop_eq_getElem_cons h2]
    simp only [nmOf]
    rw [if_neg hne]
  · rw [List.drop_of_length_le h2, List.drop_of_length_le (l := ts) (by omega)]
    simp only [nmOf]
    cases fs.drop (k + 1) <;> rfl

theorem nm_here {fs ts : List Int} {k : Nat} {r : Int} (h : fs[k]? = some r) (hs : (nmOf (fs.drop k) (ts.drop k) r).isSome = true) : ∃ t, ts[k]? = some t ∧ nmOf (fs.drop k) (ts.drop k) r = some t := by
  obtain ⟨hk, hx⟩ := List.getElem?_eq_some_iff.1 h
  rw [List.drop_eq_getElem_cons hk, hx] at hs ⊢
  rcases Nat.lt_or_ge k ts.length with h2 | h2
  · rw [List.drop_eq_getElem_cons h2] at hs ⊢
    refine ⟨ts[k], List.getElem?_eq_getElem h2, ?_⟩
    simp [nmOf]
  · rw [List.drop_of_length_le h2] at hs
    simp [nmOf] at hs

def ImageP (L : List Int) (w : World) (e : Ending) (w' : World) : Prop := ∃ v, e = .returned (.tuple #[v, .bool true]) ∧ w'.ownsRow w.heap.size 25 1 v L.length (refCells L) ∧ Fr No w w'

set_option maxRecDepth 100000 in
set_option maxHeartbeats 8000000 in
theorem image_any (Al Af At : Option Addr) (cl cf ct : Nat) (l fs ts : List Int) (w : World) (ll hl lf hf lt ht : Nat) (pl : Ints w ll hl Al cl l) (hhl : hl ≤ w.heap.size) (pf : Ints w lf hf Af cf fs) (hhf : hf ≤ w.heap.size) (pt : Ints w lt ht At ct ts) (hht : ht ≤ w.heap.size)
    (hall : ∀ r ∈ l, (nmOf fs ts r).isSome = true) : Calls Try.prog 74 #[.slice Al l.length cl, .slice Af fs.length cf, .slice At ts.length ct] w (ImageP (l.map fun r => (nmOf fs ts r).getD 0) w) := by
  have hll := pl.len
  have hlf := pf.len
  have hlt := pt.len
  obtain ⟨i0, hi0, hz0, hz1, hz2⟩ := info_parts ref_info
  have HALL := hide hall
  clear hall
  go_enter Try.func74, Try.ntmps74
  go_wp2_with fail
  go_loopw [8, 9, 10] (fun v i _ wr => ∃ (j : Nat) (A3 : Option Addr) (c3 : Nat), j ≤ l.length ∧ i = .int .i64 j ∧ v = .slice A3 j c3 ∧ wr.ownsRow w.heap.size 25 1 v j (refCells ((l.take j).map fun r => (nmOf fs ts r).getD 0)) ∧ Fr No w wr) (fun _ i _ _ => l.length - (intOf i).toNat)
  case atStart => exact ⟨0, none, 0, Nat.zero_le _, rfl, rfl, World.ownsRow_nil _ _ _ _, Fr.refl _ _⟩
  case round =>
    obtain ⟨j, A3, c3, hj, rfl, rfl, own, fr⟩ := hrel
    have hsz := fr.size
    by_cases hjl : j < l.length
    · obtain ⟨wo, rfl⟩ : ∃ wo : World, wo = wr := ⟨_, rfl⟩
      have htk : l.take (j + 1) = l.take j ++ [l[j]] := List.take_succ_eq_append_getElem hjl
      have hs := HALL.out _ (List.getElem_mem hjl)
      obtain ⟨bl, ol, rfl, hbl0, hbl1, hcl⟩ := (pl.no fr hhl).elem hjl
      have hrl := pl.rng _ (List.getElem_mem hjl)
      generalize l[j] = r at *
      have HTK := hide htk
      have HS := hide hs
      have HO := hide own
      have HF := hide fr
      clear htk hs own fr
      go_wp2_with fail
      go_loopw [10] (fun i wr => ∃ k : Nat, k ≤ fs.length ∧ i = .int .i64 k ∧ Fr No wo wr ∧ nmOf fs ts r = nmOf (fs.drop k) (ts.drop k) r) (fun i _ => fs.length - (intOf i).toNat)
      case atStart => exact ⟨0, Nat.zero_le _, rfl, Fr.refl _ _, rfl⟩
      case round =>
        obtain ⟨k, hk, rfl, frk, hnm⟩ := hrel
        have hkl : k < fs.length := by
          rcases Nat.lt_or_ge k fs.length with h | h
          · exact h
          · have := HS.out
            rw [hnm, List.drop_of_length_le h] at this
            simp [nmOf] at this
        have frw := HF.out.trans frk
        have hsk := frk.size
        obtain ⟨bf, of, rfl, hbf0, hbf1, hcf⟩ := (pf.no frw hhf).elem hkl
        have hcl' := (frk.cell (b := bl) (o := ol + j) (s := none) (by omega) (fun h => h)).trans hcl
        have g0 : bf < wr.heap.size := by omega
        have g1 : bl < wr.heap.size := by omega
        have hget : fs[k]? = some fs[k] := List.getElem?_eq_getElem hkl
        generalize fs[k] = x at *
        have HN := hide hnm
        have HK := hide frk
        have HW := hide frw
        have HG := hide hget
        clear hnm frk frw hget
        by_cases hxr : x = r
        · subst hxr
          have hs2 := HS.out
          rw [HN.out] at hs2
          obtain ⟨t, ht1, ht2⟩ := nm_here HG.out hs2
          obtain ⟨hkt, htt⟩ := List.getElem?_eq_some_iff.1 ht1
          obtain ⟨bt, ot, rfl, hbt0, hbt1, hct⟩ := (pt.no HW.out hht).elem hkt
          have hrt := pt.rng _ (List.getElem_mem hkt)
          rw [htt] at hct hrt
          have g2 : bt < wr.heap.size := by omega
          have hval : (nmOf fs ts x).getD 0 = t := by rw [HN.out, ht2]; rfl
          have HV := hide hval
          have h1 : ((k : Int) == (fs.length : Int)) = false := by simp; omega
          have h2 : ¬ ts.length ≤ k := by omega
          have h3 : decide (ts.length ≤ k) = false := by simpa using h2
          have own2 := owns_fr HO.out HK.out fun _ _ h => h
          clear hval ht1 ht2 htt hs2
          go_wp2_with fail
          go_quiet (fail)
          have hownA := fun n => World.ownsRow.alloc (w := wr.drewN n) own2 (.cells #[.int .i64 t] 25)
          go_wp2_with (at_builtin; refine wpList_append_lies _ (by rfl) _ _ _ (by rfl) w.heap.size 25 i0 _ 1 8 Try.underlying100 hi0 hz0 hz1 hz2 (by rfl) (by omega) (.slice A3 j c3) j (refCells ((l.take j).map fun r => (nmOf fs ts r).getD 0)) (by rfl) (hownA _) ⟨wr.heap.size, 0, none⟩ 1 1 [.int .i64 t] (by rfl) (by rfl) (World.news_of_block (Blk.new' (wr.drewN _) 25 _ rfl)) (by simp [Value.oneCell']) (by omega) (by unfold maxLen; omega) (by omega) (by simp; omega) (wr.heap.size + 1) (by simp) ?_; intro g cp w3 hown3 hgrow hat hlt3; have HO3 := hide hown3; have HG3 := hide hgrow; clear hown3 hgrow hat)
          go_roundw
          case rel =>
            refine ⟨j + 1, some ⟨g, 0, none⟩, cp, hjl, by go_num, rfl, ?_, ?_⟩
            · have h := HO3.out
              rw [HTK.out, List.map_append, refCells, List.map_append, List.map_singleton, List.map_singleton, HV.out]
              exact h
            · have hol := owns_lt own2
              exact ((HW.out.drewN _).alloc (.cells #[.int .i64 t] 25)).trans' (fr_grown HG3.out) fun i hi h => by
                have h' : some i = (Value.slice A3 j c3).ownBlock := h
                have := hol i h'.symm
                omega
          case measure => simp [intOf]; omega
        · have hne : (x != r) = true := by simpa using hxr
          go_wp2_with fail
          go_quiet (fail)
          go_wp2
          go_roundw
          case rel => exact ⟨k + 1, hkl, by go_num, HK.out.drewN _, by rw [HN.out]; exact nm_next HG.out hxr⟩
          case measure => simp [intOf]; omega
    · obtain rfl : l.length = j := by omega
      have hP : ImageP (l.map fun r => (nmOf fs ts r).getD 0) w (.returned (.tuple #[.slice A3 l.length c3, .bool true])) wr := by
        rw [List.take_of_length_le (Nat.le_refl _)] at own
        exact ⟨_, rfl, by rw [List.length_map]; exact own, fr⟩
      have HP := hide hP
      clear hP own fr pl pf pt
      go_wp2
      go_ret2
      exact HP.out

end Go.Proofs.Ytihjmipmjogpoaa

/- Chapter 2: a copy of a row of references. -/
namespace Go.Proofs.Ytihjmipmjogpoaa
open Go.RowKit

theorem refCells_one (L : List Int) : ∀ u ∈ refCells L, u.oneCell' = true := by
  intro u hu
  obtain ⟨x, _, rfl⟩ := List.mem_map.1 hu
  rfl

set_option maxRecDepth 100000 in
/-- append([]Ref(nil), from...). -/
theorem run_copy_refs {A : Option Addr} {cap : Nat} {L : List Int} (w : World) (lo hi : Nat) (h : Ints w lo hi A cap L) (hl : L.length ≤ 1000000) (ty : TypeId) :
    ∃ v w', (Builtin.append_ #[100, 100] ty #[.slice none 0 0, .slice A L.length cap]).run Try.prog w = .ok v w' ∧ w'.ownsRow w.heap.size 25 1 v L.length (refCells L) ∧ Fr No w w' := by
  obtain ⟨i0, hi0, hz0, hz1, hz2⟩ := info_parts ref_info
  by_cases h0 : L = []
  · subst h0
    refine ⟨.slice none 0 0, w, ?_, World.ownsRow_nil _ _ _ _, Fr.refl _ _⟩
    cases A with
    | none => exact run_append_nothing (P := Try.prog) w 100 100 ty 25 i0 Try.underlying100 hi0 none 0 0 (Nat.le_refl _) _ (Src.ofNil w Try.underlying100 cap)
    | some a => exact run_append_nothing (P := Try.prog) w 100 100 ty 25 i0 Try.underlying100 hi0 none 0 0 (Nat.le_refl _) _ (Src.ofSlice w Try.underlying100 a 0 cap [] (by simp) (by simp) (by simp))
  · obtain ⟨b, o, rfl, hb0, hb1, hc⟩ := h.at_ h0
    obtain ⟨g, c, w', hrun, hown, hgr, hat, hlt⟩ := run_append_lies (P := Try.prog) w 100 ty w.heap.size 25 i0 _ 1 8 Try.underlying100 hi0 hz0 hz1 hz2 rfl (by omega) (.slice none 0 0) 0 [] (World.ownsRow_nil _ _ _ _) ⟨b, o, none⟩ L.length cap (refCells L) (by simp [refCells]) (fun j u hu => by
      simp only [refCells, List.getElem?_map, Option.map_eq_some_iff] at hu
      obtain ⟨x, hx, rfl⟩ := hu
      rw [add_at]
      exact hc j x hx) (refCells_one L) (List.length_pos_iff.2 h0) (by unfold maxLen; omega) (by omega) (Nat.le_refl _) _ rfl
    refine ⟨_, w', hrun, by simpa using hown, (Fr.refl No w).trans' (fr_grown hgr) (fun i hi h => by simp [Value.ownBlock] at h)⟩

set_option maxRecDepth 100000 in
/-- .. for the walk. -/
theorem wpList_copy_refs {ops : Array Oper} {rest : List Oper} {o : Oper} {a : Act} {Q : Exit → Act → World → Prop} (w : World) (hgd : o.guard = none) (s x : Operand)
    (ho : o.op = .call { callee := .builtin .append, args := #[s, x], argTypes := #[100, 100] }) (hv : a.eval s = .slice none 0 0)
    (A : Option Addr) (cap : Nat) (L : List Int) (hx : a.eval x = .slice A L.length cap) (lo hi : Nat) (h : Ints w lo hi A cap L) (hl : L.length ≤ 1000000)
    (hK : ∀ v' w', w'.ownsRow w.heap.size 25 1 v' L.length (refCells L) → Fr No w w' → wpList Try.prog ops Q rest (a.put o.dst v') w') : wpList Try.prog ops Q (o :: rest) a w := by
  refine wpList_plain hgd fun K hK' => ?_
  obtain ⟨v', w', hrun, h1, h2⟩ := run_copy_refs w lo hi h hl o.type
  unfold Oper.wp
  simp [execOp, ho, resolve, invoke, builtin, hv, hx, hrun, Result.andThen]
  exact hK' _ _ (hK v' w' h1 h2)

/-- A row of one's own, seen up to its last. -/
theorem ints_of_front {w : World} {base g cap : Nat} {L : List Int} {y : Int} (h : w.ownsRow base 25 1 (.slice (some ⟨g, 0, none⟩) (L.length + 1) cap) (L.length + 1) (refCells L ++ [.int .i64 y])) (hl : L.length ≤ 1000000) (hr : ∀ x ∈ L, -9223372036854775808 ≤ x ∧ x ≤ 9223372036854775807) :
    Ints w base w.heap.size (some ⟨g, 0, none⟩) cap L ∧ w.cell? ⟨g, L.length, none⟩ = some (.int .i64 y) ∧ (∀ i x, L[i]? = some x → w.cell? ⟨g, i, none⟩ = some (.int .i64 x)) ∧ base ≤ g ∧ g < w.heap.size ∧ L.length + 1 ≤ cap := by
  have hlt := owns_lt h g rfl
  have hle := owns_le h
  have hrl : (refCells L).length = L.length := by simp [refCells]
  have hc : ∀ i x, L[i]? = some x → w.cell? ⟨g, i, none⟩ = some (.int .i64 x) := fun i x hx => by
    have hi := (List.getElem?_eq_some_iff.1 hx).1
    have := World.ownsRow.cells h (g := g) rfl i (.int .i64 x) (by rw [List.getElem?_append_left (by omega)]; simp [refCells, hx])
    rwa [add_at, Nat.zero_add] at this
  refine ⟨⟨by omega, by omega, fun _ => ⟨g, 0, rfl, hlt.1, hlt.2, fun i x hx => by rw [Nat.zero_add]; exact hc i x hx⟩, hr⟩, ?_, hc, hlt.1, hlt.2, hle⟩
  have := World.ownsRow.cells h (g := g) rfl L.length (.int .i64 y) (by rw [List.getElem?_append_right (by omega), hrl, Nat.sub_self]; rfl)
  rwa [add_at, Nat.zero_add] at this

end Go.Proofs.Ytihjmipmjogpoaa

/- Chapter 2: a copy of a row of numbers. -/
namespace Go.Proofs.Ytihjmipmjogpoaa
open Go.RowKit

set_option maxRecDepth 100000 in
/-- append([]int(nil), from...). -/
theorem run_copy_ints {A : Option Addr} {cap : Nat} {L : List Int} (w : World) (lo hi : Nat) (h : Ints w lo hi A cap L) (hl : L.length ≤ 1000000) (ty : TypeId) :
    ∃ v w', (Builtin.append_ #[77, 77] ty #[.slice none 0 0, .slice A L.length cap]).run Try.prog w = .ok v w' ∧ w'.ownsRow w.heap.size 3 1 v L.length (refCells L) ∧ Fr No w w' := by
  obtain ⟨i0, hi0, hz0, hz1, hz2⟩ := info_parts int_info
  by_cases h0 : L = []
  · subst h0
    refine ⟨.slice none 0 0, w, ?_, World.ownsRow_nil _ _ _ _, Fr.refl _ _⟩
    cases A with
    | none => exact run_append_nothing (P := Try.prog) w 77 77 ty 3 i0 Try.underlying77 hi0 none 0 0 (Nat.le_refl _) _ (Src.ofNil w Try.underlying77 cap)
    | some a => exact run_append_nothing (P := Try.prog) w 77 77 ty 3 i0 Try.underlying77 hi0 none 0 0 (Nat.le_refl _) _ (Src.ofSlice w Try.underlying77 a 0 cap [] (by simp) (by simp) (by simp))
  · obtain ⟨b, o, rfl, hb0, hb1, hc⟩ := h.at_ h0
    obtain ⟨g, c, w', hrun, hown, hgr, hat, hlt⟩ := run_append_lies (P := Try.prog) w 77 ty w.heap.size 3 i0 _ 1 8 Try.underlying77 hi0 hz0 hz1 hz2 rfl (by omega) (.slice none 0 0) 0 [] (World.ownsRow_nil _ _ _ _) ⟨b, o, none⟩ L.length cap (refCells L) (by simp [refCells]) (fun j u hu => by
      simp only [refCells, List.getElem?_map, Option.map_eq_some_iff] at hu
      obtain ⟨x, hx, rfl⟩ := hu
      rw [add_at]
      exact hc j x hx) (refCells_one L) (List.length_pos_iff.2 h0) (by unfold maxLen; omega) (by omega) (Nat.le_refl _) _ rfl
    refine ⟨_, w', hrun, by simpa using hown, (Fr.refl No w).trans' (fr_grown hgr) (fun i hi h => by simp [Value.ownBlock] at h)⟩

set_option maxRecDepth 100000 in
/-- .. for the walk. -/
theorem wpList_copy_ints {ops : Array Oper} {rest : List Oper} {o : Oper} {a : Act} {Q : Exit → Act → World → Prop} (w : World) (hgd : o.guard = none) (s x : Operand)
    (ho : o.op = .call { callee := .builtin .append, args := #[s, x], argTypes := #[77, 77] }) (hv : a.eval s = .slice none 0 0)
    (A : Option Addr) (cap : Nat) (L : List Int) (hx : a.eval x = .slice A L.length cap) (lo hi : Nat) (h : Ints w lo hi A cap L) (hl : L.length ≤ 1000000)
    (hK : ∀ v' w', w'.ownsRow w.heap.size 3 1 v' L.length (refCells L) → Fr No w w' → wpList Try.prog ops Q rest (a.put o.dst v') w') : wpList Try.prog ops Q (o :: rest) a w := by
  refine wpList_plain hgd fun K hK' => ?_
  obtain ⟨v', w', hrun, h1, h2⟩ := run_copy_ints w lo hi h hl o.type
  unfold Oper.wp
  simp [execOp, ho, resolve, invoke, builtin, hv, hx, hrun, Result.andThen]
  exact hK' _ _ (hK v' w' h1 h2)

/-- A row of one's own, seen up to its last. -/
theorem ints_of_front3 {w : World} {base g cap : Nat} {L : List Int} {y : Int} (h : w.ownsRow base 3 1 (.slice (some ⟨g, 0, none⟩) (L.length + 1) cap) (L.length + 1) (refCells L ++ [.int .i64 y])) (hl : L.length ≤ 1000000) (hr : ∀ x ∈ L, -9223372036854775808 ≤ x ∧ x ≤ 9223372036854775807) :
    Ints w base w.heap.size (some ⟨g, 0, none⟩) cap L ∧ w.cell? ⟨g, L.length, none⟩ = some (.int .i64 y) ∧ (∀ i x, L[i]? = some x → w.cell? ⟨g, i, none⟩ = some (.int .i64 x)) ∧ base ≤ g ∧ g < w.heap.size ∧ L.length + 1 ≤ cap := by
  have hlt := owns_lt h g rfl
  have hle := owns_le h
  have hrl : (refCells L).length = L.length := by simp [refCells]
  have hc : ∀ i x, L[i]? = some x → w.cell? ⟨g, i, none⟩ = some (.int .i64 x) := fun i x hx => by
    have hi := (List.getElem?_eq_some_iff.1 hx).1
    have := World.ownsRow.cells h (g := g) rfl i (.int .i64 x) (by rw [List.getElem?_append_left (by omega)]; simp [refCells, hx])
    rwa [add_at, Nat.zero_add] at this
  refine ⟨⟨by omega, by omega, fun _ => ⟨g, 0, rfl, hlt.1, hlt.2, fun i x hx => by rw [Nat.zero_add]; exact hc i x hx⟩, hr⟩, ?_, hc, hlt.1, hlt.2, hle⟩
  have := World.ownsRow.cells h (g := g) rfl L.length (.int .i64 y) (by rw [List.getElem?_append_right (by omega), hrl, Nat.sub_self]; rfl)
  rwa [add_at, Nat.zero_add] at this

end Go.Proofs.Ytihjmipmjogpoaa

/- Chapter 2: slices.Clone of a row of numbers. -/
namespace Go.Proofs.Ytihjmipmjogpoaa
open Go.RowKit

/-- A place in memory of its own. -/
def OwnI (w : World) (base : Nat) (A : Option Addr) (cap : Nat) (p : List Int) : Prop := w.ownsRow base 3 1 (.slice A p.length cap) p.length (refCells p)

set_option maxRecDepth 100000 in
theorem cloneI_nil (cap : Nat) (w : World) : Calls Try.prog 108 #[.slice none 0 cap] w fun e w' => e = .returned (.slice none 0 0) ∧ w' = w := by
  have heq := fun (w : World) (A : Option Addr) (n c : Nat) => Lib.run_eql_slice_nil (P := Try.prog) w 77 3 A n c 0 0 Try.underlying77
  go_enter Try.func108, Try.ntmps108
  go_wp2
  go_ret
  exact ⟨rfl, rfl⟩

set_option maxRecDepth 100000 in
/-- append([]int{}, from...). -/
theorem run_clone_ints {b o cap : Nat} {L : List Int} (w : World) (lo hi : Nat) (h : Ints w lo hi (some ⟨b, o, none⟩) cap L) (hh : hi ≤ w.heap.size) (ty : TypeId) :
    ∃ A c w', (Builtin.append_ #[77, 77] ty #[.slice (some ⟨w.heap.size, 0, none⟩) 0 0, .slice (some ⟨b, o, none⟩) L.length cap]).run Try.prog (w.alloc (.cells #[] 3)) = .ok (.slice A L.length c) w' ∧ OwnI w' w.heap.size A c L ∧ Fr No w w' := by
  have hln := h.len
  obtain ⟨i0, hi0, hz0, hz1, hz2⟩ := info_parts int_info
  have fr := (Fr.refl No w).alloc (.cells #[] 3)
  have hown : (w.alloc (.cells #[] 3)).ownsRow w.heap.size 3 1 (.slice (some ⟨w.heap.size, 0, none⟩) 0 0) 0 [] :=
    ⟨rfl, .inr ⟨w.heap.size, 0, #[], rfl, Nat.le_refl _, heap_alloc_new w _, Nat.le_refl _, by unfold maxLen; omega, rfl, rfl⟩⟩
  by_cases h0 : L = []
  · subst h0
    exact ⟨some ⟨w.heap.size, 0, none⟩, 0, _, run_append_nothing (P := Try.prog) _ 77 77 ty 3 i0 Try.underlying77 hi0 (some ⟨w.heap.size, 0, none⟩) 0 0 (Nat.le_refl _) _ (Src.ofSlice _ Try.underlying77 ⟨b, o, none⟩ 0 cap [] (by simp) (by simp) (by simp)), hown, fr⟩
  · obtain ⟨b', o', hA, hb0, hb1, hc⟩ := h.at_ h0
    simp only [Option.some.injEq, Addr.mk.injEq, and_true] at hA
    obtain ⟨rfl, rfl⟩ := hA
    obtain ⟨g, c, w', hrun, hown', hgr, hat, hlt⟩ := run_append_lies (P := Try.prog) (w.alloc (.cells #[] 3)) 77 ty w.heap.size 3 i0 _ 1 8 Try.underlying77 hi0 hz0 hz1 hz2 rfl (by omega) (.slice (some ⟨w.heap.size, 0, none⟩) 0 0) 0 [] hown ⟨b, o, none⟩ L.length cap (refCells L) (by simp [refCells]) (fun j u hu => by
      simp only [refCells, List.getElem?_map, Option.map_eq_some_iff] at hu
      obtain ⟨x, hx, rfl⟩ := hu
      rw [add_at, fr.cell (b := b) (by omega) (fun h => h)]
      exact hc j x hx) (refCells_one L) (List.length_pos_iff.2 h0) (by unfold maxLen; omega) (by omega) (by simp) _ rfl
    refine ⟨some ⟨g, 0, none⟩, c, w', by simpa using hrun, by simpa [OwnI] using hown', fr.trans' (fr_grown hgr) (fun i hi h => by simp [Value.ownBlock] at h; omega)⟩

set_option maxRecDepth 100000 in
theorem cloneI_some (b o : Nat) (cap : Nat) (p : List Int) (w : World) (lo hi : Nat) (h : Ints w lo hi (some ⟨b, o, none⟩) cap p) (hh : hi ≤ w.heap.size) :
    Calls Try.prog 108 #[.slice (some ⟨b, o, none⟩) p.length cap] w fun e w' => ∃ A c, e = .returned (.slice A p.length c) ∧ OwnI w' w.heap.size A c p ∧ Fr No w w' := by
  have heq := fun (w : World) (A : Option Addr) (n c : Nat) => Lib.run_eql_slice_nil (P := Try.prog) w 77 3 A n c 0 0 Try.underlying77
  obtain ⟨A, c, w', hrun, ho, hf⟩ := run_clone_ints w lo hi h hh 77
  have HO := hide ho
  have HF := hide hf
  clear ho hf h
  go_enter Try.func108, Try.ntmps108
  go_wp2_with (at_builtin; (refine wpList_plain rfl fun K hK => ?_); unfold Oper.wp; simp [execOp, resolve, invoke, builtin, hrun, Result.andThen, Act.eval]; refine hK _ _ ?_)
  go_ret
  exact ⟨A, c, rfl, HO.out, HF.out⟩

set_option maxRecDepth 100000 in
theorem cloneI_empty (a : Addr) (cap : Nat) (w : World) : Calls Try.prog 108 #[.slice (some a) 0 cap] w fun e w' => ∃ A c, e = .returned (.slice A 0 c) ∧ OwnI w' w.heap.size A c [] ∧ Fr No w w' := by
  have heq := fun (w : World) (A : Option Addr) (n c : Nat) => Lib.run_eql_slice_nil (P := Try.prog) w 77 3 A n c 0 0 Try.underlying77
  obtain ⟨i0, hi0, hz0, hz1, hz2⟩ := info_parts int_info
  have fr := (Fr.refl No w).alloc (.cells #[] 3)
  have hown : OwnI (w.alloc (.cells #[] 3)) w.heap.size (some ⟨w.heap.size, 0, none⟩) 0 [] :=
    ⟨rfl, .inr ⟨w.heap.size, 0, #[], rfl, Nat.le_refl _, heap_alloc_new w _, Nat.le_refl _, by unfold maxLen; omega, rfl, rfl⟩⟩
  have hrun := run_append_nothing (P := Try.prog) (w.alloc (.cells #[] 3)) 77 77 77 3 i0 Try.underlying77 hi0 (some ⟨w.heap.size, 0, none⟩) 0 0 (Nat.le_refl _) _ (Src.ofSlice _ Try.underlying77 a 0 cap [] (by simp) (by simp) (by simp))
  have HO := hide hown
  have HF := hide fr
  clear hown fr hi0 hz0 hz1 hz2
  go_enter Try.func108, Try.ntmps108
  go_wp2_with (at_builtin; (refine wpList_plain rfl fun K hK => ?_); unfold Oper.wp; simp [execOp, resolve, invoke, builtin, hrun, Result.andThen, Act.eval]; refine hK _ _ ?_)
  go_ret
  exact ⟨_, 0, rfl, HO.out, HF.out⟩

/-- slices.Clone. -/
theorem cloneI_any (A : Option Addr) (cap : Nat) (p : List Int) (w : World) (lo hi : Nat) (h : Ints w lo hi A cap p) (hh : hi ≤ w.heap.size) :
    Calls Try.prog 108 #[.slice A p.length cap] w fun e w' => ∃ A' c, e = .returned (.slice A' p.length c) ∧ OwnI w' w.heap.size A' c p ∧ Fr No w w' := by
  by_cases hA : ∃ b o, A = some ⟨b, o, none⟩
  · obtain ⟨b, o, rfl⟩ := hA
    exact cloneI_some b o cap p w lo hi h hh
  · have hp : p = [] := by
      refine Classical.byContradiction fun hne => ?_
      obtain ⟨b, o, h1, -⟩ := h.at_ hne
      exact hA ⟨b, o, h1⟩
    subst hp
    cases A with
    | none => exact (cloneI_nil cap w).mono fun e w' ⟨h1, h2⟩ => ⟨none, 0, h1, World.ownsRow_nil _ _ _ _, by rw [h2]; exact Fr.refl _ _⟩
    | some a => exact cloneI_empty a cap w

end Go.Proofs.Ytihjmipmjogpoaa

/- A region that draws its order, by what holds whichever operations have come up: each operation is walked once. -/
namespace Go.Proofs.Ytihjmipmjogpoaa

section
variable {P : Program} {ops : Array Oper} {Q : Exit → Act → World → Prop} {md : Region.Mode}

/-- One more has come up. -/
def upd (f : Nat → Bool) (i : Nat) : Nat → Bool := fun j => j == i || f j

def unl (l : List Bool) : Nat := (l.filter fun b => !b).length

theorem unl_set : ∀ (l : List Bool) (i : Nat), l[i]? = some false → unl (l.set i true) + 1 = unl l
  | [], _, h => by simp at h
  | b :: l, 0, h => by simp at h; subst h; simp [unl]
  | b :: l, i + 1, h => by
    have := unl_set l i (by simpa using h)
    cases b <;> simp [unl] at this ⊢ <;> omega

theorem unl_zero : ∀ (l : List Bool) (i : Nat), unl l = 0 → l[i]? = some false → False
  | [], _, _, h => by simp at h
  | b :: l, 0, hz, h => by simp at h; subst h; simp [unl] at hz
  | b :: l, i + 1, hz, h => by
    refine unl_zero l i ?_ (by simpa using h)
    cases b <;> simp [unl] at hz ⊢
    exact hz

/-- Where each operation waits for earlier ones alone, and nothing may come up, all have. -/
theorem ready_all {listed : Array Bool} (hfw : (List.range ops.size).all (fun i => ((ops[i]?).map fun o => o.after.all fun e => decide (e.on < i)).getD true) = true) (h : Region.ready md ops listed = []) (hs : listed.size = ops.size) :
    ∀ i, i < ops.size → listed.getD i false = true := by
  intro i
  induction i using Nat.strongRecOn with
  | ind i ih =>
    intro hi
    cases hl : listed.getD i false with
    | true => rfl
    | false =>
      exfalso
      have hi2 : i < listed.size := by omega
      have hm : i ∈ Region.ready md ops listed := by
        rw [mem_ready]
        refine ⟨?_, ops[i], Array.getElem?_eq_getElem hi, fun e he _ => ?_⟩
        · simp only [Array.getD, hi2, dif_pos] at hl ⊢
          exact hl
        · have h1 := List.all_eq_true.1 hfw i (List.mem_range.2 hi)
          rw [Array.getElem?_eq_getElem hi] at h1
          simp only [Option.map_some, Option.getD_some, Array.all_eq_true_iff_forall_mem] at h1
          have h2 := of_decide_eq_true (h1 e he)
          exact ih e.on h2 (by omega)
      rw [h] at hm
      cases hm

theorem wpAny_inv (I : (Nat → Bool) → Act → World → Prop) (hfw : (List.range ops.size).all (fun i => ((ops[i]?).map fun o => o.after.all fun e => decide (e.on < i)).getD true) = true)
    (hstep : ∀ (i : Nat) (o : Oper) (f : Nat → Bool) (a : Act) (w : World), ops[i]? = some o → f i = false → (∀ e ∈ o.after, Region.binds md e = true → f e.on = true) → I f a w →
      ∀ K' : Act → World → Prop, Shut (∀ a w, I (upd f i) a w → K' a w) → if Region.wanted o (yielded ops a.tmps) = true then Oper.wp P o a w K' Q else K' (a.put o.dst undef) w)
    (hend : ∀ (f : Nat → Bool) (a : Act) (w : World), (∀ i, i < ops.size → f i = true) → I f a w → Q .normal a w) :
    ∀ (fuel : Nat) (listed : Array Bool) (a : Act) (w : World), listed.size = ops.size → unl listed.toList ≤ fuel → I (fun j => listed.getD j false) a w → wpAny P md ops Q fuel listed a w := by
  have hfin : ∀ (listed : Array Bool) (a : Act) (w : World), listed.size = ops.size → I (fun j => listed.getD j false) a w → Region.ready md ops listed = [] → Q .normal a w := fun listed a w hs hI hr =>
    hend _ a w (ready_all hfw hr hs) hI
  intro fuel
  induction fuel with
  | zero =>
    intro listed a w hs hu hI
    have hr : Region.ready md ops listed = [] := by
      refine List.eq_nil_iff_forall_not_mem.2 fun j hj => ?_
      obtain ⟨h1, o, ho, -⟩ := mem_ready.1 hj
      have hj2 := (Array.getElem?_eq_some_iff.1 ho).1
      refine unl_zero listed.toList j (by omega) ?_
      have hj3 : j < listed.size := by omega
      simp only [Array.getD, hj3, dif_pos] at h1
      rw [Array.getElem?_toList, Array.getElem?_eq_getElem hj3]
      exact congrArg some h1
    exact ⟨hr, hfin listed a w hs hI hr⟩
  | succ fuel ih =>
    intro listed a w hs hu hI
    refine ⟨hfin listed a w hs hI, fun i hi => ?_⟩
    obtain ⟨h1, o, ho, hd⟩ := mem_ready.1 hi
    have hi2 := (Array.getElem?_eq_some_iff.1 ho).1
    have hi3 : i < listed.size := by omega
    have hfalse : listed[i]? = some false := by
      simp only [Array.getD, hi3, dif_pos] at h1
      rw [Array.getElem?_eq_getElem hi3]
      exact congrArg some h1
    have hf : listed.getD i false = false := by
      simp only [Array.getD, hi3, dif_pos] at h1 ⊢
      exact h1
    refine wpOp_step ho fun K' hK => hstep i o _ a w ho hf (fun e he hb => hd e he hb) hI K' fun a' w' hI' => hK a' w' ?_
    refine ih (listed.setIfInBounds i true) a' w' (by simpa using hs) ?_ ?_
    · have := unl_set listed.toList i (by rw [Array.getElem?_toList]; exact hfalse)
      rw [Array.toList_setIfInBounds]
      omega
    · have he : (fun j => (listed.setIfInBounds i true).getD j false) = upd (fun j => listed.getD j false) i := by
        funext j
        simp only [upd, Array.getD_eq_getD_getElem?, Array.getElem?_setIfInBounds]
        by_cases hij : i = j
        · subst hij; simp [hi3]
        · have : ¬ j = i := fun h => hij h.symm
          simp [hij, this]
      rw [he]
      exact hI'

/-- The region. -/
theorem wp_region_inv {id : Nat} {a0 : Act} {w0 : World} (I : Act → (Nat → Bool) → Act → World → Prop) (hm : P.follows .mixedOrders = true) (hfw : (List.range ops.size).all (fun i => ((ops[i]?).map fun o => o.after.all fun e => decide (e.on < i)).getD true) = true)
    (hst : I a0 (fun _ => false) a0 w0.drew)
    (hstep : ∀ (i : Nat) (o : Oper) (f : Nat → Bool) (a : Act) (w : World), ops[i]? = some o → f i = false → (∀ e ∈ o.after, Region.binds .any e = true → f e.on = true) → I a0 f a w →
      ∀ K' : Act → World → Prop, Shut (∀ a w, I a0 (upd f i) a w → K' a w) → if Region.wanted o (yielded ops a.tmps) = true then Oper.wp P o a w K' Q else K' (a.put o.dst undef) w)
    (hend : ∀ (f : Nat → Bool) (a : Act) (w : World), (∀ i, i < ops.size → f i = true) → I a0 f a w → Q .normal a w) : (Code.region id ops true).wp P Q a0 w0 := by
  refine wp_region_any hm (wpAny_inv (I a0) hfw hstep hend _ _ _ _ (by simp) ?_ ?_)
  · have : ∀ n, unl (List.replicate n false) = n := fun n => by
      induction n with
      | zero => rfl
      | succ n ih => simp only [unl, List.replicate_succ] at ih ⊢; simp
    rw [Array.toList_replicate, this]
    exact Nat.le_refl _
  · have he : (fun j => (Array.replicate ops.size false).getD j false) = fun _ => false := by
      funext j
      simp only [Array.getD_eq_getD_getElem?, Array.getElem?_replicate]
      split <;> rfl
    rw [he]
    exact hst
end

end Go.Proofs.Ytihjmipmjogpoaa

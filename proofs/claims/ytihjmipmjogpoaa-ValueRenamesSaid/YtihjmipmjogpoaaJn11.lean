/- Texts joined: P7, Z6, P8, Q2, P15, P16. -/
import Derived.Test.YtihjmipmjogpoaaJn10
import Derived.Laws.AppendOwnNone
import Derived.Deep.QuietTactic
import Derived.BigQuiet
/- Chapter 2: the document's answer: Deep, Refs. -/
namespace Go.Proofs.Ytihjmipmjogpoaa
open Go.RowKit

set_option maxRecDepth 100000 in
set_option maxHeartbeats 2000000 in
/-- The document's Deep. -/
theorem refDeep_any (t : T) : ∀ (w : World) (lo hi : Nat), t.In w lo hi → hi ≤ w.heap.size → t.v.dep ≤ 16 → Calls Try.prog 63 #[t.val] w fun e w' => e = .returned (.int .i64 (t.v.dep : Int)) ∧ Fr No w w' := by
  induction t using T.ind with
  | h k n s A cap l r ih =>
    intro w lo hi ht hh hd
    rw [T.val_mk]
    have fit := (T.in_mk.1 ht).1
    have hlen := fit.len1
    have hK := Blk.new' w 27 #[.int .u8 k, .int .i64 n, .string s, .slice A l.length cap, .int .i64 r] rfl
    have fr1 := (Fr.refl No w).alloc (.cells #[.int .u8 k, .int .i64 n, .string s, .slice A l.length cap, .int .i64 r] 27)
    by_cases h3 : k = 3
    case neg =>
      have h3' : (k != 3) = true := by simpa using h3
      have e : (T.mk k n s A cap l r).v.dep = 0 := by rw [T.v_mk, V.dep_mk, if_neg h3]
      rw [e]
      clear ih
      go_enter Try.func63, Try.ntmps63
      go_wp2
      go_ret
      exact ⟨rfl, fr1⟩
    subst h3
    have e : (T.mk 3 n s A cap l r).v.dep = top ((l.map T.v).map V.dep) + 1 := by rw [T.v_mk, V.dep_mk, if_pos rfl]; omega
    rw [e] at hd ⊢
    have hchild : ∀ x ∈ l, x.v.dep ≤ 15 := by
      intro x hx
      have := le_top (List.mem_map_of_mem (f := V.dep) (List.mem_map_of_mem (f := T.v) hx))
      omega
    clear e
    go_enter Try.func63, Try.ntmps63
    go_wp2_with fail
    go_loopw [3, 4, 5] (fun v i _ wr => ∃ j m : Nat, j ≤ l.length ∧ i = .int .i64 j ∧ v = .int .i64 (m : Int) ∧ m = top (((l.map T.v).map V.dep).take j) ∧ m ≤ 16 ∧ Fr No (w.alloc (.cells #[.int .u8 3, .int .i64 n, .string s, .slice A l.length cap, .int .i64 r] 27)) wr) (fun _ i _ _ => l.length - (intOf i).toNat)
    case atStart =>
      exact ⟨0, 0, Nat.zero_le _, rfl, rfl, by simp [top], by omega, Fr.refl _ _⟩
    case round =>
      obtain ⟨j, m, hj, rfl, rfl, hm, hm17, fr⟩ := hrel
      have frw := fr1.trans fr
      have HM := hide hm
      obtain ⟨c0, c1, c2, c3, c4, cf⟩ := (hK.fr fr fun h => h).cells5
      clear hm
      by_cases hlt : j < l.length
      · obtain ⟨b, o, k1, n1, s1, A1, cap1, l1, r1, rfl, hb0, hb1, hx, hin, e0, e1, e2, e3, e4⟩ := T.elem (ht.no frw hh) hlt
        have IH := ih l[j] (List.getElem_mem hlt)
        have hc := hchild l[j] (List.getElem_mem hlt)
        have hto := top_take_succ ((l.map T.v).map V.dep) j (by simpa using hlt)
        rw [List.getElem_map, List.getElem_map] at hto
        rw [hx] at IH hc hto
        rw [T.val_mk] at IH
        generalize (T.mk k1 n1 s1 A1 cap1 l1 r1).v = u at *
        have g0 : b < wr.heap.size := by have := frw.size; omega
        have IH2 := IH wr lo hi hin (by have := frw.size; omega) (by omega)
        have HIH := hide IH2
        have HF := hide fr
        have HT := hide hto
        clear hx ih fr frw fr1 hto hchild hin IH IH2
        generalize hq : u.dep = q at *
        have HQ := hide hq
        clear hq
        go_wp2_with fail
        refine HIH.out.mono ?_
        rintro e w2 ⟨rfl, fr2⟩
        have HF2 := hide fr2
        clear fr2
        by_cases hlt2 : m < q
        · go_wp2
          go_roundw
          case rel => exact ⟨j + 1, q, hlt, by go_num, rfl, by rw [HT.out, ← HM.out, Nat.max_eq_right (by omega)], by omega, HF.out.trans HF2.out⟩
          case measure => simp [intOf]; omega
        · go_wp2
          go_roundw
          case rel => exact ⟨j + 1, m, hlt, by go_num, rfl, by rw [HT.out, ← HM.out, Nat.max_eq_left (by omega)], by omega, HF.out.trans HF2.out⟩
          case measure => simp [intOf]; omega
      · obtain rfl : l.length = j := by omega
        have HW := hide frw
        clear ih
        have hm2 : m = top ((l.map T.v).map V.dep) := by rw [HM.out, List.take_of_length_le (by simp)]
        have HM2 := hide hm2
        clear hm2
        go_wp2
        go_ret
        exact ⟨by rw [← HM2.out]; rfl, HW.out⟩

/-- The references of a value, by the document. -/
def V.rf : V → List Int
  | .mk k _ _ l r => if k = 4 then [r] else (l.map V.rf).flatten
termination_by v => v
theorem V.rf_mk (k n : Int) (s : ByteArray) (l : List V) (r : Int) : (V.mk k n s l r).rf = if k = 4 then [r] else (l.map V.rf).flatten := by rw [V.rf]

theorem rf_walkL (l : List V) : ∀ (i : Nat) (p : List Int), (∀ v ∈ l, ∀ p, refsOf (v.walk p) = v.rf) → refsOf (walkL (l.map V.walk) i p) = (l.map V.rf).flatten := by
  induction l with
  | nil => intro i p _; rfl
  | cons x l ih =>
    intro i p h
    simp only [List.map_cons, walkL, refsOf_append, List.flatten_cons]
    rw [h x (by simp), ih (i + 1) p fun v hv => h v (by simp [hv])]

theorem rf_walk (v : V) : v.ok = true → ∀ p, refsOf (v.walk p) = v.rf := by
  induction v using V.ind with
  | h k n s l r ih =>
    intro hok p
    rw [V.ok_mk, Bool.and_eq_true, List.all_eq_true] at hok
    rw [V.walk_mk, V.rf_mk]
    simp only [refsOf]
    by_cases h4 : k = 4
    · obtain rfl : l = [] := List.eq_nil_of_length_eq_zero (fok_len (by omega) hok.1)
      simp [h4, walkL, refsOf]
    · rw [if_neg h4, if_neg h4, rf_walkL l 0 p fun v hv => ih v hv (hok.2 v hv)]

theorem refs_rf {v : V} (h : v.may = true) : v.refs = v.rf := by
  rw [V.refs, if_pos h, rf_walk v (may_ok h)]

theorem rf_length (v : V) : v.rf.length ≤ v.size := by
  induction v using V.ind with
  | h k n s l r ih =>
    rw [V.rf_mk, V.size_mk]
    split
    · simp
    · have : ((l.map V.rf).flatten).length ≤ (l.map V.size).sum := by
        rename_i h4
        clear h4
        induction l with
        | nil => simp
        | cons x l ih2 =>
          have h1 := ih x (by simp)
          have h2 := ih2 fun v hv => ih v (by simp [hv])
          simp only [List.map_cons, List.flatten_cons, List.length_append, List.sum_cons]
          omega
      omega

abbrev refCells (L : List Int) : List Value := L.map fun r => Value.int .i64 r

/-- What the document's Refs gives. -/
def RfP (L : List Int) (w : World) (e : Ending) (w' : World) : Prop :=
  ∃ v, e = .returned v ∧ w'.ownsRow w.heap.size 25 1 v L.length (refCells L) ∧ (L = [] → v = .slice none 0 0) ∧ Fr No w w'

set_option maxRecDepth 100000 in
set_option maxHeartbeats 4000000 in
theorem refRefs_any (t : T) : ∀ (w : World) (lo hi : Nat), t.In w lo hi → hi ≤ w.heap.size → t.v.size ≤ 1000000 → Calls Try.prog 62 #[t.val] w (RfP t.v.rf w) := by
  induction t using T.ind with
  | h k n s A cap l r ih =>
    intro w lo hi ht hh hsz
    rw [T.val_mk]
    have fit := (T.in_mk.1 ht).1
    have hlen := fit.len1
    have hK := Blk.new' w 27 #[.int .u8 k, .int .i64 n, .string s, .slice A l.length cap, .int .i64 r] rfl
    have fr1 := (Fr.refl No w).alloc (.cells #[.int .u8 k, .int .i64 n, .string s, .slice A l.length cap, .int .i64 r] 27)
    by_cases h4 : k = 4
    · subst h4
      have e : (T.mk 4 n s A cap l r).v.rf = [r] := by rw [T.v_mk, V.rf_mk, if_pos rfl]
      rw [e]
      have hB := Blk.new (w.alloc (.cells #[.int .u8 4, .int .i64 n, .string s, .slice A l.length cap, .int .i64 r] 27)) 25 #[.int .i64 r]
      have hP : RfP [r] w (.returned (.slice (some ⟨w.heap.size + 1, 0, none⟩) 1 1)) ((w.alloc (.cells #[.int .u8 4, .int .i64 n, .string s, .slice A l.length cap, .int .i64 r] 27)).alloc (.cells #[.int .i64 r] 25)) := by
        refine ⟨_, rfl, ⟨rfl, .inr ⟨w.heap.size + 1, 1, #[.int .i64 r], rfl, by omega, ?_, Nat.le_refl _, by unfold maxLen; omega, rfl, rfl⟩⟩, (fun h => by cases h), fr1.alloc _⟩
        rw [World.size_alloc] at hB
        exact hB
      have HP := hide hP
      clear ih hP hB
      go_enter Try.func62, Try.ntmps62
      go_wp2
      go_ret
      exact HP.out
    have h4' : (k == 4) = false := by simpa using h4
    have hrf : (T.mk k n s A cap l r).v.rf = ((l.map T.v).map V.rf).flatten := by rw [T.v_mk, V.rf_mk, if_neg h4]
    have hsize : (T.mk k n s A cap l r).v.size = 1 + ((l.map T.v).map V.size).sum := by rw [T.v_mk, V.size_mk]
    rw [hsize] at hsz
    have HRF := hide hrf
    clear hsize hrf
    obtain ⟨i0, hi0, hz0, hz1, hz2⟩ := info_parts ref_info
    go_enter Try.func62, Try.ntmps62
    go_wp2_with fail
    go_loopw [3, 4] (fun v i wr => ∃ (j : Nat) (A3 : Option Addr) (c3 : Nat) (L : List Int), j ≤ l.length ∧ i = .int .i64 j ∧ v = .slice A3 L.length c3 ∧ L = (((l.map T.v).take j).map V.rf).flatten ∧ wr.ownsRow (w.heap.size + 1) 25 1 v L.length (refCells L) ∧ (L = [] → v = .slice none 0 0) ∧ L.length ≤ (((l.map T.v).map V.size).take j).sum ∧ Fr No w wr ∧ Blk wr w.heap.size 27 #[.int .u8 k, .int .i64 n, .string s, .slice A l.length cap, .int .i64 r]) (fun _ i _ => l.length - (intOf i).toNat)
    case atStart =>
      exact ⟨0, none, 0, [], Nat.zero_le _, rfl, rfl, by simp, World.ownsRow_nil _ _ _ _, fun _ => rfl, by simp, fr1, hK⟩
    case round =>
      obtain ⟨j, A3, c3, L, hj, rfl, rfl, hL, own, hnil, hLs, fr, blk⟩ := hrel
      obtain ⟨c0, c1, c2, c3', c4, cf⟩ := blk.cells5
      have q0 := blk.lt
      have hts := sum_take_le ((l.map T.v).map V.size) j
      by_cases hlt : j < l.length
      · obtain ⟨b, o, k1, n1, s1, A1, cap1, l1, r1, rfl, hb0, hb1, hx, hin, e0, e1, e2, e3, e4⟩ := T.elem (ht.no fr hh) hlt
        have hto := sum_take_succ ((l.map T.v).map V.size) j (by simpa using hlt)
        have hts2 := sum_take_le ((l.map T.v).map V.size) (j + 1)
        rw [List.getElem_map, List.getElem_map, hx] at hto
        have hj' : j < (l.map T.v).length := by simpa using hlt
        have hap : (((l.map T.v).take (j + 1)).map V.rf).flatten = L ++ (T.mk k1 n1 s1 A1 cap1 l1 r1).v.rf := by
          rw [List.take_succ_eq_append_getElem hj', List.map_append, List.flatten_append, ← hL, List.getElem_map, hx]; simp
        have hrl := rf_length (T.mk k1 n1 s1 A1 cap1 l1 r1).v
        have IH := ih l[j] (List.getElem_mem hlt) wr lo hi (by rw [hx]; exact hin) (by have := fr.size; omega)
        rw [hx, T.val_mk] at IH
        generalize (T.mk k1 n1 s1 A1 cap1 l1 r1).v = u at *
        have IH2 := IH (by omega)
        have hus : u.size ≤ 1000000 := by omega
        have g0 : b < wr.heap.size := by have := fr.size; omega
        have HIH := hide IH2
        have HO := hide own
        have HF := hide fr
        have HB := hide blk
        have HN := hide hnil
        have HAP := hide hap
        have HTO := hide hto
        have HLS := hide hLs
        clear ih IH IH2 own fr blk hnil hap hto hL hx hin ht hLs hts2
        generalize hR : u.rf = R at *
        have HR := hide hR
        have hRl : R.length ≤ 1000000 := by omega
        have hLl : L.length ≤ 1000000 := by have := HLS.out; omega
        clear hR
        go_wp2_with fail
        refine HIH.out.mono ?_
        rintro e w2 ⟨vc, rfl, oc, hcn, f2⟩
        have hs2 := f2.size
        have hsw := HF.out.size
        have own2 := owns_fr HO.out f2 fun _ _ h => h
        have HF2 := hide f2
        have HB2 := hide (HB.out.fr f2 fun h => h)
        rcases List.eq_nil_or_concat R with rfl | ⟨R', x, hRe⟩
        · obtain rfl := hcn rfl
          clear hcn f2
          go_wp2_with (at_builtin; refine wpList_append_own_none (by rfl) _ _ _ (by rfl) (w.heap.size + 1) 25 i0 1 Try.underlying100 hi0 (.slice A3 L.length c3) L.length (refCells L) (by rfl) own2 (by rfl) ?_)
          go_roundw
          case rel => exact ⟨j + 1, A3, c3, L, hlt, by go_num, rfl, by rw [HAP.out]; simp, own2, HN.out, by rw [HTO.out]; have := HLS.out; omega, HF.out.trans HF2.out, HB2.out⟩
          case measure => simp [intOf]; omega
        · have hne : 0 < R.length := by rw [hRe]; simp
          clear hRe hcn
          obtain ⟨gc, cc, rfl, hg1, hg2⟩ := oc.form hne
          have hnews := World.ownsRow.cells oc (g := gc) rfl
          have HNE := hide hnews
          clear hnews oc f2
          go_wp2_with (at_builtin; refine wpList_append_lies _ (by rfl) _ _ _ (by rfl) (w.heap.size + 1) 25 i0 _ 1 8 Try.underlying100 hi0 hz0 hz1 hz2 (by rfl) (by omega) (.slice A3 L.length c3) L.length (refCells L) (by rfl) own2 ⟨gc, 0, none⟩ R.length cc (refCells R) (by rfl) (by simp) HNE.out (by simp [Value.oneCell']) hne (by unfold maxLen; omega) (by omega) (by omega) w2.heap.size rfl ?_; intro g cp w3 hown3 hgrow hat hlt3; have HO3 := hide hown3; have HG := hide hgrow; have HA := hide hat; clear hown3 hgrow hat)
          go_roundw
          case rel =>
            have hl2 := owns_lt own2
            have e : (L ++ R).length = L.length + R.length := List.length_append
            have hnb : ∀ i, i < w.heap.size + 1 → ¬ some i = (Value.slice A3 L.length c3).ownBlock := fun i hi h => by
              have := hl2 i h.symm; omega
            refine ⟨j + 1, some ⟨g, 0, none⟩, cp, L ++ R, hlt, by go_num, by rw [e], HAP.out.symm, ?_, fun h => ?_, ?_, ?_, HB2.out.fr (fr_grown HG.out) (hnb _ (by omega))⟩
            · have := HO3.out
              rw [e, refCells, List.map_append]
              exact this
            · exfalso
              have e0 : (L ++ R).length = 0 := by rw [h]; rfl
              omega
            · rw [HTO.out, e]; have := HLS.out; omega
            · exact (HF.out.trans HF2.out).trans' (fr_grown HG.out) fun i hi h => hnb i (by omega) h
          case measure => simp [intOf]; omega
      · obtain rfl : l.length = j := by omega
        have hLe : L = ((l.map T.v).map V.rf).flatten := by rw [hL, List.take_of_length_le (by simp)]
        have hP : RfP (T.mk k n s A cap l r).v.rf w (.returned (.slice A3 L.length c3)) wr := by
          rw [HRF.out, ← hLe]
          exact ⟨_, rfl, owns_mono own (by omega), hnil, fr⟩
        have HP := hide hP
        clear hP own hnil fr ih ht
        go_wp2
        go_ret
        exact HP.out

end Go.Proofs.Ytihjmipmjogpoaa

/- Chapter 2: posternlaw02.awake. -/
namespace Go.Proofs.Ytihjmipmjogpoaa
open Go.RowKit

theorem func105_neq_nil (w : World) (g : Nat) : (binOp .neq 73 (.func (.func 105) #[] #[.pointer (some ⟨g, 0, none⟩)]) .nilFunc).run Try.prog w = .ok (.bool true) w := by kernel_rfl

set_option maxRecDepth 100000 in
set_option maxHeartbeats 8000000 in
theorem awake_any (w : World) : Calls Try.prog 38 #[] w fun e w' => e = .returned (.bool true) ∧ Fr No w w' := by
  have hfn := func105_neq_nil
  go_enter Try.func38, Try.ntmps38
  go_wp2_with fail
  refine (num2_any 1 w).mono ?_
  rintro e w1 ⟨rfl, f1⟩
  go_wp2_with fail
  refine (ref2_any 7 w1).mono ?_
  rintro e w2 ⟨rfl, f2⟩
  have g2 := f1.trans f2
  clear f1 f2
  go_wp2_with fail
  have hB3 : Blk (w2.alloc (.cells awC1 27)) w2.heap.size 27 awC1 := Blk.new w2 27 awC1
  have g3 := g2.alloc (.cells awC1 27)
  unfold awC1 at hB3 g3
  generalize World.alloc w2 _ = w3 at *
  refine (list2_any _ 1 1 w3).mono ?_
  rintro e w4 ⟨rfl, f4⟩
  have hB4 := hB3.fr f4 fun h => h
  have g4 := g3.trans f4
  clear hB3 g3 f4 g2
  go_wp2_with fail
  have hB5 := hB4.alloc (.cells (awC2 w2.heap.size) 27)
  have hC5 : Blk (w4.alloc (.cells (awC2 w2.heap.size) 27)) w4.heap.size 27 (awC2 w2.heap.size) := Blk.new w4 27 _
  have g5 := g4.alloc (.cells (awC2 w2.heap.size) 27)
  unfold awC2 at hB5 hC5 g5
  generalize World.alloc w4 _ = w5 at *
  refine (list2_any _ 2 2 w5).mono ?_
  rintro e w6 ⟨rfl, f6⟩
  have hB6 := hB5.fr f6 fun h => h
  have hC6 := hC5.fr f6 fun h => h
  have g6 := g5.trans f6
  clear hB5 hC5 hB4 g4 g5 f6
  go_wp2_with fail
  have hV7 : Blk (w6.alloc (.cells #[.int .u8 3, .int .i64 0, .string ⟨#[]⟩, .slice (some ⟨w4.heap.size, 0, none⟩) 2 2, .int .i64 0] 27)) w6.heap.size 27 #[.int .u8 3, .int .i64 0, .string ⟨#[]⟩, .slice (some ⟨w4.heap.size, 0, none⟩) 2 2, .int .i64 0] := Blk.new w6 27 _
  have hB7 := hB6.alloc (.cells #[.int .u8 3, .int .i64 0, .string ⟨#[]⟩, .slice (some ⟨w4.heap.size, 0, none⟩) 2 2, .int .i64 0] 27)
  have hC7 := hC6.alloc (.cells #[.int .u8 3, .int .i64 0, .string ⟨#[]⟩, .slice (some ⟨w4.heap.size, 0, none⟩) 2 2, .int .i64 0] 27)
  have g7 := g6.alloc (.cells #[.int .u8 3, .int .i64 0, .string ⟨#[]⟩, .slice (some ⟨w4.heap.size, 0, none⟩) 2 2, .int .i64 0] 27)
  clear hB6 hC6 g6
  generalize World.alloc w6 _ = w7 at *
  generalize w6.heap.size = gv at *
  generalize w4.heap.size = gc at *
  generalize w2.heap.size = gb at *
  refine (aw_bytes hB7 hC7).mono ?_
  rintro e w8 ⟨rfl, f8⟩
  unfold awS
  have hV8 := hV7.fr f8 fun h => h
  have hB8 := hB7.fr f8 fun h => h
  have hC8 := hC7.fr f8 fun h => h
  have g8 := g7.trans f8
  clear hV7 hB7 hC7 g7 f8
  go_wp2_with fail
  refine (aw_read w8).mono ?_
  rintro e w9 ⟨⟨⟨k, n, s, A, cap, l, r⟩, ht, rfl, hin⟩, f9⟩
  rw [T.val_mk]
  have hV9 := hV8.fr f9 fun h => h
  have hB9 := hB8.fr f9 fun h => h
  have hC9 := hC8.fr f9 fun h => h
  have g9 := g8.trans f9
  obtain ⟨c0, c1, c2, c3, c4, -⟩ := hV9.cells5
  have q0 := hV9.lt
  have HT := hide ht
  have HI := hide hin
  clear hV8 hB8 hC8 g8 f9 ht hin
  go_wp2_with fail
  have f10 := ((Fr.refl No w9).alloc (.cells #[.int .u8 k, .int .i64 n, .string s, .slice A l.length cap, .int .i64 r] 27)).alloc (.cells #[.int .i64 1, .int .i64 0] 3)
  have hX10 : Blk ((w9.alloc (.cells #[.int .u8 k, .int .i64 n, .string s, .slice A l.length cap, .int .i64 r] 27)).alloc (.cells #[.int .i64 1, .int .i64 0] 3)) w9.heap.size 27 #[.int .u8 k, .int .i64 n, .string s, .slice A l.length cap, .int .i64 r] := (Blk.new w9 27 _).alloc _
  have hP10 : Blk ((w9.alloc (.cells #[.int .u8 k, .int .i64 n, .string s, .slice A l.length cap, .int .i64 r] 27)).alloc (.cells #[.int .i64 1, .int .i64 0] 3)) (w9.heap.size + 1) 3 #[.int .i64 1, .int .i64 0] := Blk.new' _ 3 _ (by simp)
  have hV10 := hV9.fr f10 fun h => h
  have hB10 := hB9.fr f10 fun h => h
  have hC10 := hC9.fr f10 fun h => h
  have g10 := g9.trans f10
  have HI10 := hide (HI.out.no f10 (Nat.le_refl _))
  have HS10 := hide f10.size
  clear hV9 hB9 hC9 g9 f10 c0 c1 c2 c3 c4 q0
  generalize World.alloc (World.alloc w9 _) _ = w10 at *
  generalize hgx : w9.heap.size = gx at *
  clear hgx
  refine (aw_atc hB10 hC10 hP10).mono ?_
  rintro e w11 ⟨⟨A2, cap2, rfl⟩, f11⟩
  have hV11 := hV10.fr f11 fun h => h
  have hB11 := hB10.fr f11 fun h => h
  have hC11 := hC10.fr f11 fun h => h
  have hX11 := hX10.fr f11 fun h => h
  have g11 := g10.trans f11
  have HI11 := hide (HI10.out.no f11 HS10.out)
  have HS11 := hide (Nat.le_trans HS10.out f11.size)
  clear hV10 hB10 hC10 hX10 hP10 g10 f11 HI10 HS10
  go_wp2_with fail
  have f12 := (Fr.refl No w11).alloc (.cells #[.int .u8 4, .int .i64 0, .string ⟨#[]⟩, .slice A2 0 cap2, .int .i64 7] 27)
  have hY12 : Blk (w11.alloc (.cells #[.int .u8 4, .int .i64 0, .string ⟨#[]⟩, .slice A2 0 cap2, .int .i64 7] 27)) w11.heap.size 27 #[.int .u8 4, .int .i64 0, .string ⟨#[]⟩, .slice A2 0 cap2, .int .i64 7] := Blk.new w11 27 _
  have hV12 := hV11.fr f12 fun h => h
  have hB12 := hB11.fr f12 fun h => h
  have hC12 := hC11.fr f12 fun h => h
  have hX12 := hX11.fr f12 fun h => h
  have g12 := g11.trans f12
  have HI12 := hide (HI11.out.no f12 HS11.out)
  have HS12 := hide (Nat.le_trans HS11.out f12.size)
  clear hV11 hB11 hC11 hX11 g11 f12 HI11 HS11
  generalize World.alloc w11 _ = w12 at *
  generalize hgy : w11.heap.size = gy at *
  clear hgy
  refine (num2_any 1 w12).mono ?_
  rintro e w13 ⟨rfl, f13⟩
  go_wp2_with fail
  refine (num2_any 2 w13).mono ?_
  rintro e w14 ⟨rfl, f14⟩
  go_wp2_with fail
  refine (aw_order w14).mono ?_
  rintro e w15 ⟨rfl, f15⟩
  have f := (f13.trans f14).trans f15
  have hV15 := hV12.fr f fun h => h
  have hB15 := hB12.fr f fun h => h
  have hC15 := hC12.fr f fun h => h
  have hX15 := hX12.fr f fun h => h
  have hY15 := hY12.fr f fun h => h
  have g15 := g12.trans f
  have HI15 := hide (HI12.out.no f HS12.out)
  have HS15 := hide (Nat.le_trans HS12.out f.size)
  clear hV12 hB12 hC12 hX12 hY12 g12 f f13 f14 f15 HI12 HS12
  obtain ⟨c0, c1, c2, c3, c4, -⟩ := hV15.cells5
  obtain ⟨x0, x1, x2, x3, x4, -⟩ := hX15.cells5
  have q0 := hV15.lt
  have q1 := hX15.lt
  go_wp2_with fail
  have HSM := aw_same hB15 hC15 HT.out (T.In.more (Nat.le_refl _) HS15.out _ HI15.out)
  rw [T.val_mk] at HSM
  refine HSM.mono ?_
  rintro e w16 ⟨rfl, f16⟩
  have hV16 := hV15.fr f16 fun h => h
  have hB16 := hB15.fr f16 fun h => h
  have hC16 := hC15.fr f16 fun h => h
  have hY16 := hY15.fr f16 fun h => h
  have g16 := g15.trans f16
  clear hV15 hB15 hC15 hX15 hY15 g15 f16 HI15 HS15 c0 c1 c2 c3 c4 x0 x1 x2 x3 x4 q0 q1 HSM HT HI
  obtain ⟨c0, c1, c2, c3, c4, -⟩ := hV16.cells5
  obtain ⟨y0, y1, y2, y3, y4, -⟩ := hY16.cells5
  have q0 := hV16.lt
  have q1 := hY16.lt
  go_wp2_with fail
  clear c0 c1 c2 c3 c4 y0 y1 y2 y3 y4 q0 q1 hY16
  refine (aw_parts hB16 hC16).mono ?_
  rintro e w17 ⟨rfl, f17⟩
  have hV17 := hV16.fr f17 fun h => h
  have hB17 := hB16.fr f17 fun h => h
  have hC17 := hC16.fr f17 fun h => h
  have g17 := g16.trans f17
  clear hV16 hB16 hC16 g16 f17
  obtain ⟨c0, c1, c2, c3, c4, -⟩ := hV17.cells5
  have q0 := hV17.lt
  go_wp2_with fail
  clear c0 c1 c2 c3 c4 q0
  refine (aw_deep hB17 hC17).mono ?_
  rintro e w18 ⟨rfl, f18⟩
  have hV18 := hV17.fr f18 fun h => h
  have hB18 := hB17.fr f18 fun h => h
  have hC18 := hC17.fr f18 fun h => h
  have g18 := g17.trans f18
  clear hV17 hB17 hC17 g17 f18
  obtain ⟨c0, c1, c2, c3, c4, -⟩ := hV18.cells5
  have q0 := hV18.lt
  go_wp2_with fail
  clear c0 c1 c2 c3 c4 q0
  refine (aw_mayc hB18 hC18).mono ?_
  rintro e w19 ⟨rfl, f19⟩
  have hV19 := hV18.fr f19 fun h => h
  have hB19 := hB18.fr f19 fun h => h
  have hC19 := hC18.fr f19 fun h => h
  have g19 := g18.trans f19
  clear hV18 hB18 hC18 g18 f19
  obtain ⟨c0, c1, c2, c3, c4, -⟩ := hV19.cells5
  have q0 := hV19.lt
  go_wp2_with fail
  clear c0 c1 c2 c3 c4 q0
  refine (aw_each hB19 hC19).mono ?_
  rintro e w20 ⟨rfl, f20⟩
  have g20 := g19.trans f20
  go_wp2
  go_ret
  exact ⟨rfl, g20⟩

end Go.Proofs.Ytihjmipmjogpoaa

/- Chapter 2: a value that came in, and its lent likeness, in a world behind. -/
namespace Go.Proofs.Ytihjmipmjogpoaa
open Go.RowKit

structure Lo (w wi : World) (b0 go : Nat) (v own : T) (lo hi : Nat) : Prop where
  bv : Blk wi b0 27 v.cells.toArray
  bo : Blk wi go 27 own.cells.toArray
  iv : v.In wi 0 w.heap.size
  io : own.In wi lo hi
  mo : own.Mk wi
  f : Fr No w wi
  h0 : w.heap.size ≤ b0
  h1 : b0 < lo
  h2 : lo ≤ hi
  h3 : hi ≤ go

theorem Lo.fr {S : Nat → Prop} {w wi wj : World} {b0 go : Nat} {v own : T} {lo hi : Nat} (h : Lo w wi b0 go v own lo hi) (f : Fr S wi wj) (hs : ∀ i, i ≤ go → ¬ S i) : Lo w wj b0 go v own lo hi := by
  have a := h.bo.lt
  have b := h.f.size
  have c := h.h0
  have d := h.h1
  have e := h.h2
  have g := h.h3
  exact ⟨h.bv.fr f (hs _ (by omega)), h.bo.fr f (hs _ (by omega)), h.iv.fr f b (fun i _ hi => hs i (by omega)), h.io.fr f (by omega) (fun i _ hi => hs i (by omega)),
    T.Mk.fr f (by omega) _ h.io (fun i hi => hs i (by have := T.In.blocks _ h.io i hi; omega)) h.mo, h.f.trans' f (fun i hi hS => hs i (by omega) hS), h.h0, h.h1, h.h2, h.h3⟩

theorem Lo.no {w wi wj : World} {b0 go : Nat} {v own : T} {lo hi : Nat} (h : Lo w wi b0 go v own lo hi) (f : Fr No wi wj) : Lo w wj b0 go v own lo hi := h.fr f fun _ _ h => h

theorem Lo.lt {w wi : World} {b0 go : Nat} {v own : T} {lo hi : Nat} (h : Lo w wi b0 go v own lo hi) : hi ≤ wi.heap.size := by have := h.bo.lt; have := h.h3; omega

theorem may_small {v : V} (h : v.may = true) : (v.size : Int) ≤ 1200 ∧ (v.ht : Int) ≤ 40 := by
  have h1 := ht_le_dep v (may_ok h)
  simp only [V.may, V.fits, Bool.and_eq_true, decide_eq_true_eq] at h
  omega

theorem rf_rng {w : World} {lo hi : Nat} (t : T) : t.In w lo hi → ∀ r ∈ t.v.rf, -9223372036854775808 ≤ r ∧ r ≤ 9223372036854775807 := by
  induction t using T.ind with
  | h k n s A cap l r ih =>
    intro h x hx
    obtain ⟨f, _, hl⟩ := T.in_mk.1 h
    rw [T.v_mk, V.rf_mk] at hx
    split at hx
    · simp at hx; subst hx; exact ⟨f.r0, f.r1⟩
    · obtain ⟨L, hL, hx⟩ := List.mem_flatten.1 hx
      obtain ⟨u, hu, rfl⟩ := List.mem_map.1 hL
      obtain ⟨y, hy, rfl⟩ := List.mem_map.1 hu
      exact ih y hy (hl y hy) x hx

theorem rf_pos (v : V) : v.ok = true → ∀ r ∈ v.rf, 1 ≤ r := by
  induction v using V.ind with
  | h k n s l r ih =>
    intro h x hx
    rw [V.ok_mk, Bool.and_eq_true, List.all_eq_true] at h
    rw [V.rf_mk] at hx
    split at hx
    · rename_i h4
      subst h4
      simp at hx
      subst hx
      have := h.1
      simp [fok] at this
      omega
    · obtain ⟨L, hL, hx⟩ := List.mem_flatten.1 hx
      obtain ⟨u, hu, rfl⟩ := List.mem_map.1 hL
      exact ih u hu (h.2 u hu) x hx

end Go.Proofs.Ytihjmipmjogpoaa

/- Chapter 2: plain laws of renaming. -/
namespace Go.Proofs.Ytihjmipmjogpoaa
open Go.RowKit

theorem ren_size (f : Int → Option Int) (v : V) : (v.ren f).size = v.size := by
  induction v using V.ind with
  | h k n s l r ih =>
    rw [V.ren_mk]
    split
    · rw [V.size_mk, V.size_mk]
    · have e : l.map (V.size ∘ V.ren f) = l.map V.size := List.map_congr_left fun x hx => ih x hx
      rw [V.size_mk, V.size_mk, List.map_map, e]

theorem ren_dep (f : Int → Option Int) (v : V) : (v.ren f).dep = v.dep := by
  induction v using V.ind with
  | h k n s l r ih =>
    rw [V.ren_mk]
    split
    · rw [V.dep_mk, V.dep_mk]
    · have e : l.map (V.dep ∘ V.ren f) = l.map V.dep := List.map_congr_left fun x hx => ih x hx
      rw [V.dep_mk, V.dep_mk, List.map_map, e]

theorem ren_rf (f : Int → Option Int) (v : V) : (v.ren f).rf = v.rf.map fun r => (f r).getD 0 := by
  induction v using V.ind with
  | h k n s l r ih =>
    rw [V.ren_mk]
    by_cases h4 : k = 4
    · rw [if_pos h4, V.rf_mk, V.rf_mk, if_pos h4, if_pos h4]; rfl
    · have e : l.map (V.rf ∘ V.ren f) = l.map (fun v => v.rf.map fun r => (f r).getD 0) := List.map_congr_left fun x hx => ih x hx
      rw [if_neg h4, V.rf_mk, V.rf_mk, if_neg h4, if_neg h4, List.map_map, e, List.map_flatten, List.map_map]
      rfl

theorem named_iff (f : Int → Option Int) (v : V) : v.named f = true ↔ ∀ r ∈ v.rf, (f r).isSome = true := by
  induction v using V.ind with
  | h k n s l r ih =>
    rw [V.named_mk, V.rf_mk]
    by_cases h4 : k = 4
    · simp [h4]
    · rw [if_neg h4, if_neg h4, List.all_eq_true]
      constructor
      · intro h x hx
        obtain ⟨L, hL, hx⟩ := List.mem_flatten.1 hx
        obtain ⟨u, hu, rfl⟩ := List.mem_map.1 hL
        exact (ih u hu).1 (h u hu) x hx
      · intro h u hu
        exact (ih u hu).2 fun x hx => h x (List.mem_flatten.2 ⟨_, List.mem_map_of_mem hu, hx⟩)

theorem ren_ok (f : Int → Option Int) (v : V) : v.ok = true → (∀ r ∈ v.rf, 1 ≤ (f r).getD 0) → (v.ren f).ok = true := by
  induction v using V.ind with
  | h k n s l r ih =>
    intro hok hp
    rw [V.ok_mk, Bool.and_eq_true, List.all_eq_true] at hok
    rw [V.rf_mk] at hp
    rw [V.ren_mk]
    by_cases h4 : k = 4
    · subst h4
      rw [if_pos rfl] at hp ⊢
      have := hp r (by simp)
      rw [V.ok_mk, Bool.and_eq_true, List.all_eq_true]
      refine ⟨?_, hok.2⟩
      have h1 := hok.1
      simp [fok] at h1 ⊢
      exact ⟨⟨⟨this, h1.1.1.2⟩, h1.1.2⟩, h1.2⟩
    · rw [if_neg h4] at hp ⊢
      rw [V.ok_mk, Bool.and_eq_true, List.all_eq_true, List.length_map]
      refine ⟨hok.1, fun u hu => ?_⟩
      obtain ⟨x, hx, rfl⟩ := List.mem_map.1 hu
      exact ih x hx (hok.2 x hx) fun r hr => hp r (List.mem_flatten.2 ⟨_, List.mem_map_of_mem hx, hr⟩)

theorem ren_may {f : Int → Option Int} {v : V} (hm : v.may = true) (hp : ∀ r ∈ v.rf, 1 ≤ (f r).getD 0) : (v.ren f).may = true := by
  have h := hm
  simp only [V.may, V.fits, Bool.and_eq_true, decide_eq_true_eq] at h ⊢
  exact ⟨⟨ren_ok f v h.1.1 hp, by rw [ren_size]; exact h.1.2⟩, by rw [ren_dep]; exact h.2⟩

theorem ren_congr {f g : Int → Option Int} (v : V) : (∀ r ∈ v.rf, (f r).getD 0 = (g r).getD 0) → v.ren f = v.ren g := by
  induction v using V.ind with
  | h k n s l r ih =>
    intro h
    rw [V.rf_mk] at h
    rw [V.ren_mk, V.ren_mk]
    by_cases h4 : k = 4
    · rw [if_pos h4] at h ⊢; rw [if_pos h4, h r (by simp)]
    · rw [if_neg h4] at h ⊢
      rw [if_neg h4]
      have e : l.map (V.ren f) = l.map (V.ren g) := List.map_congr_left fun x hx => ih x hx fun r hr => h r (List.mem_flatten.2 ⟨_, List.mem_map_of_mem hx, hr⟩)
      rw [e]

theorem ren_ren (f g : Int → Option Int) (v : V) : (v.ren f).ren g = v.ren fun r => g ((f r).getD 0) := by
  induction v using V.ind with
  | h k n s l r ih =>
    rw [V.ren_mk, V.ren_mk]
    by_cases h4 : k = 4
    · rw [if_pos h4, if_pos h4, V.ren_mk, if_pos h4]
    · rw [if_neg h4, if_neg h4, V.ren_mk, if_neg h4, List.map_map]
      have e : l.map (V.ren g ∘ V.ren f) = l.map (V.ren fun r => g ((f r).getD 0)) := List.map_congr_left fun x hx => ih x hx
      rw [e]

theorem ren_some (v : V) : v.ren some = v := by
  induction v using V.ind with
  | h k n s l r ih =>
    rw [V.ren_mk]
    by_cases h4 : k = 4
    · rw [if_pos h4]; rfl
    · rw [if_neg h4]
      have e : l.map (V.ren some) = l.map id := List.map_congr_left fun x hx => ih x hx
      rw [e, List.map_id]

theorem ren_id {f : Int → Option Int} {v : V} (h : ∀ r ∈ v.rf, (f r).getD 0 = r) : v.ren f = v := by
  rw [ren_congr (g := some) v h, ren_some]

/-! ### Names -/
theorem nm_mem : ∀ (fs ts : List Int) (r t : Int), nmOf fs ts r = some t → t ∈ ts
  | [], _, _, _, h => by simp [nmOf] at h
  | _ :: _, [], _, _, h => by simp [nmOf] at h
  | f :: fs, t0 :: ts, r, t, h => by
    simp only [nmOf] at h
    split at h
    · injection h with h; simp [h]
    · exact List.mem_cons_of_mem _ (nm_mem fs ts r t h)

theorem nm_isSome : ∀ (fs ts : List Int) (r : Int), fs.length ≤ ts.length → r ∈ fs → (nmOf fs ts r).isSome = true
  | [], _, _, _, h => by simp at h
  | _ :: _, [], _, h, _ => by simp at h
  | f :: fs, t :: ts, r, h, hm => by
    simp only [nmOf]
    split
    · rfl
    · rename_i hne
      rcases List.mem_cons.1 hm with rfl | hm
      · exact absurd rfl hne
      · exact nm_isSome fs ts r (by simpa using h) hm

theorem nm_key : ∀ (fs ts : List Int) (r t : Int), nmOf fs ts r = some t → r ∈ fs
  | [], _, _, _, h => by simp [nmOf] at h
  | _ :: _, [], _, _, h => by simp [nmOf] at h
  | f :: fs, t0 :: ts, r, t, h => by
    simp only [nmOf] at h
    split at h
    · rename_i e; simp [e]
    · exact List.mem_cons_of_mem _ (nm_key fs ts r t h)

/-- There and back. -/
theorem nm_back : ∀ (fs ts : List Int) (r t : Int), ts.Nodup → nmOf fs ts r = some t → nmOf ts fs t = some r
  | [], _, _, _, _, h => by simp [nmOf] at h
  | _ :: _, [], _, _, _, h => by simp [nmOf] at h
  | f :: fs, t0 :: ts, r, t, hn, h => by
    rw [List.nodup_cons] at hn
    simp only [nmOf] at h ⊢
    by_cases hf : f = r
    · rw [if_pos hf] at h
      injection h with h
      rw [if_pos h, hf]
    · rw [if_neg hf] at h
      have hm := nm_mem fs ts r t h
      rw [if_neg (fun e => hn.1 (by rw [e]; exact hm))]
      exact nm_back fs ts r t hn.2 h

/-- Twice at once: each name by what it goes under. -/
theorem nm_map : ∀ (fs ts : List Int) (g : Int → Int) (r t : Int), nmOf fs ts r = some t → nmOf fs (ts.map g) r = some (g t)
  | [], _, _, _, _, h => by simp [nmOf] at h
  | _ :: _, [], _, _, _, h => by simp [nmOf] at h
  | f :: fs, t0 :: ts, g, r, t, h => by
    simp only [nmOf, List.map_cons] at h ⊢
    split at h
    · rename_i e
      rw [if_pos e]
      injection h with h
      rw [h]
    · rename_i e
      rw [if_neg e]
      exact nm_map fs ts g r t h

theorem all_ge {L : List Int} (h : (L.all fun r => decide (1 ≤ r)) = true) : ∀ r ∈ L, 1 ≤ r := fun r hr => by simpa using List.all_eq_true.1 h r hr

/-- What it takes to be renamed. -/
theorem renV_ok {v : V} {fs ts : List Int} (h : (renV v fs ts).2 = 0) : v.may = true ∧ fs.length = ts.length ∧ (∀ r ∈ fs, 1 ≤ r) ∧ (∀ r ∈ ts, 1 ≤ r) ∧ v.named (nmOf fs ts) = true ∧ (renV v fs ts).1 = v.ren (nmOf fs ts) := by
  unfold renV at h ⊢
  split at h
  · rename_i hc
    simp only [Bool.and_eq_true, decide_eq_true_eq] at hc
    split at h
    · rename_i hn
      rw [if_pos (by simp only [Bool.and_eq_true, decide_eq_true_eq]; exact hc), if_pos hn]
      exact ⟨hc.1, hc.2.1, all_ge hc.2.2.1, all_ge hc.2.2.2, hn, rfl⟩
    · cases h
  · cases h

theorem renV_yes {v : V} {fs ts : List Int} (h1 : v.may = true) (h2 : fs.length = ts.length) (h3 : ∀ r ∈ fs, 1 ≤ r) (h4 : ∀ r ∈ ts, 1 ≤ r) (h5 : v.named (nmOf fs ts) = true) : renV v fs ts = (v.ren (nmOf fs ts), 0) := by
  unfold renV
  rw [if_pos, if_pos h5]
  simp only [Bool.and_eq_true, decide_eq_true_eq, List.all_eq_true]
  exact ⟨h1, h2, h3, h4⟩

theorem renV_err (v : V) (fs ts : List Int) : (renV v fs ts).2 = 0 ∨ (renV v fs ts).2 = 2 ∨ (renV v fs ts).2 = 21 := by
  unfold renV
  split
  · split <;> simp
  · simp

theorem nm_pos {v : V} {fs ts : List Int} (h4 : ∀ r ∈ ts, 1 ≤ r) (h5 : v.named (nmOf fs ts) = true) : ∀ r ∈ v.rf, 1 ≤ (nmOf fs ts r).getD 0 := fun r hr => by
  have h := (named_iff _ v).1 h5 r hr
  cases hq : nmOf fs ts r with
  | none => rw [hq] at h; cases h
  | some t => exact h4 t (nm_mem fs ts r t hq)

/-- Renamed back, where no name is met twice. -/
theorem ren_back {v : V} {fs ts : List Int} (h : (renV v fs ts).2 = 0) (hn : ts.Nodup) : renV (v.ren (nmOf fs ts)) ts fs = (v, 0) := by
  obtain ⟨h1, h2, h3, h4, h5, -⟩ := renV_ok h
  have hp := nm_pos h4 h5
  have hall := (named_iff _ v).1 h5
  have hb : ∀ r ∈ v.rf, nmOf ts fs ((nmOf fs ts r).getD 0) = some r := fun r hr => by
    cases hq : nmOf fs ts r with
    | none => have := hall r hr; rw [hq] at this; cases this
    | some t => exact nm_back fs ts r t hn hq
  rw [renV_yes (ren_may h1 hp) h2.symm h4 h3]
  · rw [ren_ren, ren_id]
    intro r hr
    rw [hb r hr]; rfl
  · rw [named_iff, ren_rf]
    intro x hx
    obtain ⟨r, hr, rfl⟩ := List.mem_map.1 hx
    rw [hb r hr]; rfl

/-- Renamed twice is renamed once. -/
theorem ren_twice {v : V} {fs ts ns : List Int} (h : (renV v fs ts).2 = 0) (h' : (renV (v.ren (nmOf fs ts)) ts ns).2 = 0) :
    renV v fs (ts.map fun t => (nmOf ts ns t).getD 0) = ((renV (v.ren (nmOf fs ts)) ts ns).1, 0) := by
  obtain ⟨h1, h2, h3, h4, h5, -⟩ := renV_ok h
  obtain ⟨g1, g2, g3, g4, g5, g6⟩ := renV_ok h'
  have hall := (named_iff _ v).1 h5
  have hb : ∀ r ∈ v.rf, nmOf fs (ts.map fun t => (nmOf ts ns t).getD 0) r = some ((nmOf ts ns ((nmOf fs ts r).getD 0)).getD 0) := fun r hr => by
    cases hq : nmOf fs ts r with
    | none => have := hall r hr; rw [hq] at this; cases this
    | some t => exact nm_map fs ts _ r t hq
  rw [renV_yes h1 (by simpa using h2) h3]
  · rw [g6, ren_ren, ren_congr (g := fun r => nmOf ts ns ((nmOf fs ts r).getD 0)) v fun r hr => by rw [hb r hr]; rfl]
  · intro x hx
    obtain ⟨t, ht, rfl⟩ := List.mem_map.1 hx
    cases hq : nmOf ts ns t with
    | none => have := nm_isSome ts ns t (by omega) ht; rw [hq] at this; cases this
    | some z => exact g4 z (nm_mem ts ns t z hq)
  · rw [named_iff]
    intro r hr
    rw [hb r hr]; rfl

end Go.Proofs.Ytihjmipmjogpoaa

/- Chapter 2: the law's own image: the references that some are turned into. -/
namespace Go.Proofs.Ytihjmipmjogpoaa
open Go.RowKit

theorem nm_next {fs ts : List Int} {k : Nat} {r x : Int} (h : fs[k]? = some x) (hne : x ≠ r) : nmOf (fs.drop k) (ts.drop k) r = nmOf (fs.drop (k + 1)) (ts.drop (k + 1)) r := by
  obtain ⟨hk, hx⟩ := List.getElem?_eq_some_iff.1 h
  rw [List.drop_eq_getElem_cons hk, hx]
  rcases Nat.lt_or_ge k ts.length with h2 | h2
  · rw [List.drop_eq_getElem_cons h2]
    simp only [nmOf]
    rw [if_neg hne]
  · rw [List.drop_of_length_le h2, List.drop_of_length_le (l := ts) (by omega)]
    simp only [nmOf]
    cases fs.drop (k + 1) <;> rfl

theorem nm_here {fs ts : List Int} {k : Nat} {r : Int} (h : fs[k]? = some r) (hs : (nmOf (fs.drop k) (ts.drop k) r).isSome = true) : ∃ t, ts[k]? = some t ∧ nmOf (fs.drop k) (ts.drop k) r = some t := by
  obtain ⟨hk, hx⟩ := List.getElem?_eq_some_iff.1 h
  rw [List.drop_eq_getElem_cons hk, hx] at hs ⊢
  rcases Nat.lt_or_ge k ts.length with h2 | h2
  · rw [List.drop_eq_getElem_cons h2] at hs ⊢
    refine ⟨ts[k], List.getElem?_eq_getElem h2, ?_⟩
    simp [nmOf]
  · rw [List.drop_of_length_le h2] at hs
    simp [nmOf] at hs

def ImageP (L : List Int) (w : World) (e : Ending) (w' : World) : Prop := ∃ v, e = .returned (.tuple #[v, .bool true]) ∧ w'.ownsRow w.heap.size 25 1 v L.length (refCells L) ∧ Fr No w w'

set_option maxRecDepth 100000 in
set_option maxHeartbeats 8000000 in
theorem image_any (Al Af At : Option Addr) (cl cf ct : Nat) (l fs ts : List Int) (w : World) (ll hl lf hf lt ht : Nat) (pl : Ints w ll hl Al cl l) (hhl : hl ≤ w.heap.size) (pf : Ints w lf hf Af cf fs) (hhf : hf ≤ w.heap.size) (pt : Ints w lt ht At ct ts) (hht : ht ≤ w.heap.size)
    (hall : ∀ r ∈ l, (nmOf fs ts r).isSome = true) : Calls Try.prog 74 #[.slice Al l.length cl, .slice Af fs.length cf, .slice At ts.length ct] w (ImageP (l.map fun r => (nmOf fs ts r).getD 0) w) := by
  have hll := pl.len
  have hlf := pf.len
  have hlt := pt.len
  obtain ⟨i0, hi0, hz0, hz1, hz2⟩ := info_parts ref_info
  have HALL := hide hall
  clear hall
  go_enter Try.func74, Try.ntmps74
  go_wp2_with fail
  go_loopw [8, 9, 10] (fun v i _ wr => ∃ (j : Nat) (A3 : Option Addr) (c3 : Nat), j ≤ l.length ∧ i = .int .i64 j ∧ v = .slice A3 j c3 ∧ wr.ownsRow w.heap.size 25 1 v j (refCells ((l.take j).map fun r => (nmOf fs ts r).getD 0)) ∧ Fr No w wr) (fun _ i _ _ => l.length - (intOf i).toNat)
  case atStart => exact ⟨0, none, 0, Nat.zero_le _, rfl, rfl, World.ownsRow_nil _ _ _ _, Fr.refl _ _⟩
  case round =>
    obtain ⟨j, A3, c3, hj, rfl, rfl, own, fr⟩ := hrel
    have hsz := fr.size
    by_cases hjl : j < l.length
    · obtain ⟨wo, rfl⟩ : ∃ wo : World, wo = wr := ⟨_, rfl⟩
      have htk : l.take (j + 1) = l.take j ++ [l[j]] := List.take_succ_eq_append_getElem hjl
      have hs := HALL.out _ (List.getElem_mem hjl)
      obtain ⟨bl, ol, rfl, hbl0, hbl1, hcl⟩ := (pl.no fr hhl).elem hjl
      have hrl := pl.rng _ (List.getElem_mem hjl)
      generalize l[j] = r at *
      have HTK := hide htk
      have HS := hide hs
      have HO := hide own
      have HF := hide fr
      clear htk hs own fr
      go_wp2_with fail
      go_loopw [10] (fun i wr => ∃ k : Nat, k ≤ fs.length ∧ i = .int .i64 k ∧ Fr No wo wr ∧ nmOf fs ts r = nmOf (fs.drop k) (ts.drop k) r) (fun i _ => fs.length - (intOf i).toNat)
      case atStart => exact ⟨0, Nat.zero_le _, rfl, Fr.refl _ _, rfl⟩
      case round =>
        obtain ⟨k, hk, rfl, frk, hnm⟩ := hrel
        have hkl : k < fs.length := by
          rcases Nat.lt_or_ge k fs.length with h | h
          · exact h
          · have := HS.out
            rw [hnm, List.drop_of_length_le h] at this
            simp [nmOf] at this
        have frw := HF.out.trans frk
        have hsk := frk.size
        obtain ⟨bf, of, rfl, hbf0, hbf1, hcf⟩ := (pf.no frw hhf).elem hkl
        have hcl' := (frk.cell (b := bl) (o := ol + j) (s := none) (by omega) (fun h => h)).trans hcl
        have g0 : bf < wr.heap.size := by omega
        have g1 : bl < wr.heap.size := by omega
        have hget : fs[k]? = some fs[k] := List.getElem?_eq_getElem hkl
        generalize fs[k] = x at *
        have HN := hide hnm
        have HK := hide frk
        have HW := hide frw
        have HG := hide hget
        clear hnm frk frw hget
        by_cases hxr : x = r
        · subst hxr
          have hs2 := HS.out
          rw [HN.out] at hs2
          obtain ⟨t, ht1, ht2⟩ := nm_here HG.out hs2
          obtain ⟨hkt, htt⟩ := List.getElem?_eq_some_iff.1 ht1
          obtain ⟨bt, ot, rfl, hbt0, hbt1, hct⟩ := (pt.no HW.out hht).elem hkt
          have hrt := pt.rng _ (List.getElem_mem hkt)
          rw [htt] at hct hrt
          have g2 : bt < wr.heap.size := by omega
          have hval : (nmOf fs ts x).getD 0 = t := by rw [HN.out, ht2]; rfl
          have HV := hide hval
          have h1 : ((k : Int) == (fs.length : Int)) = false := by simp; omega
          have h2 : ¬ ts.length ≤ k := by omega
          have h3 : decide (ts.length ≤ k) = false := by simpa using h2
          have own2 := owns_fr HO.out HK.out fun _ _ h => h
          clear hval ht1 ht2 htt hs2
          go_wp2_with fail
          go_quiet (fail)
          have hownA := fun n => World.ownsRow.alloc (w := wr.drewN n) own2 (.cells #[.int .i64 t] 25)
          go_wp2_with (at_builtin; refine wpList_append_lies _ (by rfl) _ _ _ (by rfl) w.heap.size 25 i0 _ 1 8 Try.underlying100 hi0 hz0 hz1 hz2 (by rfl) (by omega) (.slice A3 j c3) j (refCells ((l.take j).map fun r => (nmOf fs ts r).getD 0)) (by rfl) (hownA _) ⟨wr.heap.size, 0, none⟩ 1 1 [.int .i64 t] (by rfl) (by rfl) (World.news_of_block (Blk.new' (wr.drewN _) 25 _ rfl)) (by simp [Value.oneCell']) (by omega) (by unfold maxLen; omega) (by omega) (by simp; omega) (wr.heap.size + 1) (by simp) ?_; intro g cp w3 hown3 hgrow hat hlt3; have HO3 := hide hown3; have HG3 := hide hgrow; clear hown3 hgrow hat)
          go_roundw
          case rel =>
            refine ⟨j + 1, some ⟨g, 0, none⟩, cp, hjl, by go_num, rfl, ?_, ?_⟩
            · have h := HO3.out
              rw [HTK.out, List.map_append, refCells, List.map_append, List.map_singleton, List.map_singleton, HV.out]
              exact h
            · have hol := owns_lt own2
              exact ((HW.out.drewN _).alloc (.cells #[.int .i64 t] 25)).trans' (fr_grown HG3.out) fun i hi h => by
                have h' : some i = (Value.slice A3 j c3).ownBlock := h
                have := hol i h'.symm
                omega
          case measure => simp [intOf]; omega
        · have hne : (x != r) = true := by simpa using hxr
          go_wp2_with fail
          go_quiet (fail)
          go_wp2
          go_roundw
          case rel => exact ⟨k + 1, hkl, by go_num, HK.out.drewN _, by rw [HN.out]; exact nm_next HG.out hxr⟩
          case measure => simp [intOf]; omega
    · obtain rfl : l.length = j := by omega
      have hP : ImageP (l.map fun r => (nmOf fs ts r).getD 0) w (.returned (.tuple #[.slice A3 l.length c3, .bool true])) wr := by
        rw [List.take_of_length_le (Nat.le_refl _)] at own
        exact ⟨_, rfl, by rw [List.length_map]; exact own, fr⟩
      have HP := hide hP
      clear hP own fr pl pf pt
      go_wp2
      go_ret2
      exact HP.out

end Go.Proofs.Ytihjmipmjogpoaa

/- Chapter 2: the document's answer: renamed. -/
namespace Go.Proofs.Ytihjmipmjogpoaa
open Go.RowKit

/-- What the document's renamed gives. -/
def RnmP (f : Int → Option Int) (v : V) (w : World) (e : Ending) (w' : World) : Prop :=
  ∃ t' : T, e = .returned (.tuple #[t'.val, .bool (v.named f)]) ∧ t'.v = (if v.named f = true then v.ren f else V.zero) ∧ t'.In w' w.heap.size w'.heap.size ∧ Fr No w w'

theorem fr_predrew {S : Nat → Prop} {w w' : World} (h : Fr S w w') : Fr S w.drew w' := by
  cases h
  constructor <;> assumption

theorem fok_leaf {k n : Int} {s : ByteArray} {len : Nat} {r : Int} (h : fok k n s len r = true) (h4 : k = 4) : len = 0 := by
  subst h4
  simp [fok] at h
  exact h.2

set_option maxRecDepth 100000 in
set_option maxHeartbeats 8000000 in
theorem renamed_any (Af At : Option Addr) (cf ct : Nat) (fs ts : List Int) (hln : fs.length = ts.length) (t : T) : ∀ (w : World) (lo hi : Nat), t.In w lo hi → hi ≤ w.heap.size → t.v.ok = true → ∀ (lf hf lt ht' : Nat), Ints w lf hf Af cf fs → hf ≤ w.heap.size → Ints w lt ht' At ct ts → ht' ≤ w.heap.size →
    Calls Try.prog 130 #[t.val, .slice Af fs.length cf, .slice At ts.length ct] w (RnmP (nmOf fs ts) t.v w) := by
  have HLN := hide hln
  induction t using T.ind with
  | h k n s A cap l r ih =>
    intro w lo hi ht hh hok lf hf lt ht' pf hhf pt hht
    rw [T.val_mk]
    have fit := (T.in_mk.1 ht).1
    have hlen := fit.len1
    have hlf := pf.len
    have hlt := pt.len
    rw [T.v_mk, V.ok_mk, Bool.and_eq_true, List.all_eq_true, List.length_map] at hok
    obtain ⟨i0, hi0, hz0, hz1, hz2⟩ := info_parts value_info
    by_cases h4 : k = 4
    · subst h4
      obtain rfl : l = [] := List.eq_nil_of_length_eq_zero (fok_leaf hok.1 rfl)
      have hr := fit
      have e1 : (T.mk 4 n s A cap [] r).v.named (nmOf fs ts) = (nmOf fs ts r).isSome := by rw [T.v_mk, V.named_mk, if_pos rfl]
      have e2 : (T.mk 4 n s A cap [] r).v.ren (nmOf fs ts) = .mk 4 n s [] ((nmOf fs ts r).getD 0) := by rw [T.v_mk, V.ren_mk, if_pos rfl]; rfl
      have E1 := hide e1
      have E2 := hide e2
      have b0 : Blk (((w.alloc (.cells #[.int .u8 4, .int .i64 n, .string s, .slice A 0 cap, .int .i64 r] 27)).alloc (.cells #[.int .u8 0, .int .i64 0, .string ⟨#[]⟩, .slice none 0 0, .int .i64 0] 27)).alloc (.cells #[.int .u8 4, .int .i64 n, .string s, .slice A 0 cap, .int .i64 r] 27)) w.heap.size 27 #[.int .u8 4, .int .i64 n, .string s, .slice A 0 cap, .int .i64 r] := ((Blk.new' w 27 _ rfl).alloc _).alloc _
      have b1 : Blk (((w.alloc (.cells #[.int .u8 4, .int .i64 n, .string s, .slice A 0 cap, .int .i64 r] 27)).alloc (.cells #[.int .u8 0, .int .i64 0, .string ⟨#[]⟩, .slice none 0 0, .int .i64 0] 27)).alloc (.cells #[.int .u8 4, .int .i64 n, .string s, .slice A 0 cap, .int .i64 r] 27)) (w.heap.size + 1) 27 #[.int .u8 0, .int .i64 0, .string ⟨#[]⟩, .slice none 0 0, .int .i64 0] := (Blk.new' (w.alloc _) 27 _ (by simp)).alloc _
      have b2 : Blk (((w.alloc (.cells #[.int .u8 4, .int .i64 n, .string s, .slice A 0 cap, .int .i64 r] 27)).alloc (.cells #[.int .u8 0, .int .i64 0, .string ⟨#[]⟩, .slice none 0 0, .int .i64 0] 27)).alloc (.cells #[.int .u8 4, .int .i64 n, .string s, .slice A 0 cap, .int .i64 r] 27)) (w.heap.size + 1 + 1) 27 #[.int .u8 4, .int .i64 n, .string s, .slice A 0 cap, .int .i64 r] := Blk.new' ((w.alloc _).alloc _) 27 _ (by simp)
      have f0 := (((Fr.refl No w).alloc (.cells #[.int .u8 4, .int .i64 n, .string s, .slice A 0 cap, .int .i64 r] 27)).alloc (.cells #[.int .u8 0, .int .i64 0, .string ⟨#[]⟩, .slice none 0 0, .int .i64 0] 27)).alloc (.cells #[.int .u8 4, .int .i64 n, .string s, .slice A 0 cap, .int .i64 r] 27)
      have HB0 := hide b0
      have HB1 := hide b1
      have HB2 := hide b2
      have HF0 := hide f0
      clear b0 b1 b2 f0 e1 e2 ih hok ht
      go_enter Try.func130, Try.ntmps130
      go_wp2_with fail
      generalize World.alloc (World.alloc (World.alloc w _) _) _ = w1 at *
      go_loopw [9] (fun i wr => ∃ j : Nat, j ≤ fs.length ∧ i = .int .i64 j ∧ Fr No w1 wr ∧ nmOf fs ts r = nmOf (fs.drop j) (ts.drop j) r) (fun i _ => fs.length - (intOf i).toNat)
      case atStart => exact ⟨0, Nat.zero_le _, rfl, Fr.refl _ _, rfl⟩
      case round =>
        obtain ⟨j, hj, rfl, fr, hnm⟩ := hrel
        have B0 := HB0.out.fr fr fun h => h
        have B1 := HB1.out.fr fr fun h => h
        have B2 := HB2.out.fr fr fun h => h
        have hsr := (HF0.out.trans fr).size
        obtain ⟨c0, c1, c2, c3, c4, cf'⟩ := B0.cells5
        obtain ⟨d0, d1, d2, d3, d4, df⟩ := B1.cells5
        obtain ⟨x0, x1, x2, x3, x4, xf⟩ := B2.cells5
        have q0 := B0.lt
        have q1 := B1.lt
        have q2 := B2.lt
        by_cases hjl : j < fs.length
        · have hjt : j < ts.length := by have := HLN.out; omega
          obtain ⟨bf, of, rfl, hbf0, hbf1, hcf⟩ := (pf.no (HF0.out.trans fr) hhf).elem hjl
          obtain ⟨bt, ot, rfl, hbt0, hbt1, hct⟩ := (pt.no (HF0.out.trans fr) hht).elem hjt
          have hrt := pt.rng _ (List.getElem_mem hjt)
          have hfx : fs[j]? = some fs[j] := List.getElem?_eq_getElem hjl
          have htx : ts[j]? = some ts[j] := List.getElem?_eq_getElem hjt
          have g0 : bf < wr.heap.size := by omega
          have g1 : bt < wr.heap.size := by omega
          generalize fs[j] = x at *
          generalize ts[j] = y at *
          have HFX := hide hfx
          have HTX := hide htx
          have HNM := hide hnm
          have HF := hide fr
          clear hfx htx hnm fr
          by_cases hxr : x = r
          · subst hxr
            have heq : (x == x) = true := by simp
            have hnm2 : nmOf fs ts x = some y := by
              obtain ⟨hk, hx⟩ := List.getElem?_eq_some_iff.1 HFX.out
              obtain ⟨hk2, hx2⟩ := List.getElem?_eq_some_iff.1 HTX.out
              rw [HNM.out, List.drop_eq_getElem_cons hk, List.drop_eq_getElem_cons hk2, hx, hx2]
              simp [nmOf]
            have HNM2 := hide hnm2
            clear hnm2
            go_wp2_with fail
            go_quiet (fail)
            go_wp2
            refine bodyPost_ret (v := .tuple #[.agg #[.int .u8 4, .int .i64 n, .string s, .slice A 0 cap, .int .i64 y], .bool true]) (by simp [results, Try.results130, go_sem, *]) rfl ?_
            generalize hW : World.setCell _ _ _ = W
            have hfr : Fr (fun i => i = w.heap.size + 1 ∨ i = w.heap.size + 1 + 1) wr W := by
              rw [← hW]
              repeat (first | with_reducible exact Fr.refl _ wr | with_reducible refine Fr.set ?_ (by simp) _ | with_reducible refine Fr.drew ?_ | with_reducible refine Fr.drewN ?_ _)
            unfold RnmP
            rw [E1.out, E2.out, HNM2.out]
            refine ⟨T.mk 4 n s A cap [] y, rfl, by rw [if_pos (by rfl), T.v_mk]; rfl, T.in_mk.2 ⟨⟨fit.k0, fit.k1, fit.n0, fit.n1, fit.s1, fit.len1, fit.cap1, hrt.1, hrt.2⟩, fun h => absurd rfl h, by simp⟩, (HF0.out.trans HF.out).trans' hfr fun i hi h => by omega⟩
          · have heq : (x == r) = false := by simpa using hxr
            have hnm2 := nm_next (ts := ts) HFX.out hxr
            have HNM2 := hide hnm2
            clear hnm2
            go_wp2_with fail
            go_quiet (fail)
            go_wp2
            go_roundw
            case rel => exact ⟨j + 1, hjl, by go_num, HF.out.drewN _, HNM.out.trans HNM2.out⟩
            case measure => simp [intOf]; omega
        · obtain rfl : fs.length = j := by omega
          have hn0 : nmOf fs ts r = none := by
            rw [hnm, List.drop_of_length_le (Nat.le_refl _)]
            simp [nmOf]
          have HN0 := hide hn0
          have HF := hide fr
          clear hn0 hnm fr
          go_wp2
          refine bodyPost_ret (v := .tuple #[.agg #[.int .u8 0, .int .i64 0, .string ⟨#[]⟩, .slice none 0 0, .int .i64 0], .bool false]) (by simp [results, Try.results130, go_sem, *]) rfl ?_
          unfold RnmP
          rw [E1.out, E2.out, HN0.out]
          refine ⟨T.zero, rfl, T.zero_v, (T.zero_sh _ _ _).inn, ?_⟩
          generalize hW : World.setCell _ _ _ = W
          have hfr : Fr (fun i => i = w.heap.size + 1 ∨ i = w.heap.size + 1 + 1) wr W := by
            rw [← hW]
            repeat (first | with_reducible exact Fr.refl _ wr | with_reducible refine Fr.set ?_ (by simp) _ | with_reducible refine Fr.drew ?_ | with_reducible refine Fr.drewN ?_ _)
          exact (HF0.out.trans HF.out).trans' hfr fun i hi h => by omega
    · have hk4 : (k == 4) = false := by simpa using h4
      have HOK := hide hok.2
      have H4 := hide h4
      have PF := hide pf
      have PT := hide pt
      clear hok h4 pf pt hln
      go_enter Try.func130, Try.ntmps130
      go_wp2_with fail
      go_loopw [10, 11, 12] (fun i _ _ wr => ∃ (j : Nat) (A2 : Option Addr) (cap2 : Nat) (l' : List T), j ≤ l.length ∧ i = .int .i64 j ∧
          ROInv w #[.int .u8 k, .int .i64 n, .string s, .slice A l.length cap, .int .i64 r] k n s r (l.map (T.ren (nmOf fs ts))) j A2 cap2 l' wr ∧ ∀ x ∈ l.take j, x.v.named (nmOf fs ts) = true)
        (fun i _ _ _ => l.length - (intOf i).toNat)
      case atStart =>
        exact ⟨0, none, 0, [], Nat.zero_le _, rfl, ⟨rfl, by simp, (((Fr.refl No w).alloc _).alloc _).alloc _, ((Blk.new' w 27 _ rfl).alloc _).alloc _, (Blk.new' (w.alloc _) 27 _ (by simp)).alloc _,
          Blk.new' ((w.alloc _).alloc _) 27 _ (by simp), World.ownsRow_nil _ _ _ _, by simp, by simp, by simp⟩, by simp⟩
      case round =>
        obtain ⟨j, A2, cap2, l', hj, rfl, inv, hnm⟩ := hrel
        have fr := inv.fr
        have big := inv.big
        have own := inv.own
        have hsep0 : (Value.slice A2 j cap2).ownBlock ≠ some (w.heap.size + 1 + 1) := fun h => by have := own.lt _ h; omega
        obtain ⟨d0, d1, d2, d3, d4, df⟩ := inv.b0.cells5
        have HNM := hide hnm
        clear hnm
        by_cases hlt : j < l.length
        · obtain ⟨b, o, k1, n1, s1, A1, cap1, l1, r1, rfl, hb0, hb1, hx, hin, e0, e1, e2, e3, e4⟩ := T.elem (ht.no fr hh) hlt
          have IH := ih l[j] (List.getElem_mem hlt) wr lo hi (by rw [hx]; exact hin) (by omega) (HOK.out _ (List.mem_map_of_mem (List.getElem_mem hlt))) lf hf lt ht' (PF.out.no fr hhf) (by omega) (PT.out.no fr hht) (by omega)
          rw [hx] at IH
          have HX := hide hx
          rw [T.val_mk] at IH
          have HIH := hide IH
          have HI := hide inv
          have g0 : b < wr.heap.size := by omega
          have g1 : w.heap.size < wr.heap.size := by omega
          have g2 : w.heap.size + 1 + 1 < wr.heap.size := by omega
          have hv0' : some (w.heap.size + 1 + 1) ≠ (Value.slice A2 j cap2).ownBlock := Ne.symm hsep0
          have HHH := hide hh
          clear hx ih inv ht IH fr own hin hh
          go_wp2_with fail
          refine HIH.out.mono ?_
          rintro e w2 ⟨⟨k5, n5, s5, A5, cap5, l5, r5⟩, rfl, hv5, hin5, fr1⟩
          rw [T.val_mk]
          have hs2 := fr1.size
          have B1 := HI.out.b1.fr fr1 fun h => h
          have B2 := HI.out.b2.fr fr1 fun h => h
          obtain ⟨y0, y1, y2, y3, y4, yf⟩ := B1.cells5
          obtain ⟨z0, z1, z2, z3, z4, zf⟩ := B2.cells5
          have q1 := B1.lt
          have q2 := B2.lt
          have ownD := ((owns_fr HI.out.own fr1 fun _ _ h => h).alloc (.cells #[.int .u8 k5, .int .i64 n5, .string s5, .slice A5 l5.length cap5, .int .i64 r5] 27)).alloc (.cells #[.int .u8 k5, .int .i64 n5, .string s5, .slice A5 l5.length cap5, .int .i64 r5] 27)
          have BD := (B2.alloc (.cells #[.int .u8 k5, .int .i64 n5, .string s5, .slice A5 l5.length cap5, .int .i64 r5] 27)).alloc (.cells #[.int .u8 k5, .int .i64 n5, .string s5, .slice A5 l5.length cap5, .int .i64 r5] 27)
          have c4D := BD.cell 3
          have f4D := BD.frozen 3
          simp only [List.getElem?_toArray, List.getElem?_cons_zero, List.getElem?_cons_succ] at c4D
          have HF1 := hide fr1
          have HV5 := hide hv5
          have HIN5 := hide hin5
          have HC4 := hide c4D
          have HF4 := hide f4D
          clear B1 B2 BD fr1 hv5 hin5 c4D f4D HIH e0 e1 e2 e3 e4
          cases hnj : (T.mk k1 n1 s1 A1 cap1 l1 r1).v.named (nmOf fs ts) with
          | false =>
            have HNJ := hide hnj
            clear hnj
            go_wp2_with fail
            refine bodyPost_ret (v := .tuple #[.agg #[.int .u8 0, .int .i64 0, .string ⟨#[]⟩, .slice none 0 0, .int .i64 0], .bool false]) (by simp [results, Try.results130, go_sem, *]) rfl ?_
            have hno : (T.mk k n s (some ⟨b, o, none⟩) cap l r).v.named (nmOf fs ts) = false := by
              rw [T.v_mk, V.named_mk, if_neg H4.out, List.all_eq_false]
              refine ⟨l[j].v, List.mem_map_of_mem (List.getElem_mem hlt), ?_⟩
              rw [HX.out, HNJ.out]
              decide
            unfold RnmP
            rw [hno]
            have hF2 := HI.out.fr.trans HF1.out
            refine ⟨T.zero, rfl, T.zero_v, (T.zero_sh _ _ _).inn, ?_⟩
            repeat (first | with_reducible exact hF2 | with_reducible refine Fr.setNew ?_ (by first | (simp; done) | (simp; omega)) _ | with_reducible refine Fr.alloc ?_ _)
          | true =>
            have HNJ := hide hnj
            clear hnj
            go_wp2_with (at_builtin; refine wpList_append_lies _ (by rfl) _ _ _ (by rfl) (w.heap.size + 3) 27 i0 _ 5 64 Try.underlying24 hi0 hz0 hz1 hz2 (by rfl) (by omega) (.slice A2 j cap2) j (rowCells l') (by rfl) ownD ⟨w2.heap.size + 1, 0, none⟩ 1 1 [.int .u8 k5, .int .i64 n5, .string s5, .slice A5 l5.length cap5, .int .i64 r5] (by rfl) (by rfl) (World.news_of_block (Blk.new' (w2.alloc _) 27 #[.int .u8 k5, .int .i64 n5, .string s5, .slice A5 l5.length cap5, .int .i64 r5] (by simp))) (by simp [Value.oneCell']) (by omega) (by unfold maxLen; omega) (by omega) (by simp; omega) (w2.heap.size + 1 + 1) (by simp) ?_; intro g cp w3 hown3 hgrow hat hlt3; obtain ⟨c5, f5⟩ := lent_grown hgrow HC4.out HF4.out (by simp; omega) hv0')
            go_roundw
            case rel =>
              refine ⟨j + 1, _, _, _, hlt, by go_num, ro_push (t' := T.mk k5 n5 s5 A5 cap5 l5 r5) HI.out (by simpa using hlt) (by rw [List.getElem_map, T.ren_v, HX.out, HV5.out, if_pos HNJ.out]) (T.In.more (Nat.le_refl _) (by simp) _ (HIN5.out.no ((Fr.refl No w2).alloc _) (Nat.le_refl _))) (fr_predrew (HF1.out.alloc _)) hown3 hgrow (by simpa using hat), fun x hx => ?_⟩
              rw [List.take_succ_eq_append_getElem hlt] at hx
              rcases List.mem_append.1 hx with hx | hx
              · exact HNM.out x hx
              · simp at hx
                rw [hx, HX.out]
                exact HNJ.out
            case measure => simp [intOf]; omega
        · obtain rfl : l.length = j := by omega
          obtain ⟨y0, y1, y2, y3, y4, yf⟩ := inv.b1.cells5
          obtain ⟨z0, z1, z2, z3, z4, zf⟩ := inv.b2.cells5
          have q1 := inv.b1.lt
          have q2 := inv.b2.lt
          have hil := inv.len
          have HI := hide inv
          have hb : ∀ x ∈ l', ∀ b ∈ x.blocks, w.heap.size + 3 ≤ b ∧ b < wr.heap.size := fun x hx b hb => T.In.blocks x (inv.inn x hx) b hb
          have HBL := hide hb
          clear ih inv ht fr own hh hb
          go_wp2_with fail
          refine bodyPost_ret (v := .tuple #[.agg #[.int .u8 k, .int .i64 n, .string s, .slice A2 l.length cap2, .int .i64 r], .bool true]) (by simp [results, Try.results130, go_sem, *]) rfl ?_
          generalize hW : World.setCell _ _ _ = W
          have hfr : Fr (fun i => i = w.heap.size + 1) wr W := by
            rw [← hW]
            repeat (first | with_reducible exact Fr.refl _ wr | with_reducible refine Fr.set ?_ (by simp) _)
          have inv := HI.out
          have hol := inv.own.lt
          have own2 := owns_fr inv.own hfr (fun g hg h => by have := hol g hg; have h' : g = w.heap.size + 1 := h; omega)
          have hle := owns_le own2
          have hinn : ∀ x ∈ l', x.In W w.heap.size W.heap.size := fun x hx => T.In.more (by omega) hfr.size x (In.fr_blocks hfr (Nat.le_refl _) x (fun b hb h => by have := HBL.out x hx b hb; have h' : b = w.heap.size + 1 := h; omega) (inv.inn x hx))
          have hyes : (T.mk k n s A cap l r).v.named (nmOf fs ts) = true := by
            rw [T.v_mk, V.named_mk, if_neg H4.out, List.all_eq_true]
            intro y hy
            obtain ⟨x, hx, rfl⟩ := List.mem_map.1 hy
            exact HNM.out x (by rw [List.take_of_length_le (Nat.le_refl _)]; exact hx)
          unfold RnmP
          rw [hyes, if_pos rfl]
          refine ⟨T.mk k n s A2 cap2 l' r, by rw [T.val_mk, hil], ?_, T.in_mk.2 ⟨⟨fit.k0, fit.k1, fit.n0, fit.n1, fit.s1, by rw [hil]; exact hlen, by rw [hil]; exact hle, fit.r0, fit.r1⟩, fun hne => ?_, hinn⟩, inv.fr.trans' hfr (fun i hi h => by have h' : i = w.heap.size + 1 := h; omega)⟩
          · rw [T.v_mk, T.v_mk, V.ren_mk, if_neg H4.out, inv.vs, List.take_of_length_le (by simp), List.map_map, List.map_map]
            exact congrArg (fun z => V.mk k n s z r) (List.map_congr_left fun x _ => T.ren_v _ x)
          · have hpos : 0 < l.length := by
              cases l' with
              | nil => exact absurd rfl hne
              | cons x l' => simp at hil; omega
            obtain ⟨g, c, hA, hg0, hg1⟩ := own2.form hpos
            simp only [Value.slice.injEq, true_and] at hA
            obtain ⟨rfl, rfl⟩ := hA
            refine ⟨g, 0, rfl, by omega, hg1, fun i x hx c u hu => ?_⟩
            have := World.ownsRow.cells own2 (g := g) rfl _ _ (rowCells_get l' i c x u hx hu)
            rw [add_at, ← Nat.add_assoc] at this
            exact this

end Go.Proofs.Ytihjmipmjogpoaa

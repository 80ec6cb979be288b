/- Texts joined: P14, Q2, P19, J12. -/
import Derived.Test.YtihjmipmjogpoaaJn15
import Derived.Maps.OwnSet
/- Chapter 2: value.Rename. -/
namespace Go.Proofs.Ytihjmipmjogpoaa
open Go.RowKit Go.Maps Go.ChangeMaps

theorem low_any (r : Int) (w : World) : Calls Try.prog 128 #[.int .i64 r] w fun e w' => e = .returned (.bool (decide (r < 1))) ∧ w' = w := by
  go_enter Try.func128, Try.ntmps128
  go_wp2
  go_ret
  exact ⟨rfl, rfl⟩

set_option maxRecDepth 100000 in
set_option maxHeartbeats 2000000 in
theorem indexLow_any (A : Option Addr) (cap : Nat) (L : List Int) (w : World) (lo hi : Nat) (h : Ints w lo hi A cap L) (hh : hi ≤ w.heap.size) :
    Calls Try.prog 138 #[.slice A L.length cap, .func (.func 128) #[] #[]] w fun e w' => (∃ z : Int, e = .returned (.int .i64 z) ∧ ((0 ≤ z ∧ L.all (fun r => decide (1 ≤ r)) = false) ∨ (z = -1 ∧ L.all (fun r => decide (1 ≤ r)) = true))) ∧ Fr No w w' := by
  have hB := low_any
  have hlen := h.len
  go_enter Try.func138, Try.ntmps138
  go_wp2_with fail
  go_loopw [8] (fun i wr => ∃ j : Nat, j ≤ L.length ∧ i = .int .i64 j ∧ Fr No w wr ∧ ∀ r ∈ L.take j, 1 ≤ r) (fun i _ => L.length - (intOf i).toNat)
  case atStart => exact ⟨0, Nat.zero_le _, rfl, Fr.refl _ _, by simp⟩
  case round =>
    obtain ⟨j, hj, rfl, fr, hall⟩ := hrel
    have HA := hide hall
    have hsz := fr.size
    clear hall
    by_cases hlt : j < L.length
    · obtain ⟨b, o, rfl, hb0, hb1, hcj⟩ := (h.no fr hh).elem hlt
      have g0 : b < wr.heap.size := by omega
      have hmem := List.getElem_mem hlt
      have htk : L.take (j + 1) = L.take j ++ [L[j]] := List.take_succ_eq_append_getElem hlt
      generalize L[j] = x at *
      have HM := hide hmem
      have HT := hide htk
      have HF := hide fr
      clear hmem htk fr h
      by_cases hx : x < 1
      · have hd : decide (x < (1 : Int)) = true := by simpa using hx
        have hB1 := hB x wr
        rw [hd] at hB1
        have hno : L.all (fun r => decide (1 ≤ r)) = false := by
          rw [Bool.eq_false_iff]
          intro h
          have := List.all_eq_true.1 h x HM.out
          simp at this
          omega
        have HN := hide hno
        clear hd hB hno
        go_wp2_with fail
        refine hB1.mono ?_
        rintro e w' ⟨rfl, rfl⟩
        go_wp2
        go_ret
        exact ⟨⟨_, rfl, .inl ⟨by omega, HN.out⟩⟩, HF.out⟩
      · have hd : decide (x < (1 : Int)) = false := by simpa using hx
        have hB1 := hB x wr
        rw [hd] at hB1
        clear hd hB
        go_wp2_with fail
        refine hB1.mono ?_
        rintro e w' ⟨rfl, rfl⟩
        go_wp2
        go_roundw
        case rel =>
          refine ⟨j + 1, hlt, by go_num, HF.out, fun r hr => ?_⟩
          rw [HT.out] at hr
          rcases List.mem_append.1 hr with hr | hr
          · exact HA.out r hr
          · simp at hr; subst hr; omega
        case measure => simp [intOf]; omega
    · obtain rfl : j = L.length := by omega
      have HF := hide fr
      have hyes : L.all (fun r => decide (1 ≤ r)) = true := List.all_eq_true.2 fun r hr => by simpa using HA.out r (by rw [List.take_of_length_le (Nat.le_refl _)]; exact hr)
      have HY := hide hyes
      clear fr h hyes
      go_wp2
      go_ret
      exact ⟨⟨-1, rfl, .inr ⟨rfl, HY.out⟩⟩, HF.out⟩

theorem containsLow_any (A : Option Addr) (cap : Nat) (L : List Int) (w : World) (lo hi : Nat) (h : Ints w lo hi A cap L) (hh : hi ≤ w.heap.size) :
    Calls Try.prog 111 #[.slice A L.length cap, .func (.func 128) #[] #[]] w fun e w' => e = .returned (.bool (!L.all fun r => decide (1 ≤ r))) ∧ Fr No w w' := by
  have hI := indexLow_any A cap L w lo hi h hh
  generalize (L.all fun r => decide (1 ≤ r)) = q at *
  clear h
  go_enter Try.func111, Try.ntmps111
  go_wp2_with fail
  refine hI.mono ?_
  rintro e w2 ⟨⟨z, rfl, hz⟩, fr2⟩
  rcases hz with ⟨h0, rfl⟩ | ⟨rfl, rfl⟩
  · have h1 : decide ((0 : Int) ≤ z) = true := by simpa using h0
    go_wp2
    go_ret
    exact ⟨rfl, fr2⟩
  · go_wp2
    go_ret
    exact ⟨rfl, fr2⟩

theorem nm_snoc : ∀ (fs ts : List Int), fs.length = ts.length → ∀ (f t r : Int), nmOf (fs ++ [f]) (ts ++ [t]) r = (nmOf fs ts r).or (if f = r then some t else none)
  | [], [], _, f, t, r => by simp [nmOf]
  | [], _ :: _, h, _, _, _ => by simp at h
  | _ :: _, [], h, _, _, _ => by simp at h
  | f0 :: fs, t0 :: ts, h, f, t, r => by
    simp only [List.cons_append, nmOf]
    split
    · rfl
    · exact nm_snoc fs ts (by simpa using h) f t r

/-- The map of the first so many names. -/
def NamesTo (w : World) (b n : Nat) (f : Int → Option Int) : Prop :=
  ∃ D : DataW Unit, w.ownsMap Try.prog 25 (plainElem Try.prog 25) b n D ∧ ∀ r : Int, -9223372036854775808 ≤ r → r ≤ 9223372036854775807 → Maps.has D (.int .i64 r) = (f r).isSome ∧ D.atKey (.int .i64 r) (.lit (.int .i64 0)) = .lit (.int .i64 ((f r).getD 0))

theorem NamesTo.names {w : World} {b n : Nat} {f : Int → Option Int} (h : NamesTo w b n f) : Names w b f := by
  obtain ⟨D, h1, h2⟩ := h
  exact ⟨n, D, h1, h2⟩

theorem lit_ne {a b : Int} (h : a ≠ b) : Lit.int .i64 a ≠ Lit.int .i64 b := fun e => by injection e with _ e; exact h e

theorem keylit (a : Int) (h0 : -9223372036854775808 ≤ a) (h1 : a ≤ 9223372036854775807) : WideAt.IsKeyLit (Lit.int .i64 a) := keyed25.key (v := .int .i64 a) (keyOf_int_mk Try.underlying25 (wf64 h0 h1))

theorem make167 (n : Int) (w : World) : (Instr.makeMap 167 (some (.int .i64 n))).run Try.prog w = .ok (.map (some w.heap.size)) (w.alloc (.map #[] 0)) := by kernel_rfl

/-- What Rename answers. -/
def renV (v : V) (fs ts : List Int) : V × Int :=
  if (v.may && (decide (fs.length = ts.length) && ((fs.all fun r => decide (1 ≤ r)) && (ts.all fun r => decide (1 ≤ r))))) = true then
    (if v.named (nmOf fs ts) = true then (v.ren (nmOf fs ts), 0) else (V.zero, 21)) else (V.zero, 2)

set_option maxRecDepth 100000 in
set_option maxHeartbeats 8000000 in
theorem Rename_any (t : T) (w : World) (lo hi : Nat) (ht : t.In w lo hi) (hh : hi ≤ w.heap.size) (Af At : Option Addr) (cf ct : Nat) (fs ts : List Int) (lf hf lt ht' : Nat) (pf : Ints w lf hf Af cf fs) (hhf : hf ≤ w.heap.size) (pt : Ints w lt ht' At ct ts) (hht : ht' ≤ w.heap.size) :
    Calls Try.prog 72 #[t.val, .slice Af fs.length cf, .slice At ts.length ct] w (OwnE2 (renV t.v fs ts).1 (renV t.v fs ts).2 w) := by
  have hM := fun w' h h' => may_any t w' lo hi h h'
  have hO := fun w' h h' => own2_any t w' lo hi h h'
  have hlf := pf.len
  have hlt := pt.len
  cases t with
  | mk k n s A cap l r =>
    rw [T.val_mk] at *
    generalize hu : (T.mk k n s A cap l r).v = u at *
    have fr0 := ((Fr.refl No w).alloc (.cells #[.int .u8 k, .int .i64 n, .string s, .slice A l.length cap, .int .i64 r] 27)).alloc (.cells #[.int .u8 0, .int .i64 0, .string ⟨#[]⟩, .slice none 0 0, .int .i64 0] 27)
    have bv0 := (Blk.new w 27 #[.int .u8 k, .int .i64 n, .string s, .slice A l.length cap, .int .i64 r]).alloc (.cells #[.int .u8 0, .int .i64 0, .string ⟨#[]⟩, .slice none 0 0, .int .i64 0] 27)
    have bz0 := Blk.new' (w.alloc (.cells #[.int .u8 k, .int .i64 n, .string s, .slice A l.length cap, .int .i64 r] 27)) 27 #[.int .u8 0, .int .i64 0, .string ⟨#[]⟩, .slice none 0 0, .int .i64 0] (g := w.heap.size + 1) (by simp)
    have ht0 := ht.no fr0 hh
    have pf0 := pf.no fr0 hhf
    have pt0 := pt.no fr0 hht
    have hs0 : w.heap.size + 2 ≤ ((w.alloc (.cells #[.int .u8 k, .int .i64 n, .string s, .slice A l.length cap, .int .i64 r] 27)).alloc (.cells #[.int .u8 0, .int .i64 0, .string ⟨#[]⟩, .slice none 0 0, .int .i64 0] 27)).heap.size := by simp
    have HU := hide hu
    clear hu ht pf pt
    cases hm : u.may with
    | false =>
      have e1 : renV u fs ts = (V.zero, 2) := by simp [renV, hm]
      rw [e1]
      rw [hm] at hM
      clear hm e1 hO
      go_enter Try.func72, Try.ntmps72
      go_wp2_with fail
      generalize World.alloc (World.alloc w _) _ = w0 at *
      refine (hM w0 ht0 (by omega)).mono ?_
      rintro e w2 ⟨rfl, f2⟩
      have bz2 := bz0.fr f2 fun h => h
      obtain ⟨d0, d1, d2, d3, d4, df⟩ := bz2.cells5
      have q0 := bz2.lt
      have HF := hide (fr0.trans f2)
      clear hM ht0 bz0 bv0 fr0 f2 bz2 pf0 pt0
      go_wp2
      refine bodyPost_ret (v := .tuple #[.agg #[.int .u8 0, .int .i64 0, .string ⟨#[]⟩, .slice none 0 0, .int .i64 0], .int .i64 2]) (by simp [results, Try.results72, go_sem, *]) rfl ?_
      have hF2 := HF.out
      refine ⟨T.zero, rfl, T.zero_v, T.zero_sh _ _ _, ?_⟩
      repeat (first | with_reducible exact hF2 | with_reducible refine Fr.setNew ?_ (by first | (simp; done) | (simp; omega)) _)
    | true =>
      rw [hm] at hM
      by_cases hln : fs.length = ts.length
      case neg =>
        have e1 : renV u fs ts = (V.zero, 2) := by simp [renV, hln]
        have hl1 : ((fs.length : Int) != (ts.length : Int)) = true := by simp; omega
        rw [e1]
        clear hm e1 hO hln
        go_enter Try.func72, Try.ntmps72
        go_wp2_with fail
        generalize World.alloc (World.alloc w _) _ = w0 at *
        refine (hM w0 ht0 (by omega)).mono ?_
        rintro e w2 ⟨rfl, f2⟩
        have bz2 := bz0.fr f2 fun h => h
        obtain ⟨d0, d1, d2, d3, d4, df⟩ := bz2.cells5
        have q0 := bz2.lt
        have HF := hide (fr0.trans f2)
        clear hM ht0 bz0 bv0 fr0 f2 bz2 pf0 pt0
        go_wp2
        refine bodyPost_ret (v := .tuple #[.agg #[.int .u8 0, .int .i64 0, .string ⟨#[]⟩, .slice none 0 0, .int .i64 0], .int .i64 2]) (by simp [results, Try.results72, go_sem, *]) rfl ?_
        have hF2 := HF.out
        refine ⟨T.zero, rfl, T.zero_v, T.zero_sh _ _ _, ?_⟩
        repeat (first | with_reducible exact hF2 | with_reducible refine Fr.setNew ?_ (by first | (simp; done) | (simp; omega)) _)
      have hl1 : ((fs.length : Int) != (ts.length : Int)) = false := by simp; omega
      have HLN := hide hln
      clear hln
      cases hfa : (fs.all fun r => decide (1 ≤ r)) with
      | false =>
        have e1 : renV u fs ts = (V.zero, 2) := by simp [renV, hfa]
        have hcf := fun w' h h' => containsLow_any Af cf fs w' lf hf h h'
        rw [hfa] at hcf
        rw [e1]
        clear hm e1 hO hfa
        go_enter Try.func72, Try.ntmps72
        go_wp2_with fail
        generalize World.alloc (World.alloc w _) _ = w0 at *
        refine (hM w0 ht0 (by omega)).mono ?_
        rintro e w2 ⟨rfl, f2⟩
        have bz2 := bz0.fr f2 fun h => h
        have pf2 := pf0.no f2 (by omega)
        have HF := hide (fr0.trans f2)
        have hs2 := f2.size
        clear hM ht0 bz0 bv0 fr0 f2 pf0 pt0
        go_wp2_with fail
        refine (hcf w2 pf2 (by omega)).mono ?_
        rintro e w3 ⟨rfl, f3⟩
        have bz3 := bz2.fr f3 fun h => h
        obtain ⟨d0, d1, d2, d3, d4, df⟩ := bz3.cells5
        have q0 := bz3.lt
        have HF3 := hide (HF.out.trans f3)
        clear hcf bz2 f3 bz3 pf2
        go_wp2
        refine bodyPost_ret (v := .tuple #[.agg #[.int .u8 0, .int .i64 0, .string ⟨#[]⟩, .slice none 0 0, .int .i64 0], .int .i64 2]) (by simp [results, Try.results72, go_sem, *]) rfl ?_
        have hF2 := HF3.out
        refine ⟨T.zero, rfl, T.zero_v, T.zero_sh _ _ _, ?_⟩
        repeat (first | with_reducible exact hF2 | with_reducible refine Fr.setNew ?_ (by first | (simp; done) | (simp; omega)) _)
      | true =>
      have hcf := fun w' h h' => containsLow_any Af cf fs w' lf hf h h'
      have hct := fun w' h h' => containsLow_any At ct ts w' lt ht' h h'
      rw [hfa] at hcf
      cases hta : (ts.all fun r => decide (1 ≤ r)) with
      | false =>
        have e1 : renV u fs ts = (V.zero, 2) := by simp [renV, hta]
        rw [hta] at hct
        rw [e1]
        clear hm e1 hO hfa hta
        go_enter Try.func72, Try.ntmps72
        go_wp2_with fail
        generalize World.alloc (World.alloc w _) _ = w0 at *
        refine (hM w0 ht0 (by omega)).mono ?_
        rintro e w2 ⟨rfl, f2⟩
        have bz2 := bz0.fr f2 fun h => h
        have pf2 := pf0.no f2 (by omega)
        have pt2 := pt0.no f2 (by omega)
        have HF := hide (fr0.trans f2)
        have hs2 := f2.size
        clear hM ht0 bz0 bv0 fr0 f2 pf0 pt0
        go_wp2_with fail
        refine (hcf w2 pf2 (by omega)).mono ?_
        rintro e w3 ⟨rfl, f3⟩
        have bz3 := bz2.fr f3 fun h => h
        have pt3 := pt2.no f3 (by omega)
        have HF3 := hide (HF.out.trans f3)
        have hs3 := f3.size
        clear hcf bz2 f3 pf2 pt2
        go_wp2_with fail
        refine (hct w3 pt3 (by omega)).mono ?_
        rintro e w4 ⟨rfl, f4⟩
        have bz4 := bz3.fr f4 fun h => h
        obtain ⟨d0, d1, d2, d3, d4, df⟩ := bz4.cells5
        have q0 := bz4.lt
        have HF4 := hide (HF3.out.trans f4)
        clear hct bz3 f4 bz4 pt3
        go_wp2
        refine bodyPost_ret (v := .tuple #[.agg #[.int .u8 0, .int .i64 0, .string ⟨#[]⟩, .slice none 0 0, .int .i64 0], .int .i64 2]) (by simp [results, Try.results72, go_sem, *]) rfl ?_
        have hF2 := HF4.out
        refine ⟨T.zero, rfl, T.zero_v, T.zero_sh _ _ _, ?_⟩
        repeat (first | with_reducible exact hF2 | with_reducible refine Fr.setNew ?_ (by first | (simp; done) | (simp; omega)) _)
      | true =>
      rw [hta] at hct
      have e1 : renV u fs ts = if u.named (nmOf fs ts) = true then (u.ren (nmOf fs ts), 0) else (V.zero, 21) := by
        unfold renV
        rw [hm, hfa, hta, decide_eq_true HLN.out]
        rfl
      have E1 := hide e1
      clear e1
      generalize renV u fs ts = rv at *
      clear hm hfa hta
      have hmm := make167
      go_enter Try.func72, Try.ntmps72
      go_wp2_with fail
      generalize World.alloc (World.alloc w _) _ = w0 at *
      refine (hM w0 ht0 (by omega)).mono ?_
      rintro e w2 ⟨rfl, f2⟩
      have bz2 := bz0.fr f2 fun h => h
      have bv2 := bv0.fr f2 fun h => h
      have ht2 := ht0.no f2 (by omega)
      have pf2 := pf0.no f2 (by omega)
      have pt2 := pt0.no f2 (by omega)
      have HF := hide (fr0.trans f2)
      have hs2 := f2.size
      clear hM ht0 bz0 bv0 fr0 f2 pf0 pt0
      go_wp2_with fail
      refine (hcf w2 pf2 (by omega)).mono ?_
      rintro e w3 ⟨rfl, f3⟩
      have bz3 := bz2.fr f3 fun h => h
      have bv3 := bv2.fr f3 fun h => h
      have ht3 := ht2.no f3 (by omega)
      have pf3 := pf2.no f3 (by omega)
      have pt3 := pt2.no f3 (by omega)
      have HF3 := hide (HF.out.trans f3)
      have hs3 := f3.size
      clear hcf bz2 bv2 ht2 f3 pf2 pt2 HF
      go_wp2_with fail
      refine (hct w3 pt3 (by omega)).mono ?_
      rintro e w4 ⟨rfl, f4⟩
      have bz4 := bz3.fr f4 fun h => h
      have bv4 := bv3.fr f4 fun h => h
      have ht4 := ht3.no f4 (by omega)
      have pf4 := pf3.no f4 (by omega)
      have pt4 := pt3.no f4 (by omega)
      have HF4 := hide (HF3.out.trans f4)
      have hs4 := f4.size
      clear hct bz3 bv3 ht3 f4 pf3 pt3 HF3
      go_wp2_with fail
      have hst : NamesTo (w4.alloc (.map #[] 0)) w4.heap.size 0 (nmOf [] []) := ⟨.map [], World.ownsMap_made _ _ _ _, fun r _ _ => ⟨rfl, rfl⟩⟩
      have HST := hide hst
      clear hst
      go_loopw [10, 11, 12, 13, 41] (fun _ _ _ _ i wr => ∃ j : Nat, j ≤ fs.length ∧ i = .int .i64 j ∧ Fr No w4 wr ∧ NamesTo wr w4.heap.size j (nmOf (fs.take j) (ts.take j))) (fun _ _ _ _ i _ => fs.length - (intOf i).toNat)
      case atStart => exact ⟨0, Nat.zero_le _, rfl, (Fr.refl No w4).alloc _, by simpa using HST.out⟩
      case round =>
        obtain ⟨j, hj, rfl, fr, nms⟩ := hrel
        have hsz := fr.size
        by_cases hlt : j < fs.length
        · have hlt' : j < ts.length := by have := HLN.out; omega
          obtain ⟨b, o, rfl, hb0, hb1, hcf⟩ := (pf4.no fr (by omega)).elem hlt
          obtain ⟨b', o', rfl, hb0', hb1', hct⟩ := (pt4.no fr (by omega)).elem hlt'
          have g0 : b < wr.heap.size := by omega
          have g1 : b' < wr.heap.size := by omega
          have hrf := pf4.rng _ (List.getElem_mem hlt)
          have hrt := pt4.rng _ (List.getElem_mem hlt')
          have htkf : fs.take (j + 1) = fs.take j ++ [fs[j]] := List.take_succ_eq_append_getElem hlt
          have htkt : ts.take (j + 1) = ts.take j ++ [ts[j]] := List.take_succ_eq_append_getElem hlt'
          have hsn := nm_snoc (fs.take j) (ts.take j) (by simp; omega) fs[j] ts[j]
          generalize fs[j] = x at *
          generalize ts[j] = y at *
          obtain ⟨D, hown, hlook⟩ := nms
          obtain ⟨hl1, hl2⟩ := hlook x hrf.1 hrf.2
          have hkey : keyOf Try.prog 25 (.int .i64 x) = some (.int .i64 x) := keyOf_int_mk Try.underlying25 (wf64 hrf.1 hrf.2)
          have hsn' : ∀ r, nmOf (fs.take (j + 1)) (ts.take (j + 1)) r = (nmOf (fs.take j) (ts.take j) r).or (if x = r then some y else none) := fun r => by rw [htkf, htkt]; exact hsn r
          cases hm : Maps.has D (Lit.int .i64 x) with
          | true =>
            have hnx : NamesTo wr w4.heap.size (j + 1) (nmOf (fs.take (j + 1)) (ts.take (j + 1))) := by
              refine ⟨D, hown.mono (by omega), fun r h0 h1 => ?_⟩
              obtain ⟨q1, q2⟩ := hlook r h0 h1
              have e : nmOf (fs.take (j + 1)) (ts.take (j + 1)) r = nmOf (fs.take j) (ts.take j) r := by
                rw [hsn' r]
                by_cases hxr : x = r
                · subst hxr
                  rw [hm] at hl1
                  cases hq : nmOf (fs.take j) (ts.take j) x with
                  | none => rw [hq] at hl1; cases hl1
                  | some z => rfl
                · rw [if_neg hxr]; cases nmOf (fs.take j) (ts.take j) r <;> rfl
              rw [e]
              exact ⟨q1, q2⟩
            have HN := hide hnx
            have HF := hide fr
            clear hnx fr htkf htkt hsn hsn' hlook hl1 hl2 HST
            go_wp2_with (at_lookup; refine wpList_lookup_own_ok_int _ rfl _ _ 167 rfl 25 25 .i64 keyed25 Try.underlying167 Try.underlying25 (zero25 _) w4.heap.size j D rfl hown _ _ rfl hkey ?_; intro c _ _)
            go_roundw
            case rel => exact ⟨j + 1, hlt, by go_num, HF.out, HN.out⟩
            case measure => simp [intOf]; omega
          | false =>
            have hnx : ∀ w', w'.ownsMap Try.prog 25 (plainElem Try.prog 25) w4.heap.size (j + 1) (D.put (.int .i64 x) (.lit (.int .i64 y))) → NamesTo w' w4.heap.size (j + 1) (nmOf (fs.take (j + 1)) (ts.take (j + 1))) := fun w' ho => by
              refine ⟨_, ho, fun r h0 h1 => ?_⟩
              obtain ⟨q1, q2⟩ := hlook r h0 h1
              by_cases hxr : x = r
              · subst hxr
                rw [hm] at hl1
                have hno : nmOf (fs.take j) (ts.take j) x = none := by
                  cases hq : nmOf (fs.take j) (ts.take j) x with
                  | none => rfl
                  | some z => rw [hq] at hl1; cases hl1
                rw [hsn' x, hno, if_pos rfl]
                exact ⟨has_put_same (World.ownsMap.isMap hown) (keylit _ h0 h1) _, by rw [atKey_put_same (World.ownsMap.isMap hown) (keylit _ h0 h1)]; rfl⟩
              · have e : nmOf (fs.take (j + 1)) (ts.take (j + 1)) r = nmOf (fs.take j) (ts.take j) r := by
                  rw [hsn' r, if_neg hxr]; cases nmOf (fs.take j) (ts.take j) r <;> rfl
                rw [e, has_put_other (lit_ne fun h => hxr h.symm), atKey_put_other (lit_ne fun h => hxr h.symm)]
                exact ⟨q1, q2⟩
            have HN := hide hnx
            have HF := hide fr
            have hpl : plainElem (H := Unit) Try.prog 25 (.int .i64 y) = some (.lit (.int .i64 y), []) := plainElem_int Try.underlying25 (wf64 hrt.1 hrt.2)
            clear hnx fr htkf htkt hsn hsn' hlook hl1 hl2 HST
            go_wp2_with (first
              | (at_lookup; refine wpList_lookup_own_ok_int _ rfl _ _ 167 rfl 25 25 .i64 keyed25 Try.underlying167 Try.underlying25 (zero25 _) w4.heap.size j D rfl hown _ _ rfl hkey ?_; intro c _ _)
              | (at_mapUpdate; refine wpList_mapUpdate_own _ rfl _ _ _ 167 rfl 25 25 keyed25 Try.underlying167 _ w4.heap.size j D rfl hown (by unfold maxLen; omega) _ _ _ rfl rfl hkey _ [] hpl ?_; intro w1 hown1 hgrow1; have HO1 := hide hown1; have HG1 := hide hgrow1; clear hown1 hgrow1))
            go_roundw
            case rel => exact ⟨j + 1, hlt, by go_num, HF.out.trans' (fr_grown HG1.out) (fun i hi h => by injection h with h; omega), HN.out _ HO1.out⟩
            case measure => simp [intOf]; omega
        · obtain rfl : fs.length = j := by omega
          rw [List.take_of_length_le (Nat.le_refl _), List.take_of_length_le (by have := HLN.out; omega)] at nms
          have bz5 := bz4.fr fr fun h => h
          have bv5 := bv4.fr fr fun h => h
          have ht5 := ht4.no fr (by omega)
          have HF5 := hide (HF4.out.trans fr)
          have HN5 := hide nms.names
          have hml := nms.names.lt
          obtain ⟨c0, c1, c2, c3, c4, -⟩ := bv5.cells5
          have q0 := bv5.lt
          have HB5 := hide bz5
          clear nms bz4 bv4 ht4 fr pf4 pt4 HST HF4 bz5 bv5
          generalize w4.heap.size = mb at *
          go_wp2_with fail
          refine (hO wr ht5 (by omega)).mono ?_
          rintro e w6 ⟨⟨k6, n6, s6, A6, c6, l6, r6⟩, rfl, hv6, hsh6, f6⟩
          rw [T.val_mk]
          have hs6 := f6.size
          have f7 := f6.alloc (.cells #[.int .u8 k6, .int .i64 n6, .string s6, .slice A6 l6.length c6, .int .i64 r6] 27)
          have f67 := (Fr.refl No w6).alloc (.cells #[.int .u8 k6, .int .i64 n6, .string s6, .slice A6 l6.length c6, .int .i64 r6] 27)
          have bo7 := Blk.new w6 27 #[.int .u8 k6, .int .i64 n6, .string s6, .slice A6 l6.length c6, .int .i64 r6]
          have hsh7 := hsh6.no f67
          have HN7 := hide (HN5.out.fr f7 fun h => h)
          have HB7 := hide (HB5.out.fr f7 fun h => h)
          have HF7 := hide (HF5.out.trans f7)
          have hbl : ∀ i ∈ (T.mk k6 n6 s6 A6 c6 l6 r6).blocks, wr.heap.size ≤ i ∧ i < w6.heap.size := fun i hi => T.In.blocks _ hsh6.inn i hi
          have hren := rename_any (nmOf fs ts) mb (T.mk k6 n6 s6 A6 c6 l6 r6) w6.heap.size 0 wr.heap.size w6.heap.size _ (fun j u hu => by rw [Nat.zero_add, bo7.cell]; simpa [T.cells_mk] using hu) (fun i => bo7.frozen i) bo7.lt hsh7.sp hsh7.nodup (fun h => by have := hbl _ h; omega) (by simp) HN7.out (by omega) (fun h => by have := hbl _ h; omega)
          have HR := hide hren
          have HBL := hide hbl
          have HV6 := hide hv6
          have HBO := hide bo7
          have HND := hide hsh7.nodup
          clear hren hbl hv6 hsh6 hsh7 f6 f7 f67 bo7 HN5 HB5 HF5 ht5 hO c0 c1 c2 c3 c4 q0
          go_wp2_with fail
          generalize World.alloc w6 _ = w7 at *
          refine HR.out.mono ?_
          rintro e w8 hq
          have he := hq.e
          subst he
          rw [HV6.out]
          have hs8 := hq.fr.size
          have hgt : ∀ i, (i = w6.heap.size ∨ i ∈ (T.mk k6 n6 s6 A6 c6 l6 r6).blocks) → w.heap.size + 2 ≤ i := fun i h => by
            rcases h with h | h
            · omega
            · have := HBL.out i h; omega
          have hF8 : Fr No w w8 := HF7.out.trans' hq.fr fun i hi h => by have := hgt i h; omega
          have bz8 := HB7.out.fr hq.fr (fun h => by have := hgt _ h; omega)
          have HF8 := hide hF8
          have HB8 := hide bz8
          have hz8 := bz8.lt
          cases hn : u.named (nmOf fs ts) with
          | false =>
            obtain ⟨d0, d1, d2, d3, d4, df⟩ := bz8.cells5
            have e2 : rv = (V.zero, 21) := by rw [E1.out, hn]; rfl
            have E2 := hide e2
            clear e2 hn hq bz8 hF8 hgt
            go_wp2
            refine bodyPost_ret (v := .tuple #[.agg #[.int .u8 0, .int .i64 0, .string ⟨#[]⟩, .slice none 0 0, .int .i64 0], .int .i64 21]) (by simp [results, Try.results72, go_sem, *]) rfl ?_
            have hF2 := HF8.out
            rw [E2.out]
            refine ⟨T.zero, rfl, T.zero_v, T.zero_sh _ _ _, ?_⟩
            repeat (first | with_reducible exact hF2 | with_reducible refine Fr.setNew ?_ (by first | (simp; done) | (simp; omega)) _)
          | true =>
            have e2 : rv = (u.ren (nmOf fs ts), 0) := by rw [E1.out, hn]; rfl
            have hsp8 := hq.sp (by rw [HV6.out]; exact hn)
            obtain ⟨h4, h5⟩ := hq.one k6 n6 s6 A6 c6 l6 r6 rfl (by rw [HV6.out]; exact hn)
            obtain ⟨L', r'', hx, hL'⟩ : ∃ L' r'', (T.mk k6 n6 s6 A6 c6 l6 r6).ren (nmOf fs ts) = T.mk k6 n6 s6 A6 c6 L' r'' ∧ L'.length = l6.length := by
              rw [T.ren_mk]
              split
              · exact ⟨_, _, rfl, rfl⟩
              · exact ⟨_, _, rfl, by simp⟩
            have hcc := T.ren_cells (nmOf fs ts) k6 n6 s6 A6 c6 l6 r6
            rw [hx, T.cells_mk] at hcc
            simp only [List.cons.injEq, true_and, and_true] at hcc
            have hr'' := hcc.2
            clear hcc
            simp only [Value.int.injEq, true_and] at hr''
            have bo8 : Blk w8 w6.heap.size 27 #[.int .u8 k6, .int .i64 n6, .string s6, .slice A6 l6.length c6, .int .i64 r''] := by
              rw [hr'']
              by_cases hk : k6 = 4
              · rw [h4 hk, if_pos hk]
                have := HBO.out.set_ (0 + 4) (.int .i64 ((nmOf fs ts r6).getD 0))
                simpa using this
              · rw [if_neg hk]
                exact HBO.out.fr (h5 hk) fun h => by have := HBL.out _ h; omega
            have hv8 : (T.mk k6 n6 s6 A6 c6 L' r'').v = u.ren (nmOf fs ts) := by rw [← hx, T.ren_v, HV6.out]
            have hb8 : (T.mk k6 n6 s6 A6 c6 L' r'').blocks = (T.mk k6 n6 s6 A6 c6 l6 r6).blocks := by rw [← hx, T.ren_blocks]
            rw [hx] at hsp8
            obtain ⟨d0, d1, d2, d3, d4, df⟩ := bz8.cells5
            obtain ⟨c0, c1, c2, c3, c4, -⟩ := bo8.cells5
            have q0 := bo8.lt
            have E2 := hide e2
            have HSP := hide hsp8
            have HV8 := hide hv8
            have HB := hide hb8
            have HL := hide hL'
            clear e2 hn hq bz8 hF8 hgt hsp8 h4 h5 hx hr'' bo8 hv8 hb8 hL'
            go_wp2
            refine bodyPost_ret (v := .tuple #[.agg #[.int .u8 k6, .int .i64 n6, .string s6, .slice A6 l6.length c6, .int .i64 r''], .int .i64 0]) (by simp [results, Try.results72, go_sem, *]) rfl ?_
            have hF2 := HF8.out
            rw [E2.out]
            refine ⟨T.mk k6 n6 s6 A6 c6 L' r'', by rw [T.val_mk, HL.out], HV8.out, ?_, ?_⟩
            · have hsh : (T.mk k6 n6 s6 A6 c6 L' r'').Sh w8 wr.heap.size w6.heap.size := ⟨HSP.out, by rw [HB.out]; exact HND.out⟩
              refine (T.Sh.fr' (S := (· = w.heap.size + 1)) hsh ?_ (fun i h0 h1 h2 => by have h' : i = w.heap.size + 1 := h2; omega)).more (by omega) (by simp; omega)
              repeat (first | with_reducible exact Fr.refl _ w8 | with_reducible refine Fr.set ?_ (by simp) _)
            · repeat (first | with_reducible exact hF2 | with_reducible refine Fr.setNew ?_ (by first | (simp; done) | (simp; omega)) _)

end Go.Proofs.Ytihjmipmjogpoaa

/- Chapter 2: plain laws of renaming. -/
namespace Go.Proofs.Ytihjmipmjogpoaa
open Go.RowKit

theorem ren_size (f : Int → Option Int) (v : V) : (v.ren f).size = v.size := by
  induction v using V.ind with
  | h k n s l r ih =>
    rw [V.ren_mk]
    split
    · rw [V.size_mk, V.size_mk]
    · have e : l.map (V.size ∘ V.ren f) = l.map V.size := List.map_congr_left fun x hx => ih x hx
      rw [V.size_mk, V.size_mk, List.map_map, e]

theorem ren_dep (f : Int → Option Int) (v : V) : (v.ren f).dep = v.dep := by
  induction v using V.ind with
  | h k n s l r ih =>
    rw [V.ren_mk]
    split
    · rw [V.dep_mk, V.dep_mk]
    · have e : l.map (V.dep ∘ V.ren f) = l.map V.dep := List.map_congr_left fun x hx => ih x hx
      rw [V.dep_mk, V.dep_mk, List.map_map, e]

theorem ren_rf (f : Int → Option Int) (v : V) : (v.ren f).rf = v.rf.map fun r => (f r).getD 0 := by
  induction v using V.ind with
  | h k n s l r ih =>
    rw [V.ren_mk]
    by_cases h4 : k = 4
    · rw [if_pos h4, V.rf_mk, V.rf_mk, if_pos h4, if_pos h4]; rfl
    · have e : l.map (V.rf ∘ V.ren f) = l.map (fun v => v.rf.map fun r => (f r).getD 0) := List.map_congr_left fun x hx => ih x hx
      rw [if_neg h4, V.rf_mk, V.rf_mk, if_neg h4, if_neg h4, List.map_map, e, List.map_flatten, List.map_map]
      rfl

theorem named_iff (f : Int → Option Int) (v : V) : v.named f = true ↔ ∀ r ∈ v.rf, (f r).isSome = true := by
  induction v using V.ind with
  | h k n s l r ih =>
    rw [V.named_mk, V.rf_mk]
    by_cases h4 : k = 4
    · simp [h4]
    · rw [if_neg h4, if_neg h4, List.all_eq_true]
      constructor
      · intro h x hx
        obtain ⟨L, hL, hx⟩ := List.mem_flatten.1 hx
        obtain ⟨u, hu, rfl⟩ := List.mem_map.1 hL
        exact (ih u hu).1 (h u hu) x hx
      · intro h u hu
        exact (ih u hu).2 fun x hx => h x (List.mem_flatten.2 ⟨_, List.mem_map_of_mem hu, hx⟩)

theorem ren_ok (f : Int → Option Int) (v : V) : v.ok = true → (∀ r ∈ v.rf, 1 ≤ (f r).getD 0) → (v.ren f).ok = true := by
  induction v using V.ind with
  | h k n s l r ih =>
    intro hok hp
    rw [V.ok_mk, Bool.and_eq_true, List.all_eq_true] at hok
    rw [V.rf_mk] at hp
    rw [V.ren_mk]
    by_cases h4 : k = 4
    · subst h4
      rw [if_pos rfl] at hp ⊢
      have := hp r (by simp)
      rw [V.ok_mk, Bool.and_eq_true, List.all_eq_true]
      refine ⟨?_, hok.2⟩
      have h1 := hok.1
      simp [fok] at h1 ⊢
      exact ⟨⟨⟨this, h1.1.1.2⟩, h1.1.2⟩, h1.2⟩
    · rw [if_neg h4] at hp ⊢
      rw [V.ok_mk, Bool.and_eq_true, List.all_eq_true, List.length_map]
      refine ⟨hok.1, fun u hu => ?_⟩
      obtain ⟨x, hx, rfl⟩ := List.mem_map.1 hu
      exact ih x hx (hok.2 x hx) fun r hr => hp r (List.mem_flatten.2 ⟨_, List.mem_map_of_mem hx, hr⟩)

theorem ren_may {f : Int → Option Int} {v : V} (hm : v.may = true) (hp : ∀ r ∈ v.rf, 1 ≤ (f r).getD 0) : (v.ren f).may = true := by
  have h := hm
  simp only [V.may, V.fits, Bool.and_eq_true, decide_eq_true_eq] at h ⊢
  exact ⟨⟨ren_ok f v h.1.1 hp, by rw [ren_size]; exact h.1.2⟩, by rw [ren_dep]; exact h.2⟩

theorem ren_congr {f g : Int → Option Int} (v : V) : (∀ r ∈ v.rf, (f r).getD 0 = (g r).getD 0) → v.ren f = v.ren g := by
  induction v using V.ind with
  | h k n s l r ih =>
    intro h
    rw [V.rf_mk] at h
    rw [V.ren_mk, V.ren_mk]
    by_cases h4 : k = 4
    · rw [if_pos h4] at h ⊢; rw [if_pos h4, h r (by simp)]
    · rw [if_neg h4] at h ⊢
      rw [if_neg h4]
      have e : l.map (V.ren f) = l.map (V.ren g) := List.map_congr_left fun x hx => ih x hx fun r hr => h r (List.mem_flatten.2 ⟨_, List.mem_map_of_mem hx, hr⟩)
      rw [e]

theorem ren_ren (f g : Int → Option Int) (v : V) : (v.ren f).ren g = v.ren fun r => g ((f r).getD 0) := by
  induction v using V.ind with
  | h k n s l r ih =>
    rw [V.ren_mk, V.ren_mk]
    by_cases h4 : k = 4
    · rw [if_pos h4, if_pos h4, V.ren_mk, if_pos h4]
    · rw [if_neg h4, if_neg h4, V.ren_mk, if_neg h4, List.map_map]
      have e : l.map (V.ren g ∘ V.ren f) = l.map (V.ren fun r => g ((f r).getD 0)) := List.map_congr_left fun x hx => ih x hx
      rw [e]

theorem ren_some (v : V) : v.ren some = v := by
  induction v using V.ind with
  | h k n s l r ih =>
    rw [V.ren_mk]
    by_cases h4 : k = 4
    · rw [if_pos h4]; rfl
    · rw [if_neg h4]
      have e : l.map (V.ren some) = l.map id := List.map_congr_left fun x hx => ih x hx
      rw [e, List.map_id]

theorem ren_id {f : Int → Option Int} {v : V} (h : ∀ r ∈ v.rf, (f r).getD 0 = r) : v.ren f = v := by
  rw [ren_congr (g := some) v h, ren_some]

/-! ### Names -/
theorem nm_mem : ∀ (fs ts : List Int) (r t : Int), nmOf fs ts r = some t → t ∈ ts
  | [], _, _, _, h => by simp [nmOf] at h
  | _ :: _, [], _, _, h => by simp [nmOf] at h
  | f :: fs, t0 :: ts, r, t, h => by
    simp only [nmOf] at h
    split at h
    · injection h with h; simp [h]
    · exact List.mem_cons_of_mem _ (nm_mem fs ts r t h)

theorem nm_isSome : ∀ (fs ts : List Int) (r : Int), fs.length ≤ ts.length → r ∈ fs → (nmOf fs ts r).isSome = true
  | [], _, _, _, h => by simp at h
  | _ :: _, [], _, h, _ => by simp at h
  | f :: fs, t :: ts, r, h, hm => by
    simp only [nmOf]
    split
    · rfl
    · rename_i hne
      rcases List.mem_cons.1 hm with rfl | hm
      · exact absurd rfl hne
      · exact nm_isSome fs ts r (by simpa using h) hm

theorem nm_key : ∀ (fs ts : List Int) (r t : Int), nmOf fs ts r = some t → r ∈ fs
  | [], _, _, _, h => by simp [nmOf] at h
  | _ :: _, [], _, _, h => by simp [nmOf] at h
  | f :: fs, t0 :: ts, r, t, h => by
    simp only [nmOf] at h
    split at h
    · rename_i e; simp [e]
    · exact List.mem_cons_of_mem _ (nm_key fs ts r t h)

/-- There and back. -/
theorem nm_back : ∀ (fs ts : List Int) (r t : Int), ts.Nodup → nmOf fs ts r = some t → nmOf ts fs t = some r
  | [], _, _, _, _, h => by simp [nmOf] at h
  | _ :: _, [], _, _, _, h => by simp [nmOf] at h
  | f :: fs, t0 :: ts, r, t, hn, h => by
    rw [List.nodup_cons] at hn
    simp only [nmOf] at h ⊢
    by_cases hf : f = r
    · rw [if_pos hf] at h
      injection h with h
      rw [if_pos h, hf]
    · rw [if_neg hf] at h
      have hm := nm_mem fs ts r t h
      rw [if_neg (fun e => hn.1 (by rw [e]; exact hm))]
      exact nm_back fs ts r t hn.2 h

/-- Twice at once: each name by what it goes under. -/
theorem nm_map : ∀ (fs ts : List Int) (g : Int → Int) (r t : Int), nmOf fs ts r = some t → nmOf fs (ts.map g) r = some (g t)
  | [], _, _, _, _, h => by simp [nmOf] at h
  | _ :: _, [], _, _, _, h => by simp [nmOf] at h
  | f :: fs, t0 :: ts, g, r, t, h => by
    simp only [nmOf, List.map_cons] at h ⊢
    split at h
    · rename_i e
      rw [if_pos e]
      injection h with h
      rw [h]
    · rename_i e
      rw [if_neg e]
      exact nm_map fs ts g r t h

theorem all_ge {L : List Int} (h : (L.all fun r => decide (1 ≤ r)) = true) : ∀ r ∈ L, 1 ≤ r := fun r hr => by simpa using List.all_eq_true.1 h r hr

/-- What it takes to be renamed. -/
theorem renV_ok {v : V} {fs ts : List Int} (h : (renV v fs ts).2 = 0) : v.may = true ∧ fs.length = ts.length ∧ (∀ r ∈ fs, 1 ≤ r) ∧ (∀ r ∈ ts, 1 ≤ r) ∧ v.named (nmOf fs ts) = true ∧ (renV v fs ts).1 = v.ren (nmOf fs ts) := by
  unfold renV at h ⊢
  split at h
  · rename_i hc
    simp only [Bool.and_eq_true, decide_eq_true_eq] at hc
    split at h
    · rename_i hn
      rw [if_pos (by simp only [Bool.and_eq_true, decide_eq_true_eq]; exact hc), if_pos hn]
      exact ⟨hc.1, hc.2.1, all_ge hc.2.2.1, all_ge hc.2.2.2, hn, rfl⟩
    · cases h
  · cases h

theorem renV_yes {v : V} {fs ts : List Int} (h1 : v.may = true) (h2 : fs.length = ts.length) (h3 : ∀ r ∈ fs, 1 ≤ r) (h4 : ∀ r ∈ ts, 1 ≤ r) (h5 : v.named (nmOf fs ts) = true) : renV v fs ts = (v.ren (nmOf fs ts), 0) := by
  unfold renV
  rw [if_pos, if_pos h5]
  simp only [Bool.and_eq_true, decide_eq_true_eq, List.all_eq_true]
  exact ⟨h1, h2, h3, h4⟩

theorem renV_err (v : V) (fs ts : List Int) : (renV v fs ts).2 = 0 ∨ (renV v fs ts).2 = 2 ∨ (renV v fs ts).2 = 21 := by
  unfold renV
  split
  · split <;> simp
  · simp

theorem nm_pos {v : V} {fs ts : List Int} (h4 : ∀ r ∈ ts, 1 ≤ r) (h5 : v.named (nmOf fs ts) = true) : ∀ r ∈ v.rf, 1 ≤ (nmOf fs ts r).getD 0 := fun r hr => by
  have h := (named_iff _ v).1 h5 r hr
  cases hq : nmOf fs ts r with
  | none => rw [hq] at h; cases h
  | some t => exact h4 t (nm_mem fs ts r t hq)

/-- Renamed back, where no name is met twice. -/
theorem ren_back {v : V} {fs ts : List Int} (h : (renV v fs ts).2 = 0) (hn : ts.Nodup) : renV (v.ren (nmOf fs ts)) ts fs = (v, 0) := by
  obtain ⟨h1, h2, h3, h4, h5, -⟩ := renV_ok h
  have hp := nm_pos h4 h5
  have hall := (named_iff _ v).1 h5
  have hb : ∀ r ∈ v.rf, nmOf ts fs ((nmOf fs ts r).getD 0) = some r := fun r hr => by
    cases hq : nmOf fs ts r with
    | none => have := hall r hr; rw [hq] at this; cases this
    | some t => exact nm_back fs ts r t hn hq
  rw [renV_yes (ren_may h1 hp) h2.symm h4 h3]
  · rw [ren_ren, ren_id]
    intro r hr
    rw [hb r hr]; rfl
  · rw [named_iff, ren_rf]
    intro x hx
    obtain ⟨r, hr, rfl⟩ := List.mem_map.1 hx
    rw [hb r hr]; rfl

/-- Renamed twice is renamed once. -/
theorem ren_twice {v : V} {fs ts ns : List Int} (h : (renV v fs ts).2 = 0) (h' : (renV (v.ren (nmOf fs ts)) ts ns).2 = 0) :
    renV v fs (ts.map fun t => (nmOf ts ns t).getD 0) = ((renV (v.ren (nmOf fs ts)) ts ns).1, 0) := by
  obtain ⟨h1, h2, h3, h4, h5, -⟩ := renV_ok h
  obtain ⟨g1, g2, g3, g4, g5, g6⟩ := renV_ok h'
  have hall := (named_iff _ v).1 h5
  have hb : ∀ r ∈ v.rf, nmOf fs (ts.map fun t => (nmOf ts ns t).getD 0) r = some ((nmOf ts ns ((nmOf fs ts r).getD 0)).getD 0) := fun r hr => by
    cases hq : nmOf fs ts r with
    | none => have := hall r hr; rw [hq] at this; cases this
    | some t => exact nm_map fs ts _ r t hq
  rw [renV_yes h1 (by simpa using h2) h3]
  · rw [g6, ren_ren, ren_congr (g := fun r => nmOf ts ns ((nmOf fs ts r).getD 0)) v fun r hr => by rw [hb r hr]; rfl]
  · intro x hx
    obtain ⟨t, ht, rfl⟩ := List.mem_map.1 hx
    cases hq : nmOf ts ns t with
    | none => have := nm_isSome ts ns t (by omega) ht; rw [hq] at this; cases this
    | some z => exact g4 z (nm_mem ts ns t z hq)
  · rw [named_iff]
    intro r hr
    rw [hb r hr]; rfl

end Go.Proofs.Ytihjmipmjogpoaa

/- Chapter 2: what Rename answers may be. -/
namespace Go.Proofs.Ytihjmipmjogpoaa
open Go.RowKit

theorem vzero_may : V.zero.may = true := by simp [V.zero, V.may, V.fits, V.ok_mk, V.size_mk, V.dep_mk, fok, toL0]

theorem renV_may (v : V) (fs ts : List Int) : (renV v fs ts).1.may = true := by
  rcases renV_err v fs ts with h | h | h
  · obtain ⟨h1, _, _, h4, h5, h6⟩ := renV_ok h
    rw [h6]
    exact ren_may h1 (nm_pos h4 h5)
  all_goals
    unfold renV at h ⊢
    split at h
    · split at h
      · cases h
      · rename_i h1 h2
        rw [if_pos h1, if_neg h2]
        exact vzero_may
    · rename_i h1
      rw [if_neg h1]
      exact vzero_may

end Go.Proofs.Ytihjmipmjogpoaa

/- Chapter 2: a region that calls and lays the answer in a box; what At and With answer may be. -/
namespace Go.Proofs.Ytihjmipmjogpoaa
open Go.RowKit

/-- What a region leaves that lays an answer into a fresh box. -/
structure Rc (wa wx : World) (x : V) (g : Nat) (tt : T) : Prop where
  b : Blk wx g 27 tt.cells.toArray
  v : tt.v = x
  sh : tt.Sh wx wa.heap.size wx.heap.size
  g0 : wa.heap.size ≤ g
  gn : g ∉ tt.blocks
  f : Fr No wa wx

def RcP (wa : World) (x : V) (e : Int) (p q : Value) (wx : World) : Prop :=
  ∃ g tt, p = .pointer (some ⟨g, 0, none⟩) ∧ q = .int .i64 e ∧ Rc wa wx x g tt

theorem rc_new {w8 w9 : World} {k n : Int} {s : ByteArray} {A : Option Addr} {c : Nat} {l : List T} {r : Int} {x : V} {er : Int} (f9 : Fr No w8.drew w9) (hv : (T.mk k n s A c l r).v = x) (sh : (T.mk k n s A c l r).Sh w9 w8.drew.heap.size w9.heap.size) :
    RcP w8 x er (.pointer (some ⟨w9.heap.size, 0, none⟩)) (.int .i64 er) (w9.alloc (.cells #[.int .u8 k, .int .i64 n, .string s, .slice A l.length c, .int .i64 r] 27)) := by
  have f9' : Fr No w8 w9 := (Fr.refl No w8).drew.trans f9
  refine ⟨_, T.mk k n s A c l r, rfl, rfl, Blk.new w9 27 _, hv, (sh.no ((Fr.refl No w9).alloc _)).more (Nat.le_refl _) (by simp), f9'.size, fun h => ?_, f9'.alloc _⟩
  have := T.In.blocks _ sh.inn _ h
  omega

theorem rc_old {w8 w9 : World} {k n : Int} {s : ByteArray} {A : Option Addr} {c : Nat} {l : List T} {r : Int} {x : V} {er : Int} (f9 : Fr No (w8.alloc (.cells #[.int .u8 0, .int .i64 0, .string ⟨#[]⟩, .slice none 0 0, .int .i64 0] 27)).drew w9) (hv : (T.mk k n s A c l r).v = x) (sh : (T.mk k n s A c l r).Sh w9 (w8.alloc (.cells #[.int .u8 0, .int .i64 0, .string ⟨#[]⟩, .slice none 0 0, .int .i64 0] 27)).drew.heap.size w9.heap.size) :
    RcP w8 x er (.pointer (some ⟨w8.heap.size, 0, none⟩)) (.int .i64 er) (((((w9.setCell ⟨w8.heap.size, 0, none⟩ (.int .u8 k)).setCell ⟨w8.heap.size, 1, none⟩ (.int .i64 n)).setCell ⟨w8.heap.size, 2, none⟩ (.string s)).setCell ⟨w8.heap.size, 3, none⟩ (.slice A l.length c)).setCell ⟨w8.heap.size, 4, none⟩ (.int .i64 r)) := by
  have bz9 : Blk w9 w8.heap.size 27 #[.int .u8 0, .int .i64 0, .string ⟨#[]⟩, .slice none 0 0, .int .i64 0] := Blk.fr (a := (w8.alloc (.cells #[.int .u8 0, .int .i64 0, .string ⟨#[]⟩, .slice none 0 0, .int .i64 0] 27)).drew) (Blk.new w8 27 #[.int .u8 0, .int .i64 0, .string ⟨#[]⟩, .slice none 0 0, .int .i64 0]) f9 fun h => h
  have f9' : Fr No w8 w9 := ((Fr.refl No w8).alloc (.cells #[.int .u8 0, .int .i64 0, .string ⟨#[]⟩, .slice none 0 0, .int .i64 0] 27)).drew.trans f9
  have hb := ((((bz9.set_ 0 (.int .u8 k)).set_ 1 (.int .i64 n)).set_ 2 (.string s)).set_ 3 (.slice A l.length c)).set_ 4 (.int .i64 r)
  have hn : w8.heap.size ∉ (T.mk k n s A c l r).blocks := fun h => by
    have := T.In.blocks _ sh.inn _ h
    simp at this
    omega
  have hst : Fr (fun i => i = w8.heap.size) w9 (((((w9.setCell ⟨w8.heap.size, 0, none⟩ (.int .u8 k)).setCell ⟨w8.heap.size, 1, none⟩ (.int .i64 n)).setCell ⟨w8.heap.size, 2, none⟩ (.string s)).setCell ⟨w8.heap.size, 3, none⟩ (.slice A l.length c)).setCell ⟨w8.heap.size, 4, none⟩ (.int .i64 r)) :=
    (Fr.refl (fun i => i = w8.heap.size) w9).five (g := w8.heap.size) (fun _ => rfl) 0 _ _ _ _ _
  exact ⟨_, T.mk k n s A c l r, rfl, rfl, hb, hv, (sh.fr hst (fun b hb h => hn (h ▸ hb))).more (by simp) hst.size, Nat.le_refl _, hn, f9'.trans' hst fun i hi h => by omega⟩

/-- What a region leaves that lays an answer into an old box. -/
structure Rd (wa wx : World) (x : V) (g : Nat) (tt : T) : Prop where
  b : Blk wx g 27 tt.cells.toArray
  v : tt.v = x
  sh : tt.Sh wx wa.heap.size wx.heap.size
  f : Fr (fun i => i = g) wa wx

theorem rd_old {wa w9 : World} {g : Nat} {c0 c1 c2 c3 c4 : Value} {k n : Int} {s : ByteArray} {A : Option Addr} {c : Nat} {l : List T} {r : Int} {x : V} (hb : Blk wa g 27 #[c0, c1, c2, c3, c4]) (f9 : Fr No wa.drew w9) (hv : (T.mk k n s A c l r).v = x) (sh : (T.mk k n s A c l r).Sh w9 wa.drew.heap.size w9.heap.size) :
    Rd wa (five w9 g 0 k n s A l.length c r) x g (T.mk k n s A c l r) := by
  have f9' : Fr No wa w9 := (Fr.refl No wa).drew.trans f9
  have hst := five_fr w9 g 0 k n s A l.length c r
  have hg := hb.lt
  refine ⟨(sets5v w9 g 27 c0 c1 c2 c3 c4 _ _ _ _ _ (hb.fr f9' fun h => h)).1, hv, ((sh.fr hst fun b hb h => ?_)).more (Nat.le_refl _) hst.size, (f9'.no (S := fun i => i = g)).trans hst⟩
  have h' : b = g := h
  have := T.In.blocks _ sh.inn _ hb
  simp at this
  omega

theorem at_may (p : List Int) : ∀ v y, vAt p v = some y → v.may = true → y.may = true := by
  induction p with
  | nil => intro v y h hm; simp [vAt] at h; subst h; exact hm
  | cons i p ih =>
    intro v y h hm
    rw [vAt_cons] at h
    split at h
    · cases h
    · obtain ⟨x, hx, h2⟩ := Option.bind_eq_some_iff.1 h
      refine ih x y h2 ?_
      obtain ⟨k, n, s, l, r⟩ := v
      have hmem : x ∈ l := List.mem_of_getElem? hx
      simp only [V.may, V.fits, Bool.and_eq_true, decide_eq_true_eq, V.ok_mk, V.size_mk, V.dep_mk] at hm ⊢
      obtain ⟨⟨⟨h0, h1⟩, h3⟩, h4⟩ := hm
      have hok := List.all_eq_true.1 h1 x hmem
      have hsz : x.size ≤ (l.map V.size).sum := by
        clear h0 h1 h3 h4 hx h
        induction l with
        | nil => cases hmem
        | cons z l ih2 =>
          simp only [List.map_cons, List.sum_cons]
          rcases List.mem_cons.1 hmem with rfl | hm
          · omega
          · have := ih2 hm; omega
      have hk : k = 3 := by
        apply Classical.byContradiction
        intro hk
        have := fok_len hk h0
        rw [List.eq_nil_of_length_eq_zero this] at hmem
        cases hmem
      subst hk
      have hd : x.dep ≤ top (l.map V.dep) := le_top (List.mem_map_of_mem hmem)
      simp at h4
      exact ⟨⟨hok, by omega⟩, by omega⟩

theorem atOf_may (v : V) (p : List Int) : (atOf v p).1.may = true := by
  unfold atOf
  split
  · rename_i h
    cases hy : vAt p v with
    | none => exact vzero_may
    | some y => exact at_may p v y hy h
  · exact vzero_may

theorem withOf_may (v x : V) (p : List Int) : (withOf v x p).1.may = true := by
  unfold withOf
  split
  · split
    · split
      · assumption
      · exact vzero_may
    · exact vzero_may
  · exact vzero_may

end Go.Proofs.Ytihjmipmjogpoaa

/- Texts joined: P14, P3, A2, B6. -/
import Derived.Test.YtihjmipmjogpoaaJn8
import Derived.Maps.OwnSet
import Derived.Deep.RegionHeld3
import Derived.Deep.QuietTactic
import Derived.BigQuiet
import Derived.IntWalk
/- Chapter 2: value.Rename. -/
namespace Go.Proofs.Ytihjmipmjogpoaa
open Go.RowKit Go.Maps Go.ChangeMaps

theorem low_any (r : Int) (w : World) : Calls Try.prog 128 #[.int .i64 r] w fun e w' => e = .returned (.bool (decide (r < 1))) ∧ w' = w := by
  go_enter Try.func128, Try.ntmps128
  go_wp2
  go_ret
  exact ⟨rfl, rfl⟩

set_option maxRecDepth 100000 in
set_option maxHeartbeats 2000000 in
theorem indexLow_any (A : Option Addr) (cap : Nat) (L : List Int) (w : World) (lo hi : Nat) (h : Ints w lo hi A cap L) (hh : hi ≤ w.heap.size) :
    Calls Try.prog 138 #[.slice A L.length cap, .func (.func 128) #[] #[]] w fun e w' => (∃ z : Int, e = .returned (.int .i64 z) ∧ ((0 ≤ z ∧ L.all (fun r => decide (1 ≤ r)) = false) ∨ (z = -1 ∧ L.all (fun r => decide (1 ≤ r)) = true))) ∧ Fr No w w' := by
  have hB := low_any
  have hlen := h.len
  go_enter Try.func138, Try.ntmps138
  go_wp2_with fail
  go_loopw [8] (fun i wr => ∃ j : Nat, j ≤ L.length ∧ i = .int .i64 j ∧ Fr No w wr ∧ ∀ r ∈ L.take j, 1 ≤ r) (fun i _ => L.length - (intOf i).toNat)
  case atStart => exact ⟨0, Nat.zero_le _, rfl, Fr.refl _ _, by simp⟩
  case round =>
    obtain ⟨j, hj, rfl, fr, hall⟩ := hrel
    have HA := hide hall
    have hsz := fr.size
    clear hall
    by_cases hlt : j < L.length
    · obtain ⟨b, o, rfl, hb0, hb1, hcj⟩ := (h.no fr hh).elem hlt
      have g0 : b < wr.heap.size := by omega
      have hmem := List.getElem_mem hlt
      have htk : L.take (j + 1) = L.take j ++ [L[j]] := List.take_succ_eq_append_getElem hlt
      generalize L[j] = x at *
      have HM := hide hmem
      have HT := hide htk
      have HF := hide fr
      clear hmem htk fr h
      by_cases hx : x < 1
      · have hd : decide (x < (1 : Int)) = true := by simpa using hx
        have hB1 := hB x wr
        rw [hd] at hB1
        have hno : L.all (fun r => decide (1 ≤ r)) = false := by
          rw [Bool.eq_false_iff]
          intro h
          have := List.all_eq_true.1 h x HM.out
          simp at this
          omega
        have HN := hide hno
        clear hd hB hno
        go_wp2_with fail
        refine hB1.mono ?_
        rintro e w' ⟨rfl, rfl⟩
        go_wp2
        go_ret
        exact ⟨⟨_, rfl, .inl ⟨by omega, HN.out⟩⟩, HF.out⟩
      · have hd : decide (x < (1 : Int)) = false := by simpa using hx
        have hB1 := hB x wr
        rw [hd] at hB1
        clear hd hB
        go_wp2_with fail
        refine hB1.mono ?_
        rintro e w' ⟨rfl, rfl⟩
        go_wp2
        go_roundw
        case rel =>
          refine ⟨j + 1, hlt, by go_num, HF.out, fun r hr => ?_⟩
          rw [HT.out] at hr
          rcases List.mem_append.1 hr with hr | hr
          · exact HA.out r hr
          · simp at hr; subst hr; omega
        case measure => simp [intOf]; omega
    · obtain rfl : j = L.length := by omega
      have HF := hide fr
      have hyes : L.all (fun r => decide (1 ≤ r)) = true := List.all_eq_true.2 fun r hr => by simpa using HA.out r (by rw [List.take_of_length_le (Nat.le_refl _)]; exact hr)
      have HY := hide hyes
      clear fr h hyes
      go_wp2
      go_ret
      exact ⟨⟨-1, rfl, .inr ⟨rfl, HY.out⟩⟩, HF.out⟩

theorem containsLow_any (A : Option Addr) (cap : Nat) (L : List Int) (w : World) (lo hi : Nat) (h : Ints w lo hi A cap L) (hh : hi ≤ w.heap.size) :
    Calls Try.prog 111 #[.slice A L.length cap, .func (.func 128) #[] #[]] w fun e w' => e = .returned (.bool (!L.all fun r => decide (1 ≤ r))) ∧ Fr No w w' := by
  have hI := indexLow_any A cap L w lo hi h hh
  generalize (L.all fun r => decide (1 ≤ r)) = q at *
  clear h
  go_enter Try.func111, Try.ntmps111
  go_wp2_with fail
  refine hI.mono ?_
  rintro e w2 ⟨⟨z, rfl, hz⟩, fr2⟩
  rcases hz with ⟨h0, rfl⟩ | ⟨rfl, rfl⟩
  · have h1 : decide ((0 : Int) ≤ z) = true := by simpa using h0
    go_wp2
    go_ret
    exact ⟨rfl, fr2⟩
  · go_wp2
    go_ret
    exact ⟨rfl, fr2⟩

theorem nm_snoc : ∀ (fs ts : List Int), fs.length = ts.length → ∀ (f t r : Int), nmOf (fs ++ [f]) (ts ++ [t]) r = (nmOf fs ts r).or (if f = r then some t else none)
  | [], [], _, f, t, r => by simp [nmOf]
  | [], _ :: _, h, _, _, _ => by simp at h
  | _ :: _, [], h, _, _, _ => by simp at h
  | f0 :: fs, t0 :: ts, h, f, t, r => by
    simp only [List.cons_append, nmOf]
    split
    · rfl
    · exact nm_snoc fs ts (by simpa using h) f t r

/-- The map of the first so many names. -/
def NamesTo (w : World) (b n : Nat) (f : Int → Option Int) : Prop :=
  ∃ D : DataW Unit, w.ownsMap Try.prog 25 (plainElem Try.prog 25) b n D ∧ ∀ r : Int, -9223372036854775808 ≤ r → r ≤ 9223372036854775807 → Maps.has D (.int .i64 r) = (f r).isSome ∧ D.atKey (.int .i64 r) (.lit (.int .i64 0)) = .lit (.int .i64 ((f r).getD 0))

theorem NamesTo.names {w : World} {b n : Nat} {f : Int → Option Int} (h : NamesTo w b n f) : Names w b f := by
  obtain ⟨D, h1, h2⟩ := h
  exact ⟨n, D, h1, h2⟩

theorem lit_ne {a b : Int} (h : a ≠ b) : Lit.int .i64 a ≠ Lit.int .i64 b := fun e => by injection e with _ e; exact h e

theorem keylit (a : Int) (h0 : -9223372036854775808 ≤ a) (h1 : a ≤ 9223372036854775807) : WideAt.IsKeyLit (Lit.int .i64 a) := keyed25.key (v := .int .i64 a) (keyOf_int_mk Try.underlying25 (wf64 h0 h1))

theorem make167 (n : Int) (w : World) : (Instr.makeMap 167 (some (.int .i64 n))).run Try.prog w = .ok (.map (some w.heap.size)) (w.alloc (.map #[] 0)) := by kernel_rfl

/-- What Rename answers. -/
def renV (v : V) (fs ts : List Int) : V × Int :=
  if (v.may && (decide (fs.length = ts.length) && ((fs.all fun r => decide (1 ≤ r)) && (ts.all fun r => decide (1 ≤ r))))) = true then
    (if v.named (nmOf fs ts) = true then (v.ren (nmOf fs ts), 0) else (V.zero, 21)) else (V.zero, 2)

set_option maxRecDepth 100000 in
set_option maxHeartbeats 8000000 in
theorem Rename_any (t : T) (w : World) (lo hi : Nat) (ht : t.In w lo hi) (hh : hi ≤ w.heap.size) (Af At : Option Addr) (cf ct : Nat) (fs ts : List Int) (lf hf lt ht' : Nat) (pf : Ints w lf hf Af cf fs) (hhf : hf ≤ w.heap.size) (pt : Ints w lt ht' At ct ts) (hht : ht' ≤ w.heap.size) :
    Calls Try.prog 72 #[t.val, .slice Af fs.length cf, .slice At ts.length ct] w (OwnE2 (renV t.v fs ts).1 (renV t.v fs ts).2 w) := by
  have hM := fun w' h h' => may_any t w' lo hi h h'
  have hO := fun w' h h' => own2_any t w' lo hi h h'
  have hlf := pf.len
  have hlt := pt.len
  cases t with
  | mk k n s A cap l r =>
    rw [T.val_mk] at *
    generalize hu : (T.mk k n s A cap l r).v = u at *
    have fr0 := ((Fr.refl No w).alloc (.cells #[.int .u8 k, .int .i64 n, .string s, .slice A l.length cap, .int .i64 r] 27)).alloc (.cells #[.int .u8 0, .int .i64 0, .string ⟨#[]⟩, .slice none 0 0, .int .i64 0] 27)
    have bv0 := (Blk.new w 27 #[.int .u8 k, .int .i64 n, .string s, .slice A l.length cap, .int .i64 r]).alloc (.cells #[.int .u8 0, .int .i64 0, .string ⟨#[]⟩, .slice none 0 0, .int .i64 0] 27)
    have bz0 := Blk.new' (w.alloc (.cells #[.int .u8 k, .int .i64 n, .string s, .slice A l.length cap, .int .i64 r] 27)) 27 #[.int .u8 0, .int .i64 0, .string ⟨#[]⟩, .slice none 0 0, .int .i64 0] (g := w.heap.size + 1) (by simp)
    have ht0 := ht.no fr0 hh
    have pf0 := pf.no fr0 hhf
    have pt0 := pt.no fr0 hht
    have hs0 : w.heap.size + 2 ≤ ((w.alloc (.cells #[.int .u8 k, .int .i64 n, .string s, .slice A l.length cap, .int .i64 r] 27)).alloc (.cells #[.int .u8 0, .int .i64 0, .string ⟨#[]⟩, .slice none 0 0, .int .i64 0] 27)).heap.size := by simp
    have HU := hide hu
    clear hu ht pf pt
    cases hm : u.may with
    | false =>
      have e1 : renV u fs ts = (V.zero, 2) := by simp [renV, hm]
      rw [e1]
      rw [hm] at hM
      clear hm e1 hO
      go_enter Try.func72, Try.ntmps72
      go_wp2_with fail
      generalize World.alloc (World.alloc w _) _ = w0 at *
      refine (hM w0 ht0 (by omega)).mono ?_
      rintro e w2 ⟨rfl, f2⟩
      have bz2 := bz0.fr f2 fun h => h
      obtain ⟨d0, d1, d2, d3, d4, df⟩ := bz2.cells5
      have q0 := bz2.lt
      have HF := hide (fr0.trans f2)
      clear hM ht0 bz0 bv0 fr0 f2 bz2 pf0 pt0
      go_wp2
      refine bodyPost_ret (v := .tuple #[.agg #[.int .u8 0, .int .i64 0, .string ⟨#[]⟩, .slice none 0 0, .int .i64 0], .int .i64 2]) (by simp [results, Try.results72, go_sem, *]) rfl ?_
      have hF2 := HF.out
      refine ⟨T.zero, rfl, T.zero_v, T.zero_sh _ _ _, ?_⟩
      repeat (first | with_reducible exact hF2 | with_reducible refine Fr.setNew ?_ (by first | (simp; done) | (simp; omega)) _)
    | true =>
      rw [hm] at hM
      by_cases hln : fs.length = ts.length
      case neg =>
        have e1 : renV u fs ts = (V.zero, 2) := by simp [renV, hln]
        have hl1 : ((fs.length : Int) != (ts.length : Int)) = true := by simp; omega
        rw [e1]
        clear hm e1 hO hln
        go_enter Try.func72, Try.ntmps72
        go_wp2_with fail
        generalize World.alloc (World.alloc w _) _ = w0 at *
        refine (hM w0 ht0 (by omega)).mono ?_
        rintro e w2 ⟨rfl, f2⟩
        have bz2 := bz0.fr f2 fun h => h
        obtain ⟨d0, d1, d2, d3, d4, df⟩ := bz2.cells5
        have q0 := bz2.lt
        have HF := hide (fr0.trans f2)
        clear hM ht0 bz0 bv0 fr0 f2 bz2 pf0 pt0
        go_wp2
        refine bodyPost_ret (v := .tuple #[.agg #[.int .u8 0, .int .i64 0, .string ⟨#[]⟩, .slice none 0 0, .int .i64 0], .int .i64 2]) (by simp [results, Try.results72, go_sem, *]) rfl ?_
        have hF2 := HF.out
        refine ⟨T.zero, rfl, T.zero_v, T.zero_sh _ _ _, ?_⟩
        repeat (first | with_reducible exact hF2 | with_reducible refine Fr.setNew ?_ (by first | (simp; done) | (simp; omega)) _)
      have hl1 : ((fs.length : Int) != (ts.length : Int)) = false := by simp; omega
      have HLN := hide hln
      clear hln
      cases hfa : (fs.all fun r => decide (1 ≤ r)) with
      | false =>
        have e1 : renV u fs ts = (V.zero, 2) := by simp [renV, hfa]
        have hcf := fun w' h h' => containsLow_any Af cf fs w' lf hf h h'
        rw [hfa] at hcf
        rw [e1]
        clear hm e1 hO hfa
        go_enter Try.func72, Try.ntmps72
        go_wp2_with fail
        generalize World.alloc (World.alloc w _) _ = w0 at *
        refine (hM w0 ht0 (by omega)).mono ?_
        rintro e w2 ⟨rfl, f2⟩
        have bz2 := bz0.fr f2 fun h => h
        have pf2 := pf0.no f2 (by omega)
        have HF := hide (fr0.trans f2)
        have hs2 := f2.size
        clear hM ht0 bz0 bv0 fr0 f2 pf0 pt0
        go_wp2_with fail
        refine (hcf w2 pf2 (by omega)).mono ?_
        rintro e w3 ⟨rfl, f3⟩
        have bz3 := bz2.fr f3 fun h => h
        obtain ⟨d0, d1, d2, d3, d4, df⟩ := bz3.cells5
        have q0 := bz3.lt
        have HF3 := hide (HF.out.trans f3)
        clear hcf bz2 f3 bz3 pf2
        go_wp2
        refine bodyPost_ret (v := .tuple #[.agg #[.int .u8 0, .int .i64 0, .string ⟨#[]⟩, .slice none 0 0, .int .i64 0], .int .i64 2]) (by simp [results, Try.results72, go_sem, *]) rfl ?_
        have hF2 := HF3.out
        refine ⟨T.zero, rfl, T.zero_v, T.zero_sh _ _ _, ?_⟩
        repeat (first | with_reducible exact hF2 | with_reducible refine Fr.setNew ?_ (by first | (simp; done) | (simp; omega)) _)
      | true =>
      have hcf := fun w' h h' => containsLow_any Af cf fs w' lf hf h h'
      have hct := fun w' h h' => containsLow_any At ct ts w' lt ht' h h'
      rw [hfa] at hcf
      cases hta : (ts.all fun r => decide (1 ≤ r)) with
      | false =>
        have e1 : renV u fs ts = (V.zero, 2) := by simp [renV, hta]
        rw [hta] at hct
        rw [e1]
        clear hm e1 hO hfa hta
        go_enter Try.func72, Try.ntmps72
        go_wp2_with fail
        generalize World.alloc (World.alloc w _) _ = w0 at *
        refine (hM w0 ht0 (by omega)).mono ?_
        rintro e w2 ⟨rfl, f2⟩
        have bz2 := bz0.fr f2 fun h => h
        have pf2 := pf0.no f2 (by omega)
        have pt2 := pt0.no f2 (by omega)
        have HF := hide (fr0.trans f2)
        have hs2 := f2.size
        clear hM ht0 bz0 bv0 fr0 f2 pf0 pt0
        go_wp2_with fail
        refine (hcf w2 pf2 (by omega)).mono ?_
        rintro e w3 ⟨rfl, f3⟩
        have bz3 := bz2.fr f3 fun h => h
        have pt3 := pt2.no f3 (by omega)
        have HF3 := hide (HF.out.trans f3)
        have hs3 := f3.size
        clear hcf bz2 f3 pf2 pt2
        go_wp2_with fail
        refine (hct w3 pt3 (by omega)).mono ?_
        rintro e w4 ⟨rfl, f4⟩
        have bz4 := bz3.fr f4 fun h => h
        obtain ⟨d0, d1, d2, d3, d4, df⟩ := bz4.cells5
        have q0 := bz4.lt
        have HF4 := hide (HF3.out.trans f4)
        clear hct bz3 f4 bz4 pt3
        go_wp2
        refine bodyPost_ret (v := .tuple #[.agg #[.int .u8 0, .int .i64 0, .string ⟨#[]⟩, .slice none 0 0, .int .i64 0], .int .i64 2]) (by simp [results, Try.results72, go_sem, *]) rfl ?_
        have hF2 := HF4.out
        refine ⟨T.zero, rfl, T.zero_v, T.zero_sh _ _ _, ?_⟩
        repeat (first | with_reducible exact hF2 | with_reducible refine Fr.setNew ?_ (by first | (simp; done) | (simp; omega)) _)
      | true =>
      rw [hta] at hct
      have e1 : renV u fs ts = if u.named (nmOf fs ts) = true then (u.ren (nmOf fs ts), 0) else (V.zero, 21) := by
        unfold renV
        rw [hm, hfa, hta, decide_eq_true HLN.out]
        rfl
      have E1 := hide e1
      clear e1
      generalize renV u fs ts = rv at *
      clear hm hfa hta
      have hmm := make167
      go_enter Try.func72, Try.ntmps72
      go_wp2_with fail
      generalize World.alloc (World.alloc w _) _ = w0 at *
      refine (hM w0 ht0 (by omega)).mono ?_
      rintro e w2 ⟨rfl, f2⟩
      have bz2 := bz0.fr f2 fun h => h
      have bv2 := bv0.fr f2 fun h => h
      have ht2 := ht0.no f2 (by omega)
      have pf2 := pf0.no f2 (by omega)
      have pt2 := pt0.no f2 (by omega)
      have HF := hide (fr0.trans f2)
      have hs2 := f2.size
      clear hM ht0 bz0 bv0 fr0 f2 pf0 pt0
      go_wp2_with fail
      refine (hcf w2 pf2 (by omega)).mono ?_
      rintro e w3 ⟨rfl, f3⟩
      have bz3 := bz2.fr f3 fun h => h
      have bv3 := bv2.fr f3 fun h => h
      have ht3 := ht2.no f3 (by omega)
      have pf3 := pf2.no f3 (by omega)
      have pt3 := pt2.no f3 (by omega)
      have HF3 := hide (HF.out.trans f3)
      have hs3 := f3.size
      clear hcf bz2 bv2 ht2 f3 pf2 pt2 HF
      go_wp2_with fail
      refine (hct w3 pt3 (by omega)).mono ?_
      rintro e w4 ⟨rfl, f4⟩
      have bz4 := bz3.fr f4 fun h => h
      have bv4 := bv3.fr f4 fun h => h
      have ht4 := ht3.no f4 (by omega)
      have pf4 := pf3.no f4 (by omega)
      have pt4 := pt3.no f4 (by omega)
      have HF4 := hide (HF3.out.trans f4)
      have hs4 := f4.size
      clear hct bz3 bv3 ht3 f4 pf3 pt3 HF3
      go_wp2_with fail
      have hst : NamesTo (w4.alloc (.map #[] 0)) w4.heap.size 0 (nmOf [] []) := ⟨.map [], World.ownsMap_made _ _ _ _, fun r _ _ => ⟨rfl, rfl⟩⟩
      have HST := hide hst
      clear hst
      go_loopw [10, 11, 12, 13, 41] (fun _ _ _ _ i wr => ∃ j : Nat, j ≤ fs.length ∧ i = .int .i64 j ∧ Fr No w4 wr ∧ NamesTo wr w4.heap.size j (nmOf (fs.take j) (ts.take j))) (fun _ _ _ _ i _ => fs.length - (intOf i).toNat)
      case atStart => exact ⟨0, Nat.zero_le _, rfl, (Fr.refl No w4).alloc _, by simpa using HST.out⟩
      case round =>
        obtain ⟨j, hj, rfl, fr, nms⟩ := hrel
        have hsz := fr.size
        by_cases hlt : j < fs.length
        · have hlt' : j < ts.length := by have := HLN.out; omega
          obtain ⟨b, o, rfl, hb0, hb1, hcf⟩ := (pf4.no fr (by omega)).elem hlt
          obtain ⟨b', o', rfl, hb0', hb1', hct⟩ := (pt4.no fr (by omega)).elem hlt'
          have g0 : b < wr.heap.size := by omega
          have g1 : b' < wr.heap.size := by omega
          have hrf := pf4.rng _ (List.getElem_mem hlt)
          have hrt := pt4.rng _ (List.getElem_mem hlt')
          have htkf : fs.take (j + 1) = fs.take j ++ [fs[j]] := List.take_succ_eq_append_getElem hlt
          have htkt : ts.take (j + 1) = ts.take j ++ [ts[j]] := List.take_succ_eq_append_getElem hlt'
          have hsn := nm_snoc (fs.take j) (ts.take j) (by simp; omega) fs[j] ts[j]
          generalize fs[j] = x at *
          generalize ts[j] = y at *
          obtain ⟨D, hown, hlook⟩ := nms
          obtain ⟨hl1, hl2⟩ := hlook x hrf.1 hrf.2
          have hkey : keyOf Try.prog 25 (.int .i64 x) = some (.int .i64 x) := keyOf_int_mk Try.underlying25 (wf64 hrf.1 hrf.2)
          have hsn' : ∀ r, nmOf (fs.take (j + 1)) (ts.take (j + 1)) r = (nmOf (fs.take j) (ts.take j) r).or (if x = r then some y else none) := fun r => by rw [htkf, htkt]; exact hsn r
          cases hm : Maps.has D (Lit.int .i64 x) with
          | true =>
            have hnx : NamesTo wr w4.heap.size (j + 1) (nmOf (fs.take (j + 1)) (ts.take (j + 1))) := by
              refine ⟨D, hown.mono (by omega), fun r h0 h1 => ?_⟩
              obtain ⟨q1, q2⟩ := hlook r h0 h1
              have e : nmOf (fs.take (j + 1)) (ts.take (j + 1)) r = nmOf (fs.take j) (ts.take j) r := by
                rw [hsn' r]
                by_cases hxr : x = r
                · subst hxr
                  rw [hm] at hl1
                  cases hq : nmOf (fs.take j) (ts.take j) x with
                  | none => rw [hq] at hl1; cases hl1
                  | some z => rfl
                · rw [if_neg hxr]; cases nmOf (fs.take j) (ts.take j) r <;> rfl
              rw [e]
              exact ⟨q1, q2⟩
            have HN := hide hnx
            have HF := hide fr
            clear hnx fr htkf htkt hsn hsn' hlook hl1 hl2 HST
            go_wp2_with (at_lookup; refine wpList_lookup_own_ok_int _ rfl _ _ 167 rfl 25 25 .i64 keyed25 Try.underlying167 Try.underlying25 (zero25 _) w4.heap.size j D rfl hown _ _ rfl hkey ?_; intro c _ _)
            go_roundw
            case rel => exact ⟨j + 1, hlt, by go_num, HF.out, HN.out⟩
            case measure => simp [intOf]; omega
          | false =>
            have hnx : ∀ w', w'.ownsMap Try.prog 25 (plainElem Try.prog 25) w4.heap.size (j + 1) (D.put (.int .i64 x) (.lit (.int .i64 y))) → NamesTo w' w4.heap.size (j + 1) (nmOf (fs.take (j + 1)) (ts.take (j + 1))) := fun w' ho => by
              refine ⟨_, ho, fun r h0 h1 => ?_⟩
              obtain ⟨q1, q2⟩ := hlook r h0 h1
              by_cases hxr : x = r
              · subst hxr
                rw [hm] at hl1
                have hno : nmOf (fs.take j) (ts.take j) x = none := by
                  cases hq : nmOf (fs.take j) (ts.take j) x with
                  | none => rfl
                  | some z => rw [hq] at hl1; cases hl1
                rw [hsn' x, hno, if_pos rfl]
                exact ⟨has_put_same (World.ownsMap.isMap hown) (keylit _ h0 h1) _, by rw [atKey_put_same (World.ownsMap.isMap hown) (keylit _ h0 h1)]; rfl⟩
              · have e : nmOf (fs.take (j + 1)) (ts.take (j + 1)) r = nmOf (fs.take j) (ts.take j) r := by
                  rw [hsn' r, if_neg hxr]; cases nmOf (fs.take j) (ts.take j) r <;> rfl
                rw [e, has_put_other (lit_ne fun h => hxr h.symm), atKey_put_other (lit_ne fun h => hxr h.symm)]
                exact ⟨q1, q2⟩
            have HN := hide hnx
            have HF := hide fr
            have hpl : plainElem (H := Unit) Try.prog 25 (.int .i64 y) = some (.lit (.int .i64 y), []) := plainElem_int Try.underlying25 (wf64 hrt.1 hrt.2)
            clear hnx fr htkf htkt hsn hsn' hlook hl1 hl2 HST
            go_wp2_with (first
              | (at_lookup; refine wpList_lookup_own_ok_int _ rfl _ _ 167 rfl 25 25 .i64 keyed25 Try.underlying167 Try.underlying25 (zero25 _) w4.heap.size j D rfl hown _ _ rfl hkey ?_; intro c _ _)
              | (at_mapUpdate; refine wpList_mapUpdate_own _ rfl _ _ _ 167 rfl 25 25 keyed25 Try.underlying167 _ w4.heap.size j D rfl hown (by unfold maxLen; omega) _ _ _ rfl rfl hkey _ [] hpl ?_; intro w1 hown1 hgrow1; have HO1 := hide hown1; have HG1 := hide hgrow1; clear hown1 hgrow1))
            go_roundw
            case rel => exact ⟨j + 1, hlt, by go_num, HF.out.trans' (fr_grown HG1.out) (fun i hi h => by injection h with h; omega), HN.out _ HO1.out⟩
            case measure => simp [intOf]; omega
        · obtain rfl : fs.length = j := by omega
          rw [List.take_of_length_le (Nat.le_refl _), List.take_of_length_le (by have := HLN.out; omega)] at nms
          have bz5 := bz4.fr fr fun h => h
          have bv5 := bv4.fr fr fun h => h
          have ht5 := ht4.no fr (by omega)
          have HF5 := hide (HF4.out.trans fr)
          have HN5 := hide nms.names
          have hml := nms.names.lt
          obtain ⟨c0, c1, c2, c3, c4, -⟩ := bv5.cells5
          have q0 := bv5.lt
          have HB5 := hide bz5
          clear nms bz4 bv4 ht4 fr pf4 pt4 HST HF4 bz5 bv5
          generalize w4.heap.size = mb at *
          go_wp2_with fail
          refine (hO wr ht5 (by omega)).mono ?_
          rintro e w6 ⟨⟨k6, n6, s6, A6, c6, l6, r6⟩, rfl, hv6, hsh6, f6⟩
          rw [T.val_mk]
          have hs6 := f6.size
          have f7 := f6.alloc (.cells #[.int .u8 k6, .int .i64 n6, .string s6, .slice A6 l6.length c6, .int .i64 r6] 27)
          have f67 := (Fr.refl No w6).alloc (.cells #[.int .u8 k6, .int .i64 n6, .string s6, .slice A6 l6.length c6, .int .i64 r6] 27)
          have bo7 := Blk.new w6 27 #[.int .u8 k6, .int .i64 n6, .string s6, .slice A6 l6.length c6, .int .i64 r6]
          have hsh7 := hsh6.no f67
          have HN7 := hide (HN5.out.fr f7 fun h => h)
          have HB7 := hide (HB5.out.fr f7 fun h => h)
          have HF7 := hide (HF5.out.trans f7)
          have hbl : ∀ i ∈ (T.mk k6 n6 s6 A6 c6 l6 r6).blocks, wr.heap.size ≤ i ∧ i < w6.heap.size := fun i hi => T.In.blocks _ hsh6.inn i hi
          have hren := rename_any (nmOf fs ts) mb (T.mk k6 n6 s6 A6 c6 l6 r6) w6.heap.size 0 wr.heap.size w6.heap.size _ (fun j u hu => by rw [Nat.zero_add, bo7.cell]; simpa [T.cells_mk] using hu) (fun i => bo7.frozen i) bo7.lt hsh7.sp hsh7.nodup (fun h => by have := hbl _ h; omega) (by simp) HN7.out (by omega) (fun h => by have := hbl _ h; omega)
          have HR := hide hren
          have HBL := hide hbl
          have HV6 := hide hv6
          have HBO := hide bo7
          have HND := hide hsh7.nodup
          clear hren hbl hv6 hsh6 hsh7 f6 f7 f67 bo7 HN5 HB5 HF5 ht5 hO c0 c1 c2 c3 c4 q0
          go_wp2_with fail
          generalize World.alloc w6 _ = w7 at *
          refine HR.out.mono ?_
          rintro e w8 hq
          have he := hq.e
          subst he
          rw [HV6.out]
          have hs8 := hq.fr.size
          have hgt : ∀ i, (i = w6.heap.size ∨ i ∈ (T.mk k6 n6 s6 A6 c6 l6 r6).blocks) → w.heap.size + 2 ≤ i := fun i h => by
            rcases h with h | h
            · omega
            · have := HBL.out i h; omega
          have hF8 : Fr No w w8 := HF7.out.trans' hq.fr fun i hi h => by have := hgt i h; omega
          have bz8 := HB7.out.fr hq.fr (fun h => by have := hgt _ h; omega)
          have HF8 := hide hF8
          have HB8 := hide bz8
          have hz8 := bz8.lt
          cases hn : u.named (nmOf fs ts) with
          | false =>
            obtain ⟨d0, d1, d2, d3, d4, df⟩ := bz8.cells5
            have e2 : rv = (V.zero, 21) := by rw [E1.out, hn]; rfl
            have E2 := hide e2
            clear e2 hn hq bz8 hF8 hgt
            go_wp2
            refine bodyPost_ret (v := .tuple #[.agg #[.int .u8 0, .int .i64 0, .string ⟨#[]⟩, .slice none 0 0, .int .i64 0], .int .i64 21]) (by simp [results, Try.results72, go_sem, *]) rfl ?_
            have hF2 := HF8.out
            rw [E2.out]
            refine ⟨T.zero, rfl, T.zero_v, T.zero_sh _ _ _, ?_⟩
            repeat (first | with_reducible exact hF2 | with_reducible refine Fr.setNew ?_ (by first | (simp; done) | (simp; omega)) _)
          | true =>
            have e2 : rv = (u.ren (nmOf fs ts), 0) := by rw [E1.out, hn]; rfl
            have hsp8 := hq.sp (by rw [HV6.out]; exact hn)
            obtain ⟨h4, h5⟩ := hq.one k6 n6 s6 A6 c6 l6 r6 rfl (by rw [HV6.out]; exact hn)
            obtain ⟨L', r'', hx, hL'⟩ : ∃ L' r'', (T.mk k6 n6 s6 A6 c6 l6 r6).ren (nmOf fs ts) = T.mk k6 n6 s6 A6 c6 L' r'' ∧ L'.length = l6.length := by
              rw [T.ren_mk]
              split
              · exact ⟨_, _, rfl, rfl⟩
              · exact ⟨_, _, rfl, by simp⟩
            have hcc := T.ren_cells (nmOf fs ts) k6 n6 s6 A6 c6 l6 r6
            rw [hx, T.cells_mk] at hcc
            simp only [List.cons.injEq, true_and, and_true] at hcc
            have hr'' := hcc.2
            clear hcc
            simp only [Value.int.injEq, true_and] at hr''
            have bo8 : Blk w8 w6.heap.size 27 #[.int .u8 k6, .int .i64 n6, .string s6, .slice A6 l6.length c6, .int .i64 r''] := by
              rw [hr'']
              by_cases hk : k6 = 4
              · rw [h4 hk, if_pos hk]
                have := HBO.out.set_ (0 + 4) (.int .i64 ((nmOf fs ts r6).getD 0))
                simpa using this
              · rw [if_neg hk]
                exact HBO.out.fr (h5 hk) fun h => by have := HBL.out _ h; omega
            have hv8 : (T.mk k6 n6 s6 A6 c6 L' r'').v = u.ren (nmOf fs ts) := by rw [← hx, T.ren_v, HV6.out]
            have hb8 : (T.mk k6 n6 s6 A6 c6 L' r'').blocks = (T.mk k6 n6 s6 A6 c6 l6 r6).blocks := by rw [← hx, T.ren_blocks]
            rw [hx] at hsp8
            obtain ⟨d0, d1, d2, d3, d4, df⟩ := bz8.cells5
            obtain ⟨c0, c1, c2, c3, c4, -⟩ := bo8.cells5
            have q0 := bo8.lt
            have E2 := hide e2
            have HSP := hide hsp8
            have HV8 := hide hv8
            have HB := hide hb8
            have HL := hide hL'
            clear e2 hn hq bz8 hF8 hgt hsp8 h4 h5 hx hr'' bo8 hv8 hb8 hL'
            go_wp2
            refine bodyPost_ret (v := .tuple #[.agg #[.int .u8 k6, .int .i64 n6, .string s6, .slice A6 l6.length c6, .int .i64 r''], .int .i64 0]) (by simp [results, Try.results72, go_sem, *]) rfl ?_
            have hF2 := HF8.out
            rw [E2.out]
            refine ⟨T.mk k6 n6 s6 A6 c6 L' r'', by rw [T.val_mk, HL.out], HV8.out, ?_, ?_⟩
            · have hsh : (T.mk k6 n6 s6 A6 c6 L' r'').Sh w8 wr.heap.size w6.heap.size := ⟨HSP.out, by rw [HB.out]; exact HND.out⟩
              refine (T.Sh.fr' (S := (· = w.heap.size + 1)) hsh ?_ (fun i h0 h1 h2 => by have h' : i = w.heap.size + 1 := h2; omega)).more (by omega) (by simp; omega)
              repeat (first | with_reducible exact Fr.refl _ w8 | with_reducible refine Fr.set ?_ (by simp) _)
            · repeat (first | with_reducible exact hF2 | with_reducible refine Fr.setNew ?_ (by first | (simp; done) | (simp; omega)) _)

end Go.Proofs.Ytihjmipmjogpoaa

/- Chapter 2: the law's own kept: is it as it was, the marks too? -/
namespace Go.Proofs.Ytihjmipmjogpoaa
open Go.RowKit

set_option maxRecDepth 100000 in
set_option maxHeartbeats 8000000 in
theorem kept_any (t : T) : ∀ (t' : T) (w : World) (lo hi lo' hi' : Nat), t.In w lo hi → hi ≤ w.heap.size → t.Mk w → t'.In w lo' hi' → hi' ≤ w.heap.size → t.v = t'.v →
    Calls Try.prog 45 #[t.val, t'.val] w fun e w' => e = .returned (.bool true) ∧ Fr No w w' := by
  induction t using T.ind with
  | h k n s A cap l r ih =>
    intro t' w lo hi lo' hi' ht hh hm ht' hh' he
    cases t' with
    | mk k' n' s' A' cap' l' r' =>
      rw [T.v_mk, T.v_mk] at he
      injection he with e1 e2 e3 e4 e5
      subst e1 e2 e3 e5
      have hl : l.length = l'.length := by simpa using congrArg List.length e4
      rw [T.val_mk, T.val_mk]
      have fr2 := ((Fr.refl No w).alloc (.cells #[.int .u8 k, .int .i64 n, .string s, .slice A l.length cap, .int .i64 r] 27)).alloc (.cells #[.int .u8 k, .int .i64 n, .string s, .slice A' l'.length cap', .int .i64 r] 27)
      have hlen := (T.in_mk.1 ht').1.len1
      rw [hl]
      rw [hl] at fr2
      have hK0 := (Blk.new' w 27 #[.int .u8 k, .int .i64 n, .string s, .slice A l'.length cap, .int .i64 r] rfl).alloc (.cells #[.int .u8 k, .int .i64 n, .string s, .slice A' l'.length cap', .int .i64 r] 27)
      have hV0 := Blk.new' (w.alloc (.cells #[.int .u8 k, .int .i64 n, .string s, .slice A l'.length cap, .int .i64 r] 27)) 27 #[.int .u8 k, .int .i64 n, .string s, .slice A' l'.length cap', .int .i64 r] (g := w.heap.size + 1) (by simp)
      have HL := hide hl
      have HE := hide e4
      clear hl e4
      by_cases h0 : l'.length = 0
      · obtain rfl : l' = [] := List.eq_nil_of_length_eq_zero h0
        clear ih ht ht' hm h0
        go_enter Try.func45, Try.ntmps45
        go_wp2
        go_ret
        exact ⟨rfl, fr2⟩
      have hl0 : ((l'.length : Int) == 0) = false := by simp; intro h; exact h0 (by rw [h]; rfl)
      have hl1 : (0 : Int) < (l'.length : Int) := by omega
      go_enter Try.func45, Try.ntmps45
      go_wp2_with fail
      go_loopw [5] (fun i wr => ∃ j : Nat, j ≤ l'.length ∧ i = .int .i64 j ∧ Fr No ((w.alloc (.cells #[.int .u8 k, .int .i64 n, .string s, .slice A l'.length cap, .int .i64 r] 27)).alloc (.cells #[.int .u8 k, .int .i64 n, .string s, .slice A' l'.length cap', .int .i64 r] 27)) wr) (fun i _ => l'.length - (intOf i).toNat)
      case atStart => exact ⟨0, Nat.zero_le _, rfl, Fr.refl _ _⟩
      case round =>
        obtain ⟨j, hj, rfl, fr⟩ := hrel
        have hK := hK0.fr fr (fun h => h)
        have hV := hV0.fr fr (fun h => h)
        have frw := fr2.trans fr
        have hszr := fr.size
        simp at hszr
        obtain ⟨c0, c1, c2, c3, c4, cf⟩ := hK.cells5
        obtain ⟨d0, d1, d2, d3, d4, df⟩ := hV.cells5
        have g2 : w.heap.size < wr.heap.size := by omega
        have g3 : w.heap.size + 1 < wr.heap.size := by omega
        have hh0 : hi ≤ wr.heap.size := by omega
        have hh1 : hi' ≤ wr.heap.size := by omega
        have htr := ht.no frw hh
        have hmr := T.Mk.no frw hh ht hm
        by_cases hlt' : j < l'.length
        · have hlt : j < l.length := by have := HL.out; omega
          obtain ⟨b, o, k1, n1, s1, A1, cap1, l1, r1, rfl, hb0, hb1, hx, hin, e0, e1, e2, e3, e4⟩ := T.elem htr hlt
          obtain ⟨b', o', k2, n2, s2, A2, cap2, l2, r2, rfl, hb0', hb1', hx', hin', f0, f1, f2, f3, f4⟩ := T.elem (ht'.no frw hh') hlt'
          have hm1 : (T.mk k1 n1 s1 A1 cap1 l1 r1).Mk wr := by rw [← hx]; exact (T.mk_mk.1 hmr).2 _ (List.getElem_mem hlt)
          have hve : (T.mk k1 n1 s1 A1 cap1 l1 r1).v = (T.mk k2 n2 s2 A2 cap2 l2 r2).v := by
            have := congrArg (fun q => q[j]?) HE.out
            simp [hlt, hlt'] at this
            rw [hx, hx'] at this
            exact this
          have IH := fun w1 (f : Fr No wr w1) => ih l[j] (List.getElem_mem hlt) (T.mk k2 n2 s2 A2 cap2 l2 r2) w1 lo hi lo' hi' (by rw [hx]; exact hin.no f hh0) (Nat.le_trans hh0 f.size) (by rw [hx]; exact T.Mk.no f hh0 hin hm1) (hin'.no f hh1) (Nat.le_trans hh1 f.size) (by rw [hx]; exact hve)
          rw [hx, T.val_mk, T.val_mk] at IH
          have HIH := hide IH
          have g0 : b < wr.heap.size := by omega
          have g1 : b' < wr.heap.size := by omega
          have HF := hide fr
          have HW := hide frw
          clear hx hx' ih hK hV fr frw ht ht' fr2 hm htr hmr hm1 hve IH hin hin' hK0 hV0
          go_wp2_with fail
          go_region_held3 (fun w' => (∀ c i, c < wr.heap.size → w'.cell? ⟨c, i, none⟩ = wr.cell? ⟨c, i, none⟩) ∧ Fr No wr w')
            (first | exact ⟨fun _ _ _ => rfl, Fr.drew (Fr.refl No wr)⟩ | (have hq : Fr No wr _ := (‹_ ∧ Fr No wr _›).2.trans ‹Fr No _ _›; exact ⟨hq.cells, hq⟩))
            (first
              | (go_at_call 45; have hs0 := (‹_ ∧ Fr No wr _›).2; ((with_reducible refine (HIH.out _ ?_).mono ?_); (exact hs0); rintro e w2 ⟨rfl, fr1⟩)))
          have HF2 := hide (‹_ ∧ Fr No wr _›).2
          go_wp2
          go_roundw
          case rel => exact ⟨j + 1, hlt', by go_num, HF.out.trans HF2.out⟩
          case measure => simp [intOf]; omega
        · obtain rfl : l'.length = j := by omega
          have hne : l ≠ [] := by rintro rfl; have := HL.out; simp at this; omega
          obtain ⟨b, o, rfl, hc, hcell⟩ := (T.mk_mk.1 hmr).1 hne
          obtain ⟨b', o', hA, hb0, hb1, -⟩ := (T.in_mk.1 htr).2.1 hne
          simp only [Option.some.injEq, Addr.mk.injEq, and_true] at hA
          obtain ⟨rfl, rfl⟩ := hA
          rw [HL.out] at hcell hc
          have hc2 : (l'.length : Int) + 1 ≤ (cap : Int) := by omega
          have g0 : b < wr.heap.size := by omega
          have HW := hide frw
          clear ih hmr htr ht ht' hm fr fr2 frw hK hV hc hne hK0 hV0
          have hw1 : IntKind.i64.wrap ((l'.length : Int) + 1) = (l'.length : Int) + 1 := IntWalk.i64_in _ (by omega)
          have hw2 : (0 : Int) ≤ (l'.length : Int) + 1 := by omega
          have hw3 : ((l'.length : Int) + 1).toNat = l'.length + 1 := by omega
          have hw4 : (l'.length : Int) < (l'.length : Int) + 1 := by omega
          go_wp2_with fail
          go_quiet (fail)
          go_wp2
          go_ret
          exact ⟨rfl, HW.out.drewN _⟩

end Go.Proofs.Ytihjmipmjogpoaa

/- Chapter 2: the law's own small: is a value small enough to be copied whole? -/
namespace Go.Proofs.Ytihjmipmjogpoaa
open Go.RowKit

/-- What small answers. -/
def smallOf (v : V) (room deep : Int) : Int := if (v.size : Int) ≤ room ∧ (v.ht : Int) ≤ deep then v.size else -1

theorem smallOf_no {v : V} {room deep : Int} (h : ¬ ((v.size : Int) ≤ room ∧ (v.ht : Int) ≤ deep)) : smallOf v room deep = -1 := if_neg h
theorem smallOf_yes {v : V} {room deep : Int} (h : (v.size : Int) ≤ room ∧ (v.ht : Int) ≤ deep) : smallOf v room deep = v.size := if_pos h

theorem sum_len (l : List V) : l.length ≤ (l.map V.size).sum := by
  induction l with
  | nil => simp
  | cons x l ih => have := x.size_pos; simp; omega

/-- A part that does not fit. -/
theorem small_stop {k n : Int} {s : ByteArray} {l : List V} {r room deep : Int} {j : Nat} (hj : j < l.length) (h : ¬ ((l[j].size : Int) ≤ room - (1 + sizeTo l j : Nat) ∧ (l[j].ht : Int) ≤ deep - 1)) : smallOf (.mk k n s l r) room deep = -1 := by
  refine smallOf_no fun ⟨h1, h2⟩ => h ⟨?_, ?_⟩
  · rw [V.size_mk] at h1
    have := sizeTo_succ l j hj
    have := sizeTo_le l (j + 1)
    omega
  · have := ht_child (k := k) (n := n) (s := s) (r := r) (List.getElem_mem hj)
    omega

theorem small_done {k n : Int} {s : ByteArray} {l : List V} {r room deep : Int} (h1 : ((1 + sizeTo l l.length : Nat) : Int) ≤ room) (h0 : 0 ≤ deep) (h2 : ∀ x ∈ l, (x.ht : Int) ≤ deep - 1) : smallOf (.mk k n s l r) room deep = ((1 + sizeTo l l.length : Nat) : Int) := by
  have e : (V.mk k n s l r).size = 1 + sizeTo l l.length := by rw [V.size_mk, sizeTo_all]
  rw [smallOf_yes ⟨by rw [e]; exact h1, ?_⟩, e]
  have : (V.mk k n s l r).ht ≤ deep.toNat := by
    rw [V.ht_mk]
    refine top1_le fun y hy => ?_
    obtain ⟨x, hx, rfl⟩ := List.mem_map.1 hy
    have := h2 x hx
    omega
  omega

set_option maxRecDepth 100000 in
set_option maxHeartbeats 4000000 in
theorem small_any (t : T) : ∀ (room deep : Int) (w : World) (lo hi : Nat), t.In w lo hi → hi ≤ w.heap.size → -10000 ≤ room → room ≤ 10000 → -1 ≤ deep → deep ≤ 100 →
    Calls Try.prog 39 #[t.val, .int .i64 room, .int .i64 deep] w fun e w' => e = .returned (.int .i64 (smallOf t.v room deep)) ∧ Fr No w w' := by
  induction t using T.ind with
  | h k n s A cap l r ih =>
    intro room deep w lo hi ht hh hr0 hr1 hd0 hd1
    rw [T.val_mk]
    have hlen := (T.in_mk.1 ht).1.len1
    have fr1 := (Fr.refl No w).alloc (.cells #[.int .u8 k, .int .i64 n, .string s, .slice A l.length cap, .int .i64 r] 27)
    have hK := Blk.new' w 27 #[.int .u8 k, .int .i64 n, .string s, .slice A l.length cap, .int .i64 r] rfl
    have hsz : (T.mk k n s A cap l r).v.size = 1 + (((l.map T.v).map V.size).sum) := by rw [T.v_mk, V.size_mk]
    have hls := sum_len (l.map T.v)
    rw [List.length_map] at hls
    by_cases hb : deep < 0 ∨ room < 1 ∨ room ≤ (l.length : Int)
    · have e : smallOf (T.mk k n s A cap l r).v room deep = -1 := smallOf_no fun ⟨h1, h2⟩ => by omega
      rw [e]
      clear ih hsz
      by_cases hb1 : deep < 0
      · go_enter Try.func39, Try.ntmps39
        go_wp2
        go_ret
        exact ⟨rfl, fr1⟩
      have hb1' : decide (deep < 0) = false := by simpa using hb1
      by_cases hb2 : room < 1
      · go_enter Try.func39, Try.ntmps39
        go_wp2
        go_ret
        exact ⟨rfl, fr1⟩
      have hb2' : decide (room < 1) = false := by simpa using hb2
      have hb3 : room ≤ (l.length : Int) := by omega
      go_enter Try.func39, Try.ntmps39
      go_wp2
      go_ret
      exact ⟨rfl, fr1⟩
    · have hb1 : decide (deep < 0) = false := by simp; omega
      have hb2 : decide (room < 1) = false := by simp; omega
      have hb3 : ¬ room ≤ (l.length : Int) := by omega
      have hd2 : 0 ≤ deep := by omega
      have hr2 : 1 ≤ room := by omega
      have HSZ := hide hsz
      clear hb hsz
      obtain ⟨c0, c1, c2, c3, c4, cf⟩ := hK.cells5
      have q0 := hK.lt
      go_enter Try.func39, Try.ntmps39
      go_wp2_with fail
      go_loopw [7, 8, 9] (fun v i _ wr => ∃ j m : Nat, j ≤ l.length ∧ i = .int .i64 (j : Int) ∧ v = .int .i64 (m : Int) ∧ m = 1 + sizeTo (l.map T.v) j ∧ (m : Int) ≤ room ∧ (∀ x ∈ (l.map T.v).take j, (x.ht : Int) ≤ deep - 1) ∧ Fr No (w.alloc (.cells #[.int .u8 k, .int .i64 n, .string s, .slice A l.length cap, .int .i64 r] 27)) wr) (fun _ i _ _ => l.length - (intOf i).toNat)
      case atStart => exact ⟨0, 1, Nat.zero_le _, rfl, rfl, by simp [sizeTo_zero], by omega, by simp, Fr.refl _ _⟩
      case round =>
        obtain ⟨j, m, hj, rfl, rfl, hm, hmr, hall, fr⟩ := hrel
        obtain ⟨d0, d1, d2, d3, d4, df⟩ := (hK.fr fr fun h => h).cells5
        have frw := fr1.trans fr
        have HM := hide hm
        have HA := hide hall
        clear hm hall c0 c1 c2 c3 c4 cf
        by_cases hlt : j < l.length
        · obtain ⟨b, o, k1, n1, s1, A1, cap1, l1, r1, rfl, hb0, hb1', hx, hin, e0, e1, e2, e3, e4⟩ := T.elem (ht.no frw hh) hlt
          have hIH := fun room deep => ih l[j] (List.getElem_mem hlt) room deep wr lo hi (by rw [hx]; exact hin) (by have := frw.size; omega)
          have hj' : j < (l.map T.v).length := by simpa using hlt
          have hxv : (l.map T.v)[j] = (T.mk k1 n1 s1 A1 cap1 l1 r1).v := by rw [List.getElem_map, hx]
          have hto := sizeTo_succ (l.map T.v) j hj'
          have hst := fun h => small_stop (k := k) (n := n) (s := s) (r := r) (room := room) (deep := deep) hj' h
          rw [hxv] at hto hst
          rw [hx, T.val_mk] at hIH
          generalize (T.mk k1 n1 s1 A1 cap1 l1 r1).v = u at *
          have g0 : b < wr.heap.size := by have := frw.size; omega
          have hle : m ≤ 10000 := by omega
          have HF := hide fr
          have HW := hide frw
          have hup := u.size_pos
          by_cases hfit : (u.size : Int) ≤ room - (m : Int) ∧ (u.ht : Int) ≤ deep - 1
          · have hc := hIH (room - (m : Int)) (deep - 1) (by omega) (by omega) (by omega) (by omega)
            rw [smallOf_yes hfit] at hc
            have HC := hide hc
            have HT := hide hto
            have HX := hide hxv
            obtain ⟨hf1, hf2⟩ := hfit
            have hnn : ¬ ((u.size : Int) < 0) := by omega
            clear hIH hst hto hxv hx ih fr frw fr1 hc hin hls
            generalize hq : u.size = q at *
            have HQ := hide hq
            clear hq
            go_wp2_with fail
            refine HC.out.mono ?_
            rintro e w2 ⟨rfl, fr2⟩
            have HF2 := hide fr2
            clear fr2
            go_wp2
            go_roundw
            case rel =>
              refine ⟨j + 1, m + q, hlt, by go_num, by go_num, ?_, by omega, ?_, HF.out.trans HF2.out⟩
              · rw [HT.out, HM.out]; omega
              · intro x hx2
                rw [List.take_succ_eq_append_getElem hj', List.mem_append, HX.out] at hx2
                rcases hx2 with h | h
                · exact HA.out x h
                · simp at h; subst h; exact hf2
            case measure => simp [intOf]; omega
          · have hc := hIH (room - (m : Int)) (deep - 1) (by omega) (by omega) (by omega) (by omega)
            rw [smallOf_no hfit] at hc
            have hno : smallOf (T.mk k n s (some ⟨b, o, none⟩) cap l r).v room deep = -1 := by rw [T.v_mk]; exact hst (by rw [← HM.out]; exact hfit)
            have HC := hide hc
            have HNO := hide hno
            clear hIH hst hto hxv hx ih fr frw fr1 hc hin hls hfit hno
            go_wp2_with fail
            refine HC.out.mono ?_
            rintro e w2 ⟨rfl, fr2⟩
            have HF2 := hide (HW.out.trans fr2)
            clear fr2
            go_wp2
            go_ret
            exact ⟨by rw [HNO.out]; rfl, HF2.out⟩
        · obtain rfl : l.length = j := by omega
          have hdone : smallOf (T.mk k n s A cap l r).v room deep = (m : Int) := by
            rw [T.v_mk, HM.out]
            have h1 : (l.map T.v).length = l.length := by simp
            have := small_done (k := k) (n := n) (s := s) (l := l.map T.v) (r := r) (room := room) (deep := deep) (by rw [h1, ← HM.out]; exact hmr) hd2 (fun x hx => HA.out x (by rw [List.take_of_length_le (by simp)]; exact hx))
            rw [this, h1]
          have HD := hide hdone
          have HW := hide frw
          clear hdone ih fr frw fr1 hls
          go_wp2
          go_ret
          exact ⟨by rw [HD.out]; rfl, HW.out⟩

end Go.Proofs.Ytihjmipmjogpoaa

/- Chapter 2: the document's answer: look, Parts, May. -/
namespace Go.Proofs.Ytihjmipmjogpoaa
open Go.RowKit

def lookOf (v : V) (p q : Nat) : Int := if v.fits p q = true then (v.size : Int) else -1

theorem look_no {v : V} {p q : Nat} (h : v.fits p q = false) : lookOf v p q = -1 := by simp [lookOf, h]
theorem look_leaf {k n : Int} {s : ByteArray} {l : List V} {r : Int} {p q : Nat} (hk : k ≠ 3) (hp : 1 ≤ p) (h : fok k n s l.length r = true) : lookOf (.mk k n s l r) p q = 1 := by
  obtain ⟨h1, h2⟩ := fits_leaf (k := k) (n := n) (s := s) (l := l) (r := r) (p := p) (q := q) hk hp
  simp [lookOf, h1, h, h2 h]
theorem look_bad {k n : Int} {s : ByteArray} {l : List V} {r : Int} {p q : Nat} (hk : k ≠ 3) (hp : 1 ≤ p) (h : fok k n s l.length r = false) : lookOf (.mk k n s l r) p q = -1 :=
  look_no ((fits_leaf hk hp).1.trans h)
theorem look_bad3 {n : Int} {s : ByteArray} {l : List V} {r : Int} {p q : Nat} (h : fok 3 n s l.length r = false) : lookOf (.mk 3 n s l r) p q = -1 :=
  look_no (by simp [V.fits, V.ok_mk, h])
theorem look_off {k n : Int} {s : ByteArray} {l : List V} {r : Int} {p q : Nat} (h : 4 < k) : lookOf (.mk k n s l r) p q = -1 :=
  look_no (by simp [V.fits, V.ok_mk, fok, show ¬ k = 0 by omega, show ¬ k = 1 by omega, show ¬ k = 2 by omega, show ¬ k = 3 by omega, show ¬ k = 4 by omega])

theorem str_ne {s : ByteArray} (h : ¬ s = ⟨#[]⟩) : s.toList.isEmpty = false := by
  cases hl : s.toList with
  | nil => exact absurd (toList_nil hl) h
  | cons x l => rfl

theorem str_ne2 {s : ByteArray} (h : ¬ s = ⟨#[]⟩) : decide (s.toList = []) = false := by
  have := str_ne h
  cases hl : s.toList with
  | nil => rw [hl] at this; cases this
  | cons x l => rfl

set_option maxRecDepth 100000 in
set_option maxHeartbeats 8000000 in
theorem look_any (t : T) : ∀ (p q : Nat) (w : World) (lo hi : Nat), t.In w lo hi → hi ≤ w.heap.size → p ≤ 512 → q ≤ 16 →
    Calls Try.prog 122 #[t.val, .int .i64 p, .int .i64 q] w fun e w' => e = .returned (.int .i64 (lookOf t.v p q)) ∧ Fr No w w' := by
  induction t using T.ind with
  | h k n s A cap l r ih =>
    intro p q w lo hi ht hh hp hq
    rw [T.val_mk]
    have fit := (T.in_mk.1 ht).1
    have hlen := fit.len1
    have hss := fit.s1
    have hk0 := fit.k0
    have fr1 := (Fr.refl No w).alloc (.cells #[.int .u8 k, .int .i64 n, .string s, .slice A l.length cap, .int .i64 r] 27)
    have hK := Blk.new' w 27 #[.int .u8 k, .int .i64 n, .string s, .slice A l.length cap, .int .i64 r] rfl
    rw [T.v_mk]
    have hll : (l.map T.v).length = l.length := by simp
    by_cases hp1 : (p : Int) < 1
    · have e : lookOf (.mk k n s (l.map T.v) r) p q = -1 := look_no (by obtain rfl : p = 0 := by omega
                                                                        exact fits_zero _ _)
      rw [e]
      clear ih hll
      go_enter Try.func122, Try.ntmps122
      go_wp2
      go_ret
      exact ⟨rfl, fr1⟩
    have hpp : 1 ≤ p := by omega
    have HLL := hide hll
    clear hll
    have tl := toL0
    by_cases hk4 : 4 < k
    · rw [look_off (n := n) (s := s) (l := l.map T.v) (r := r) (p := p) (q := q) hk4]
      have a1 : (k != 1) = true := by simp; omega
      have a2 : (k != 2) = true := by simp; omega
      have a3 : (k != 3) = true := by simp; omega
      have a4 : (k != 4) = true := by simp; omega
      clear ih tl
      by_cases hc : n = 0
      case neg =>
        have z : (n != 0) = true := by simpa using hc
        go_enter Try.func122, Try.ntmps122
        go_wp2
        go_ret
        exact ⟨rfl, fr1⟩
      subst hc
      by_cases hc : s = ⟨#[]⟩
      case neg =>
        have z := str_ne hc
        have z2 := str_ne2 hc
        go_enter Try.func122, Try.ntmps122
        go_wp2
        go_ret
        exact ⟨rfl, fr1⟩
      subst hc; have tl := toL0
      by_cases hc : l.length = 0
      case neg =>
        have z : (0 : Int) < (l.length : Int) := by omega
        go_enter Try.func122, Try.ntmps122
        go_wp2
        go_ret
        exact ⟨rfl, fr1⟩
      obtain rfl : l = [] := List.eq_nil_of_length_eq_zero hc; clear hc
      by_cases hc : r = 0
      case neg =>
        have z : (r != 0) = true := by simpa using hc
        go_enter Try.func122, Try.ntmps122
        go_wp2
        go_ret
        exact ⟨rfl, fr1⟩
      subst hc
      go_enter Try.func122, Try.ntmps122
      go_wp2
      go_ret
      exact ⟨rfl, fr1⟩
    have hkk : k = 0 ∨ k = 1 ∨ k = 2 ∨ k = 3 ∨ k = 4 := by omega
    clear hk4 hk0
    rcases hkk with rfl | rfl | rfl | rfl | rfl
    · -- kind 0
      by_cases hc : n = 0
      case neg =>
        have hf : fok 0 n s (l.map T.v).length r = false := by
          simp [fok, hc]
        have z : (n != 0) = true := by simpa using hc
        rw [look_bad (k := 0) (by decide) hpp (p := p) (q := q) hf]
        clear ih hf
        go_enter Try.func122, Try.ntmps122
        go_wp2
        go_ret
        exact ⟨rfl, fr1⟩
      subst hc
      by_cases hc : s = ⟨#[]⟩
      case neg =>
        have hf : fok 0 0 s (l.map T.v).length r = false := by
          simp [fok, str_ne2 hc]; try exact fun h => absurd (toList_nil h) hc
        have z := str_ne hc
        have z2 := str_ne2 hc
        rw [look_bad (k := 0) (by decide) hpp (p := p) (q := q) hf]
        clear ih hf
        go_enter Try.func122, Try.ntmps122
        go_wp2
        go_ret
        exact ⟨rfl, fr1⟩
      subst hc
      by_cases hc : l.length = 0
      case neg =>
        have hf : fok 0 0 ⟨#[]⟩ (l.map T.v).length r = false := by
          rw [HLL.out]; simp [fok, hc]
        have z : (0 : Int) < (l.length : Int) := by omega
        rw [look_bad (k := 0) (by decide) hpp (p := p) (q := q) hf]
        clear ih hf
        go_enter Try.func122, Try.ntmps122
        go_wp2
        go_ret
        exact ⟨rfl, fr1⟩
      obtain rfl : l = [] := List.eq_nil_of_length_eq_zero hc; clear hc
      by_cases hc : r = 0
      case neg =>
        have hf : fok 0 0 ⟨#[]⟩ 0 r = false := by
          simp [fok, hc]
        have z : (r != 0) = true := by simpa using hc
        rw [look_bad (k := 0) (by decide) hpp (p := p) (q := q) hf]
        clear ih hf
        go_enter Try.func122, Try.ntmps122
        go_wp2
        go_ret
        exact ⟨rfl, fr1⟩
      subst hc
      rw [show ([] : List T).map T.v = [] from rfl]
      rw [(look_leaf (k := 0) (n := 0) (s := ⟨#[]⟩) (l := []) (r := 0) (p := p) (q := q) (by decide) hpp (by simp [fok, toL0]; try omega))]
      clear ih
      go_enter Try.func122, Try.ntmps122
      go_wp2
      go_ret
      exact ⟨rfl, fr1⟩
    · -- kind 1
      by_cases hc : s = ⟨#[]⟩
      case neg =>
        have hf : fok 1 n s (l.map T.v).length r = false := by
          simp [fok, str_ne2 hc]; try exact fun h => absurd (toList_nil h) hc
        have z := str_ne hc
        have z2 := str_ne2 hc
        rw [look_bad (k := 1) (by decide) hpp (p := p) (q := q) hf]
        clear ih hf
        go_enter Try.func122, Try.ntmps122
        go_wp2
        go_ret
        exact ⟨rfl, fr1⟩
      subst hc
      by_cases hc : l.length = 0
      case neg =>
        have hf : fok 1 n ⟨#[]⟩ (l.map T.v).length r = false := by
          rw [HLL.out]; simp [fok, hc]
        have z : (0 : Int) < (l.length : Int) := by omega
        rw [look_bad (k := 1) (by decide) hpp (p := p) (q := q) hf]
        clear ih hf
        go_enter Try.func122, Try.ntmps122
        go_wp2
        go_ret
        exact ⟨rfl, fr1⟩
      obtain rfl : l = [] := List.eq_nil_of_length_eq_zero hc; clear hc
      by_cases hc : r = 0
      case neg =>
        have hf : fok 1 n ⟨#[]⟩ 0 r = false := by
          simp [fok, hc]
        have z : (r != 0) = true := by simpa using hc
        rw [look_bad (k := 1) (by decide) hpp (p := p) (q := q) hf]
        clear ih hf
        go_enter Try.func122, Try.ntmps122
        go_wp2
        go_ret
        exact ⟨rfl, fr1⟩
      subst hc
      rw [show ([] : List T).map T.v = [] from rfl]
      rw [(look_leaf (k := 1) (n := n) (s := ⟨#[]⟩) (l := []) (r := 0) (p := p) (q := q) (by decide) hpp (by simp [fok, toL0]; try omega))]
      clear ih
      go_enter Try.func122, Try.ntmps122
      go_wp2
      go_ret
      exact ⟨rfl, fr1⟩
    · -- kind 2
      by_cases hc : n = 0
      case neg =>
        have hf : fok 2 n s (l.map T.v).length r = false := by
          simp [fok, hc]
        have z : (n != 0) = true := by simpa using hc
        rw [look_bad (k := 2) (by decide) hpp (p := p) (q := q) hf]
        clear ih hf
        go_enter Try.func122, Try.ntmps122
        go_wp2
        go_ret
        exact ⟨rfl, fr1⟩
      subst hc
      by_cases hc : l.length = 0
      case neg =>
        have hf : fok 2 0 s (l.map T.v).length r = false := by
          rw [HLL.out]; simp [fok, hc]
        have z : (0 : Int) < (l.length : Int) := by omega
        rw [look_bad (k := 2) (by decide) hpp (p := p) (q := q) hf]
        clear ih hf
        go_enter Try.func122, Try.ntmps122
        go_wp2
        go_ret
        exact ⟨rfl, fr1⟩
      obtain rfl : l = [] := List.eq_nil_of_length_eq_zero hc; clear hc
      by_cases hc : r = 0
      case neg =>
        have hf : fok 2 0 s 0 r = false := by
          simp [fok, hc]
        have z : (r != 0) = true := by simpa using hc
        rw [look_bad (k := 2) (by decide) hpp (p := p) (q := q) hf]
        clear ih hf
        go_enter Try.func122, Try.ntmps122
        go_wp2
        go_ret
        exact ⟨rfl, fr1⟩
      subst hc
      by_cases hc : s.size ≤ 256
      case neg =>
        have hf : fok 2 0 s 0 0 = false := by
          simp [fok]; omega
        have z : (256 : Int) < (s.size : Int) := by omega
        rw [look_bad (k := 2) (by decide) hpp (p := p) (q := q) hf]
        clear ih hf
        go_enter Try.func122, Try.ntmps122
        go_wp2
        go_ret
        exact ⟨rfl, fr1⟩
      have z : ¬ (256 : Int) < (s.size : Int) := by omega
      rw [show ([] : List T).map T.v = [] from rfl]
      rw [(look_leaf (k := 2) (n := 0) (s := s) (l := []) (r := 0) (p := p) (q := q) (by decide) hpp (by simp [fok, toL0]; try omega))]
      clear ih
      go_enter Try.func122, Try.ntmps122
      go_wp2
      go_ret
      exact ⟨rfl, fr1⟩
    · -- kind 3
      by_cases hc : n = 0
      case neg =>
        have hf : fok 3 n s (l.map T.v).length r = false := by
          simp [fok, hc]
        have z : (n != 0) = true := by simpa using hc
        rw [look_bad3 (p := p) (q := q) hf]
        clear ih hf
        go_enter Try.func122, Try.ntmps122
        go_wp2
        go_ret
        exact ⟨rfl, fr1⟩
      subst hc
      by_cases hc : s = ⟨#[]⟩
      case neg =>
        have hf : fok 3 0 s (l.map T.v).length r = false := by
          simp [fok, str_ne2 hc]; try exact fun h => absurd (toList_nil h) hc
        have z := str_ne hc
        have z2 := str_ne2 hc
        rw [look_bad3 (p := p) (q := q) hf]
        clear ih hf
        go_enter Try.func122, Try.ntmps122
        go_wp2
        go_ret
        exact ⟨rfl, fr1⟩
      subst hc
      by_cases hc : r = 0
      case neg =>
        have hf : fok 3 0 ⟨#[]⟩ (l.map T.v).length r = false := by
          simp [fok, hc]
        have z : (r != 0) = true := by simpa using hc
        rw [look_bad3 (p := p) (q := q) hf]
        clear ih hf
        go_enter Try.func122, Try.ntmps122
        go_wp2
        go_ret
        exact ⟨rfl, fr1⟩
      subst hc
      by_cases hq1 : (q : Int) < 1
      · rw [look_no (fits_short (n := 0) (s := ⟨#[]⟩) (l := l.map T.v) (r := 0) (p := p) (q := q) (.inr (by omega)))]
        clear ih
        go_enter Try.func122, Try.ntmps122
        go_wp2
        go_ret
        exact ⟨rfl, fr1⟩
      have hq2 : decide ((q : Int) < 1) = false := by simpa using hq1
      have hq3 : 1 ≤ q := by omega
      by_cases hlp : (p : Int) ≤ (l.length : Int)
      · have hlp' : decide (p ≤ l.length) = true := by simp; omega
        rw [look_no (fits_short (n := 0) (s := ⟨#[]⟩) (l := l.map T.v) (r := 0) (p := p) (q := q) (.inl (by rw [HLL.out]; omega)))]
        clear ih
        go_enter Try.func122, Try.ntmps122
        go_wp2
        go_ret
        exact ⟨rfl, fr1⟩
      have hlp' : decide (p ≤ l.length) = false := by simp; omega
      obtain ⟨c0, c1, c2, c3, c4, cf⟩ := hK.cells5
      have q0 := hK.lt
      go_enter Try.func122, Try.ntmps122
      go_wp2_with fail
      go_loopw [7, 8, 9] (fun v i _ wr => ∃ j m : Nat, j ≤ l.length ∧ i = .int .i64 (j : Int) ∧ v = .int .i64 (m : Int) ∧ m = 1 + sizeTo (l.map T.v) j ∧ m ≤ p ∧ fitsTo (l.map T.v) (q - 1) j ∧ Fr No (w.alloc (.cells #[.int .u8 3, .int .i64 0, .string ⟨#[]⟩, .slice A l.length cap, .int .i64 0] 27)) wr) (fun _ i _ _ => l.length - (intOf i).toNat)
      case atStart => exact ⟨0, 1, Nat.zero_le _, rfl, rfl, by simp [sizeTo_zero], by omega, fitsTo_zero _ _, Fr.refl _ _⟩
      case round =>
        obtain ⟨j, m, hj, rfl, rfl, hm, hmr, hall, fr⟩ := hrel
        obtain ⟨d0, d1, d2, d3, d4, df⟩ := (hK.fr fr fun h => h).cells5
        have frw := fr1.trans fr
        have HM := hide hm
        have HA := hide hall
        clear hm hall c0 c1 c2 c3 c4 cf
        by_cases hlt : j < l.length
        · obtain ⟨b, o, k1, n1, s1, A1, cap1, l1, r1, rfl, hb0, hb1', hx, hin, e0, e1, e2, e3, e4⟩ := T.elem (ht.no frw hh) hlt
          have hc := ih l[j] (List.getElem_mem hlt) (p - m) (q - 1) wr lo hi (by rw [hx]; exact hin) (by have := frw.size; omega) (by omega) (by omega)
          have hj' : j < (l.map T.v).length := by simpa using hlt
          have hxv : (l.map T.v)[j] = (T.mk k1 n1 s1 A1 cap1 l1 r1).v := by rw [List.getElem_map, hx]
          have hto := sizeTo_succ (l.map T.v) j hj'
          have hst := fun h => fits_stop (n := 0) (s := ⟨#[]⟩) (r := 0) (p := p) (q := q) hj' hq3 h
          have hfs := fun h1 h2 => fitsTo_succ HA.out hj' h1 h2
          rw [hxv] at hto hst hfs
          rw [hx, T.val_mk] at hc
          generalize (T.mk k1 n1 s1 A1 cap1 l1 r1).v = u at *
          have g0 : b < wr.heap.size := by have := frw.size; omega
          have HF := hide fr
          have HW := hide frw
          have hup := u.size_pos
          have x1 : ((p - m : Nat) : Int) = (p : Int) - (m : Int) := by omega
          have x2 : ((q - 1 : Nat) : Int) = (q : Int) - 1 := by omega
          rw [x1, x2] at hc
          clear x1 x2
          cases hfit : u.fits (p - m) (q - 1) with
          | true =>
            have h1 : u.ok = true ∧ u.size ≤ p - m ∧ u.dep ≤ q - 1 := by
              simp [V.fits] at hfit; exact ⟨hfit.1.1, hfit.1.2, hfit.2⟩
            have e : lookOf u (p - m) (q - 1) = (u.size : Int) := by simp [lookOf, hfit]
            rw [e] at hc
            have HC := hide hc
            have HT := hide hto
            have HFS := hide (hfs h1.1 h1.2.2)
            have hf1 := h1.2.1
            have hnn : ¬ ((u.size : Int) < 0) := by omega
            clear hst hto hxv hx ih fr frw fr1 hc hin hfs hfit e h1
            generalize hqq : u.size = z at *
            have HQ := hide hqq
            clear hqq
            go_wp2_with fail
            refine HC.out.mono ?_
            rintro e w2 ⟨rfl, fr2⟩
            have HF2 := hide fr2
            clear fr2
            go_wp2
            go_roundw
            case rel =>
              exact ⟨j + 1, m + z, hlt, by go_num, by go_num, by rw [HT.out, HM.out]; omega, by omega, HFS.out, HF.out.trans HF2.out⟩
            case measure => simp [intOf]; omega
          | false =>
            rw [look_no hfit] at hc
            have hno : lookOf (.mk 3 0 ⟨#[]⟩ (l.map T.v) 0) p q = -1 := look_no (hst (by rw [show p - 1 - sizeTo (l.map T.v) j = p - m from by rw [HM.out]; omega]; exact hfit))
            have HC := hide hc
            have HNO := hide hno
            clear hst hto hxv hx ih fr frw fr1 hc hin hfit hno hfs
            go_wp2_with fail
            refine HC.out.mono ?_
            rintro e w2 ⟨rfl, fr2⟩
            have HF2 := hide (HW.out.trans fr2)
            clear fr2
            go_wp2
            go_ret
            exact ⟨by rw [HNO.out]; rfl, HF2.out⟩
        · obtain rfl : l.length = j := by omega
          have hdone : lookOf (.mk 3 0 ⟨#[]⟩ (l.map T.v) 0) p q = (m : Int) := by
            obtain ⟨a, b⟩ := fits_done (n := 0) (s := ⟨#[]⟩) (l := l.map T.v) (r := 0) (p := p) (q := q) (by rw [HLL.out]; have := HM.out; omega) hpp hq3 (by rw [HLL.out]; exact HA.out)
            have c : fok 3 0 ⟨#[]⟩ (l.map T.v).length 0 = true := by simp [fok, toL0]
            rw [lookOf, a, if_pos c, b, HLL.out, ← HM.out]
          have HD := hide hdone
          have HW := hide frw
          clear hdone ih fr frw fr1
          go_wp2
          go_ret
          exact ⟨by rw [HD.out]; rfl, HW.out⟩
    · -- kind 4
      by_cases hc : n = 0
      case neg =>
        have hf : fok 4 n s (l.map T.v).length r = false := by
          simp [fok, hc]
        have z : (n != 0) = true := by simpa using hc
        rw [look_bad (k := 4) (by decide) hpp (p := p) (q := q) hf]
        clear ih hf
        go_enter Try.func122, Try.ntmps122
        go_wp2
        go_ret
        exact ⟨rfl, fr1⟩
      subst hc
      by_cases hc : s = ⟨#[]⟩
      case neg =>
        have hf : fok 4 0 s (l.map T.v).length r = false := by
          simp [fok, str_ne2 hc]; try exact fun h => absurd (toList_nil h) hc
        have z := str_ne hc
        have z2 := str_ne2 hc
        rw [look_bad (k := 4) (by decide) hpp (p := p) (q := q) hf]
        clear ih hf
        go_enter Try.func122, Try.ntmps122
        go_wp2
        go_ret
        exact ⟨rfl, fr1⟩
      subst hc
      by_cases hc : l.length = 0
      case neg =>
        have hf : fok 4 0 ⟨#[]⟩ (l.map T.v).length r = false := by
          rw [HLL.out]; simp [fok, hc]
        have z : (0 : Int) < (l.length : Int) := by omega
        rw [look_bad (k := 4) (by decide) hpp (p := p) (q := q) hf]
        clear ih hf
        go_enter Try.func122, Try.ntmps122
        go_wp2
        go_ret
        exact ⟨rfl, fr1⟩
      obtain rfl : l = [] := List.eq_nil_of_length_eq_zero hc; clear hc
      by_cases hc : 1 ≤ r
      case neg =>
        have hf : fok 4 0 ⟨#[]⟩ 0 r = false := by
          simp [fok]; omega
        have z : r < 1 := by omega
        rw [look_bad (k := 4) (by decide) hpp (p := p) (q := q) hf]
        clear ih hf
        go_enter Try.func122, Try.ntmps122
        go_wp2
        go_ret
        exact ⟨rfl, fr1⟩
      have z : ¬ r < 1 := by omega
      rw [show ([] : List T).map T.v = [] from rfl]
      rw [(look_leaf (k := 4) (n := 0) (s := ⟨#[]⟩) (l := []) (r := r) (p := p) (q := q) (by decide) hpp (by simp [fok, toL0]; try omega))]
      clear ih
      go_enter Try.func122, Try.ntmps122
      go_wp2
      go_ret
      exact ⟨rfl, fr1⟩

/-- The document's Parts. -/
theorem refParts_any (t : T) (w : World) (lo hi : Nat) (ht : t.In w lo hi) (hh : hi ≤ w.heap.size) :
    Calls Try.prog 60 #[t.val] w fun e w' => e = .returned (.int .i64 (t.v.meas : Int)) ∧ Fr No w w' := by
  have IH := fun w' h h' => look_any t 512 16 w' lo hi h h' (by decide) (by decide)
  cases t with
  | mk k n s A cap l r =>
    rw [T.val_mk] at *
    have hpos := (T.mk k n s A cap l r).v.size_pos
    generalize (T.mk k n s A cap l r).v = u at *
    have hin := ht.no ((Fr.refl No w).alloc (.cells #[.int .u8 k, .int .i64 n, .string s, .slice A l.length cap, .int .i64 r] 27)) hh
    cases hm : u.fits 512 16 with
    | true =>
      have e : u.meas = u.size := by simp [V.meas, V.may, hm]
      have e2 : lookOf u 512 16 = (u.size : Int) := by simp [lookOf, hm]
      have hle : u.size ≤ 512 := by simp [V.fits] at hm; omega
      rw [e]
      rw [e2] at IH
      clear hm e e2
      go_enter Try.func60, Try.ntmps60
      go_wp2_with fail
      refine (IH _ hin (by simp; omega)).mono ?_
      rintro e w2 ⟨rfl, fr2⟩
      go_wp2
      go_ret
      exact ⟨rfl, ((Fr.refl No w).alloc _).trans fr2⟩
    | false =>
      have e : u.meas = 0 := by simp [V.meas, V.may, hm]
      have e2 : lookOf u 512 16 = -1 := look_no hm
      rw [e]
      rw [e2] at IH
      clear hm e e2
      go_enter Try.func60, Try.ntmps60
      go_wp2_with fail
      refine (IH _ hin (by simp; omega)).mono ?_
      rintro e w2 ⟨rfl, fr2⟩
      go_wp2
      go_ret
      exact ⟨rfl, ((Fr.refl No w).alloc _).trans fr2⟩

/-- The document's May. -/
theorem refMay_any (t : T) (w : World) (lo hi : Nat) (ht : t.In w lo hi) (hh : hi ≤ w.heap.size) :
    Calls Try.prog 109 #[t.val] w fun e w' => e = .returned (.bool t.v.may) ∧ Fr No w w' := by
  have IH := fun w' h h' => refParts_any t w' lo hi h h'
  cases hm : t.v.may
  · have HM : t.v.meas = 0 := by simp [V.meas, hm]
    rw [HM] at IH
    cases t with
    | mk k n s A cap l r =>
      rw [T.val_mk] at *
      go_enter Try.func109, Try.ntmps109
      go_wp2_with fail
      refine (IH _ (ht.no ((Fr.refl No w).alloc _) hh) (by simp; omega)).mono ?_
      rintro e w2 ⟨rfl, fr2⟩
      go_wp2
      go_ret
      exact ⟨rfl, ((Fr.refl No w).alloc _).trans fr2⟩
  · have HM : 0 < t.v.meas := by simp [V.meas, hm]; exact t.v.size_pos
    cases t with
    | mk k n s A cap l r =>
      rw [T.val_mk] at *
      generalize (T.mk k n s A cap l r).v.meas = z at *
      go_enter Try.func109, Try.ntmps109
      go_wp2_with fail
      refine (IH _ (ht.no ((Fr.refl No w).alloc _) hh) (by simp; omega)).mono ?_
      rintro e w2 ⟨rfl, fr2⟩
      go_wp2
      go_ret
      exact ⟨by simp, ((Fr.refl No w).alloc _).trans fr2⟩

end Go.Proofs.Ytihjmipmjogpoaa

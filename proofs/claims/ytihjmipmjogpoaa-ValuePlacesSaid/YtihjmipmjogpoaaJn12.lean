/- Texts joined: P14, P3, P7, Z6, P8, Q2. -/
import Derived.Test.YtihjmipmjogpoaaJn11
import Derived.Maps.OwnSet
import Derived.Deep.RegionHeld3
import Derived.Deep.QuietTactic
import Derived.BigQuiet
import Derived.IntWalk
import Derived.Laws.AppendOwnNone
/- Chapter 2: value.Rename. -/
namespace Go.Proofs.Ytihjmipmjogpoaa
open Go.RowKit Go.Maps Go.ChangeMaps

theorem low_any (r : Int) (w : World) : Calls Try.prog 128 #[.int .i64 r] w fun e w' => e = .returned (.bool (decide (r < 1))) ∧ w' = w := by
  go_enter Try.func128, Try.ntmps128
  go_wp2
  go_ret
  exact ⟨rfl, rfl⟩

set_option maxRecDepth 100000 in
set_option maxHeartbeats 2000000 in
theorem indexLow_any (A : Option Addr) (cap : Nat) (L : List Int) (w : World) (lo hi : Nat) (h : Ints w lo hi A cap L) (hh : hi ≤ w.heap.size) :
    Calls Try.prog 138 #[.slice A L.length cap, .func (.func 128) #[] #[]] w fun e w' => (∃ z : Int, e = .returned (.int .i64 z) ∧ ((0 ≤ z ∧ L.all (fun r => decide (1 ≤ r)) = false) ∨ (z = -1 ∧ L.all (fun r => decide (1 ≤ r)) = true))) ∧ Fr No w w' := by
  have hB := low_any
  have hlen := h.len
  go_enter Try.func138, Try.ntmps138
  go_wp2_with fail
  go_loopw [8] (fun i wr => ∃ j : Nat, j ≤ L.length ∧ i = .int .i64 j ∧ Fr No w wr ∧ ∀ r ∈ L.take j, 1 ≤ r) (fun i _ => L.length - (intOf i).toNat)
  case atStart => exact ⟨0, Nat.zero_le _, rfl, Fr.refl _ _, by simp⟩
  case round =>
    obtain ⟨j, hj, rfl, fr, hall⟩ := hrel
    have HA := hide hall
    have hsz := fr.size
    clear hall
    by_cases hlt : j < L.length
    · obtain ⟨b, o, rfl, hb0, hb1, hcj⟩ := (h.no fr hh).elem hlt
      have g0 : b < wr.heap.size := by omega
      have hmem := List.getElem_mem hlt
      have htk : L.take (j + 1) = L.take j ++ [L[j]] := List.take_succ_eq_append_getElem hlt
      generalize L[j] = x at *
      have HM := hide hmem
      have HT := hide htk
      have HF := hide fr
      clear hmem htk fr h
      by_cases hx : x < 1
      · have hd : decide (x < (1 : Int)) = true := by simpa using hx
        have hB1 := hB x wr
        rw [hd] at hB1
        have hno : L.all (fun r => decide (1 ≤ r)) = false := by
          rw [Bool.eq_false_iff]
          intro h
          have := List.all_eq_true.1 h x HM.out
          simp at this
          omega
        have HN := hide hno
        clear hd hB hno
        go_wp2_with fail
        refine hB1.mono ?_
        rintro e w' ⟨rfl, rfl⟩
        go_wp2
        go_ret
        exact ⟨⟨_, rfl, .inl ⟨by omega, HN.out⟩⟩, HF.out⟩
      · have hd : decide (x < (1 : Int)) = false := by simpa using hx
        have hB1 := hB x wr
        rw [hd] at hB1
        clear hd hB
        go_wp2_with fail
        refine hB1.mono ?_
        rintro e w' ⟨rfl, rfl⟩
        go_wp2
        go_roundw
        case rel =>
          refine ⟨j + 1, hlt, by go_num, HF.out, fun r hr => ?_⟩
          rw [HT.out] at hr
          rcases List.mem_append.1 hr with hr | hr
          · exact HA.out r hr
          · simp at hr; subst hr; omega
        case measure => simp [intOf]; omega
    · obtain rfl : j = L.length := by omega
      have HF := hide fr
      have hyes : L.all (fun r => decide (1 ≤ r)) = true := List.all_eq_true.2 fun r hr => by simpa using HA.out r (by rw [List.take_of_length_le (Nat.le_refl _)]; exact hr)
      have HY := hide hyes
      clear fr h hyes
      go_wp2
      go_ret
      exact ⟨⟨-1, rfl, .inr ⟨rfl, HY.out⟩⟩, HF.out⟩

theorem containsLow_any (A : Option Addr) (cap : Nat) (L : List Int) (w : World) (lo hi : Nat) (h : Ints w lo hi A cap L) (hh : hi ≤ w.heap.size) :
    Calls Try.prog 111 #[.slice A L.length cap, .func (.func 128) #[] #[]] w fun e w' => e = .returned (.bool (!L.all fun r => decide (1 ≤ r))) ∧ Fr No w w' := by
  have hI := indexLow_any A cap L w lo hi h hh
  generalize (L.all fun r => decide (1 ≤ r)) = q at *
  clear h
  go_enter Try.func111, Try.ntmps111
  go_wp2_with fail
  refine hI.mono ?_
  rintro e w2 ⟨⟨z, rfl, hz⟩, fr2⟩
  rcases hz with ⟨h0, rfl⟩ | ⟨rfl, rfl⟩
  · have h1 : decide ((0 : Int) ≤ z) = true := by simpa using h0
    go_wp2
    go_ret
    exact ⟨rfl, fr2⟩
  · go_wp2
    go_ret
    exact ⟨rfl, fr2⟩

theorem nm_snoc : ∀ (fs ts : List Int), fs.length = ts.length → ∀ (f t r : Int), nmOf (fs ++ [f]) (ts ++ [t]) r = (nmOf fs ts r).or (if f = r then some t else none)
  | [], [], _, f, t, r => by simp [nmOf]
  | [], _ :: _, h, _, _, _ => by simp at h
  | _ :: _, [], h, _, _, _ => by simp at h
  | f0 :: fs, t0 :: ts, h, f, t, r => by
    simp only [List.cons_append, nmOf]
    split
    · rfl
    · exact nm_snoc fs ts (by simpa using h) f t r

/-- The map of the first so many names. -/
def NamesTo (w : World) (b n : Nat) (f : Int → Option Int) : Prop :=
  ∃ D : DataW Unit, w.ownsMap Try.prog 25 (plainElem Try.prog 25) b n D ∧ ∀ r : Int, -9223372036854775808 ≤ r → r ≤ 9223372036854775807 → Maps.has D (.int .i64 r) = (f r).isSome ∧ D.atKey (.int .i64 r) (.lit (.int .i64 0)) = .lit (.int .i64 ((f r).getD 0))

theorem NamesTo.names {w : World} {b n : Nat} {f : Int → Option Int} (h : NamesTo w b n f) : Names w b f := by
  obtain ⟨D, h1, h2⟩ := h
  exact ⟨n, D, h1, h2⟩

theorem lit_ne {a b : Int} (h : a ≠ b) : Lit.int .i64 a ≠ Lit.int .i64 b := fun e => by injection e with _ e; exact h e

theorem keylit (a : Int) (h0 : -9223372036854775808 ≤ a) (h1 : a ≤ 9223372036854775807) : WideAt.IsKeyLit (Lit.int .i64 a) := keyed25.key (v := .int .i64 a) (keyOf_int_mk Try.underlying25 (wf64 h0 h1))

theorem make167 (n : Int) (w : World) : (Instr.makeMap 167 (some (.int .i64 n))).run Try.prog w = .ok (.map (some w.heap.size)) (w.alloc (.map #[] 0)) := by kernel_rfl

/-- What Rename answers. -/
def renV (v : V) (fs ts : List Int) : V × Int :=
  if (v.may && (decide (fs.length = ts.length) && ((fs.all fun r => decide (1 ≤ r)) && (ts.all fun r => decide (1 ≤ r))))) = true then
    (if v.named (nmOf fs ts) = true then (v.ren (nmOf fs ts), 0) else (V.zero, 21)) else (V.zero, 2)

set_option maxRecDepth 100000 in
set_option maxHeartbeats 8000000 in
theorem Rename_any (t : T) (w : World) (lo hi : Nat) (ht : t.In w lo hi) (hh : hi ≤ w.heap.size) (Af At : Option Addr) (cf ct : Nat) (fs ts : List Int) (lf hf lt ht' : Nat) (pf : Ints w lf hf Af cf fs) (hhf : hf ≤ w.heap.size) (pt : Ints w lt ht' At ct ts) (hht : ht' ≤ w.heap.size) :
    Calls Try.prog 72 #[t.val, .slice Af fs.length cf, .slice At ts.length ct] w (OwnE2 (renV t.v fs ts).1 (renV t.v fs ts).2 w) := by
  have hM := fun w' h h' => may_any t w' lo hi h h'
  have hO := fun w' h h' => own2_any t w' lo hi h h'
  have hlf := pf.len
  have hlt := pt.len
  cases t with
  | mk k n s A cap l r =>
    rw [T.val_mk] at *
    generalize hu : (T.mk k n s A cap l r).v = u at *
    have fr0 := ((Fr.refl No w).alloc (.cells #[.int .u8 k, .int .i64 n, .string s, .slice A l.length cap, .int .i64 r] 27)).alloc (.cells #[.int .u8 0, .int .i64 0, .string ⟨#[]⟩, .slice none 0 0, .int .i64 0] 27)
    have bv0 := (Blk.new w 27 #[.int .u8 k, .int .i64 n, .string s, .slice A l.length cap, .int .i64 r]).alloc (.cells #[.int .u8 0, .int .i64 0, .string ⟨#[]⟩, .slice none 0 0, .int .i64 0] 27)
    have bz0 := Blk.new' (w.alloc (.cells #[.int .u8 k, .int .i64 n, .string s, .slice A l.length cap, .int .i64 r] 27)) 27 #[.int .u8 0, .int .i64 0, .string ⟨#[]⟩, .slice none 0 0, .int .i64 0] (g := w.heap.size + 1) (by simp)
    have ht0 := ht.no fr0 hh
    have pf0 := pf.no fr0 hhf
    have pt0 := pt.no fr0 hht
    have hs0 : w.heap.size + 2 ≤ ((w.alloc (.cells #[.int .u8 k, .int .i64 n, .string s, .slice A l.length cap, .int .i64 r] 27)).alloc (.cells #[.int .u8 0, .int .i64 0, .string ⟨#[]⟩, .slice none 0 0, .int .i64 0] 27)).heap.size := by simp
    have HU := hide hu
    clear hu ht pf pt
    cases hm : u.may with
    | false =>
      have e1 : renV u fs ts = (V.zero, 2) := by simp [renV, hm]
      rw [e1]
      rw [hm] at hM
      clear hm e1 hO
      go_enter Try.func72, Try.ntmps72
      go_wp2_with fail
      generalize World.alloc (World.alloc w _) _ = w0 at *
      refine (hM w0 ht0 (by omega)).mono ?_
      rintro e w2 ⟨rfl, f2⟩
      have bz2 := bz0.fr f2 fun h => h
      obtain ⟨d0, d1, d2, d3, d4, df⟩ := bz2.cells5
      have q0 := bz2.lt
      have HF := hide (fr0.trans f2)
      clear hM ht0 bz0 bv0 fr0 f2 bz2 pf0 pt0
      go_wp2
      refine bodyPost_ret (v := .tuple #[.agg #[.int .u8 0, .int .i64 0, .string ⟨#[]⟩, .slice none 0 0, .int .i64 0], .int .i64 2]) (by simp [results, Try.results72, go_sem, *]) rfl ?_
      have hF2 := HF.out
      refine ⟨T.zero, rfl, T.zero_v, T.zero_sh _ _ _, ?_⟩
      repeat (first | with_reducible exact hF2 | with_reducible refine Fr.setNew ?_ (by first | (simp; done) | (simp; omega)) _)
    | true =>
      rw [hm] at hM
      by_cases hln : fs.length = ts.length
      case neg =>
        have e1 : renV u fs ts = (V.zero, 2) := by simp [renV, hln]
        have hl1 : ((fs.length : Int) != (ts.length : Int)) = true := by simp; omega
        rw [e1]
        clear hm e1 hO hln
        go_enter Try.func72, Try.ntmps72
        go_wp2_with fail
        generalize World.alloc (World.alloc w _) _ = w0 at *
        refine (hM w0 ht0 (by omega)).mono ?_
        rintro e w2 ⟨rfl, f2⟩
        have bz2 := bz0.fr f2 fun h => h
        obtain ⟨d0, d1, d2, d3, d4, df⟩ := bz2.cells5
        have q0 := bz2.lt
        have HF := hide (fr0.trans f2)
        clear hM ht0 bz0 bv0 fr0 f2 bz2 pf0 pt0
        go_wp2
        refine bodyPost_ret (v := .tuple #[.agg #[.int .u8 0, .int .i64 0, .string ⟨#[]⟩, .slice none 0 0, .int .i64 0], .int .i64 2]) (by simp [results, Try.results72, go_sem, *]) rfl ?_
        have hF2 := HF.out
        refine ⟨T.zero, rfl, T.zero_v, T.zero_sh _ _ _, ?_⟩
        repeat (first | with_reducible exact hF2 | with_reducible refine Fr.setNew ?_ (by first | (simp; done) | (simp; omega)) _)
      have hl1 : ((fs.length : Int) != (ts.length : Int)) = false := by simp; omega
      have HLN := hide hln
      clear hln
      cases hfa : (fs.all fun r => decide (1 ≤ r)) with
      | false =>
        have e1 : renV u fs ts = (V.zero, 2) := by simp [renV, hfa]
        have hcf := fun w' h h' => containsLow_any Af cf fs w' lf hf h h'
        rw [hfa] at hcf
        rw [e1]
        clear hm e1 hO hfa
        go_enter Try.func72, Try.ntmps72
        go_wp2_with fail
        generalize World.alloc (World.alloc w _) _ = w0 at *
        refine (hM w0 ht0 (by omega)).mono ?_
        rintro e w2 ⟨rfl, f2⟩
        have bz2 := bz0.fr f2 fun h => h
        have pf2 := pf0.no f2 (by omega)
        have HF := hide (fr0.trans f2)
        have hs2 := f2.size
        clear hM ht0 bz0 bv0 fr0 f2 pf0 pt0
        go_wp2_with fail
        refine (hcf w2 pf2 (by omega)).mono ?_
        rintro e w3 ⟨rfl, f3⟩
        have bz3 := bz2.fr f3 fun h => h
        obtain ⟨d0, d1, d2, d3, d4, df⟩ := bz3.cells5
        have q0 := bz3.lt
        have HF3 := hide (HF.out.trans f3)
        clear hcf bz2 f3 bz3 pf2
        go_wp2
        refine bodyPost_ret (v := .tuple #[.agg #[.int .u8 0, .int .i64 0, .string ⟨#[]⟩, .slice none 0 0, .int .i64 0], .int .i64 2]) (by simp [results, Try.results72, go_sem, *]) rfl ?_
        have hF2 := HF3.out
        refine ⟨T.zero, rfl, T.zero_v, T.zero_sh _ _ _, ?_⟩
        repeat (first | with_reducible exact hF2 | with_reducible refine Fr.setNew ?_ (by first | (simp; done) | (simp; omega)) _)
      | true =>
      have hcf := fun w' h h' => containsLow_any Af cf fs w' lf hf h h'
      have hct := fun w' h h' => containsLow_any At ct ts w' lt ht' h h'
      rw [hfa] at hcf
      cases hta : (ts.all fun r => decide (1 ≤ r)) with
      | false =>
        have e1 : renV u fs ts = (V.zero, 2) := by simp [renV, hta]
        rw [hta] at hct
        rw [e1]
        clear hm e1 hO hfa hta
        go_enter Try.func72, Try.ntmps72
        go_wp2_with fail
        generalize World.alloc (World.alloc w _) _ = w0 at *
        refine (hM w0 ht0 (by omega)).mono ?_
        rintro e w2 ⟨rfl, f2⟩
        have bz2 := bz0.fr f2 fun h => h
        have pf2 := pf0.no f2 (by omega)
        have pt2 := pt0.no f2 (by omega)
        have HF := hide (fr0.trans f2)
        have hs2 := f2.size
        clear hM ht0 bz0 bv0 fr0 f2 pf0 pt0
        go_wp2_with fail
        refine (hcf w2 pf2 (by omega)).mono ?_
        rintro e w3 ⟨rfl, f3⟩
        have bz3 := bz2.fr f3 fun h => h
        have pt3 := pt2.no f3 (by omega)
        have HF3 := hide (HF.out.trans f3)
        have hs3 := f3.size
        clear hcf bz2 f3 pf2 pt2
        go_wp2_with fail
        refine (hct w3 pt3 (by omega)).mono ?_
        rintro e w4 ⟨rfl, f4⟩
        have bz4 := bz3.fr f4 fun h => h
        obtain ⟨d0, d1, d2, d3, d4, df⟩ := bz4.cells5
        have q0 := bz4.lt
        have HF4 := hide (HF3.out.trans f4)
        clear hct bz3 f4 bz4 pt3
        go_wp2
        refine bodyPost_ret (v := .tuple #[.agg #[.int .u8 0, .int .i64 0, .string ⟨#[]⟩, .slice none 0 0, .int .i64 0], .int .i64 2]) (by simp [results, Try.results72, go_sem, *]) rfl ?_
        have hF2 := HF4.out
        refine ⟨T.zero, rfl, T.zero_v, T.zero_sh _ _ _, ?_⟩
        repeat (first | with_reducible exact hF2 | with_reducible refine Fr.setNew ?_ (by first | (simp; done) | (simp; omega)) _)
      | true =>
      rw [hta] at hct
      have e1 : renV u fs ts = if u.named (nmOf fs ts) = true then (u.ren (nmOf fs ts), 0) else (V.zero, 21) := by
        unfold renV
        rw [hm, hfa, hta, decide_eq_true HLN.out]
        rfl
      have E1 := hide e1
      clear e1
      generalize renV u fs ts = rv at *
      clear hm hfa hta
      have hmm := make167
      go_enter Try.func72, Try.ntmps72
      go_wp2_with fail
      generalize World.alloc (World.alloc w _) _ = w0 at *
      refine (hM w0 ht0 (by omega)).mono ?_
      rintro e w2 ⟨rfl, f2⟩
      have bz2 := bz0.fr f2 fun h => h
      have bv2 := bv0.fr f2 fun h => h
      have ht2 := ht0.no f2 (by omega)
      have pf2 := pf0.no f2 (by omega)
      have pt2 := pt0.no f2 (by omega)
      have HF := hide (fr0.trans f2)
      have hs2 := f2.size
      clear hM ht0 bz0 bv0 fr0 f2 pf0 pt0
      go_wp2_with fail
      refine (hcf w2 pf2 (by omega)).mono ?_
      rintro e w3 ⟨rfl, f3⟩
      have bz3 := bz2.fr f3 fun h => h
      have bv3 := bv2.fr f3 fun h => h
      have ht3 := ht2.no f3 (by omega)
      have pf3 := pf2.no f3 (by omega)
      have pt3 := pt2.no f3 (by omega)
      have HF3 := hide (HF.out.trans f3)
      have hs3 := f3.size
      clear hcf bz2 bv2 ht2 f3 pf2 pt2 HF
      go_wp2_with fail
      refine (hct w3 pt3 (by omega)).mono ?_
      rintro e w4 ⟨rfl, f4⟩
      have bz4 := bz3.fr f4 fun h => h
      have bv4 := bv3.fr f4 fun h => h
      have ht4 := ht3.no f4 (by omega)
      have pf4 := pf3.no f4 (by omega)
      have pt4 := pt3.no f4 (by omega)
      have HF4 := hide (HF3.out.trans f4)
      have hs4 := f4.size
      clear hct bz3 bv3 ht3 f4 pf3 pt3 HF3
      go_wp2_with fail
      have hst : NamesTo (w4.alloc (.map #[] 0)) w4.heap.size 0 (nmOf [] []) := ⟨.map [], World.ownsMap_made _ _ _ _, fun r _ _ => ⟨rfl, rfl⟩⟩
      have HST := hide hst
      clear hst
      go_loopw [10, 11, 12, 13, 41] (fun _ _ _ _ i wr => ∃ j : Nat, j ≤ fs.length ∧ i = .int .i64 j ∧ Fr No w4 wr ∧ NamesTo wr w4.heap.size j (nmOf (fs.take j) (ts.take j))) (fun _ _ _ _ i _ => fs.length - (intOf i).toNat)
      case atStart => exact ⟨0, Nat.zero_le _, rfl, (Fr.refl No w4).alloc _, by simpa using HST.out⟩
      case round =>
        obtain ⟨j, hj, rfl, fr, nms⟩ := hrel
        have hsz := fr.size
        by_cases hlt : j < fs.length
        · have hlt' : j < ts.length := by have := HLN.out; omega
          obtain ⟨b, o, rfl, hb0, hb1, hcf⟩ := (pf4.no fr (by omega)).elem hlt
          obtain ⟨b', o', rfl, hb0', hb1', hct⟩ := (pt4.no fr (by omega)).elem hlt'
          have g0 : b < wr.heap.size := by omega
          have g1 : b' < wr.heap.size := by omega
          have hrf := pf4.rng _ (List.getElem_mem hlt)
          have hrt := pt4.rng _ (List.getElem_mem hlt')
          have htkf : fs.take (j + 1) = fs.take j ++ [fs[j]] := List.take_succ_eq_append_getElem hlt
          have htkt : ts.take (j + 1) = ts.take j ++ [ts[j]] := List.take_succ_eq_append_getElem hlt'
          have hsn := nm_snoc (fs.take j) (ts.take j) (by simp; omega) fs[j] ts[j]
          generalize fs[j] = x at *
          generalize ts[j] = y at *
          obtain ⟨D, hown, hlook⟩ := nms
          obtain ⟨hl1, hl2⟩ := hlook x hrf.1 hrf.2
          have hkey : keyOf Try.prog 25 (.int .i64 x) = some (.int .i64 x) := keyOf_int_mk Try.underlying25 (wf64 hrf.1 hrf.2)
          have hsn' : ∀ r, nmOf (fs.take (j + 1)) (ts.take (j + 1)) r = (nmOf (fs.take j) (ts.take j) r).or (if x = r then some y else none) := fun r => by rw [htkf, htkt]; exact hsn r
          cases hm : Maps.has D (Lit.int .i64 x) with
          | true =>
            have hnx : NamesTo wr w4.heap.size (j + 1) (nmOf (fs.take (j + 1)) (ts.take (j + 1))) := by
              refine ⟨D, hown.mono (by omega), fun r h0 h1 => ?_⟩
              obtain ⟨q1, q2⟩ := hlook r h0 h1
              have e : nmOf (fs.take (j + 1)) (ts.take (j + 1)) r = nmOf (fs.take j) (ts.take j) r := by
                rw [hsn' r]
                by_cases hxr : x = r
                · subst hxr
                  rw [hm] at hl1
                  cases hq : nmOf (fs.take j) (ts.take j) x with
                  | none => rw [hq] at hl1; cases hl1
                  | some z => rfl
                · rw [if_neg hxr]; cases nmOf (fs.take j) (ts.take j) r <;> rfl
              rw [e]
              exact ⟨q1, q2⟩
            have HN := hide hnx
            have HF := hide fr
            clear hnx fr htkf htkt hsn hsn' hlook hl1 hl2 HST
            go_wp2_with (at_lookup; refine wpList_lookup_own_ok_int _ rfl _ _ 167 rfl 25 25 .i64 keyed25 Try.underlying167 Try.underlying25 (zero25 _) w4.heap.size j D rfl hown _ _ rfl hkey ?_; intro c _ _)
            go_roundw
            case rel => exact ⟨j + 1, hlt, by go_num, HF.out, HN.out⟩
            case measure => simp [intOf]; omega
          | false =>
            have hnx : ∀ w', w'.ownsMap Try.prog 25 (plainElem Try.prog 25) w4.heap.size (j + 1) (D.put (.int .i64 x) (.lit (.int .i64 y))) → NamesTo w' w4.heap.size (j + 1) (nmOf (fs.take (j + 1)) (ts.take (j + 1))) := fun w' ho => by
              refine ⟨_, ho, fun r h0 h1 => ?_⟩
              obtain ⟨q1, q2⟩ := hlook r h0 h1
              by_cases hxr : x = r
              · subst hxr
                rw [hm] at hl1
                have hno : nmOf (fs.take j) (ts.take j) x = none := by
                  cases hq : nmOf (fs.take j) (ts.take j) x with
                  | none => rfl
                  | some z => rw [hq] at hl1; cases hl1
                rw [hsn' x, hno, if_pos rfl]
                exact ⟨has_put_same (World.ownsMap.isMap hown) (keylit _ h0 h1) _, by rw [atKey_put_same (World.ownsMap.isMap hown) (keylit _ h0 h1)]; rfl⟩
              · have e : nmOf (fs.take (j + 1)) (ts.take (j + 1)) r = nmOf (fs.take j) (ts.take j) r := by
                  rw [hsn' r, if_neg hxr]; cases nmOf (fs.take j) (ts.take j) r <;> rfl
                rw [e, has_put_other (lit_ne fun h => hxr h.symm), atKey_put_other (lit_ne fun h => hxr h.symm)]
                exact ⟨q1, q2⟩
            have HN := hide hnx
            have HF := hide fr
            have hpl : plainElem (H := Unit) Try.prog 25 (.int .i64 y) = some (.lit (.int .i64 y), []) := plainElem_int Try.underlying25 (wf64 hrt.1 hrt.2)
            clear hnx fr htkf htkt hsn hsn' hlook hl1 hl2 HST
            go_wp2_with (first
              | (at_lookup; refine wpList_lookup_own_ok_int _ rfl _ _ 167 rfl 25 25 .i64 keyed25 Try.underlying167 Try.underlying25 (zero25 _) w4.heap.size j D rfl hown _ _ rfl hkey ?_; intro c _ _)
              | (at_mapUpdate; refine wpList_mapUpdate_own _ rfl _ _ _ 167 rfl 25 25 keyed25 Try.underlying167 _ w4.heap.size j D rfl hown (by unfold maxLen; omega) _ _ _ rfl rfl hkey _ [] hpl ?_; intro w1 hown1 hgrow1; have HO1 := hide hown1; have HG1 := hide hgrow1; clear hown1 hgrow1))
            go_roundw
            case rel => exact ⟨j + 1, hlt, by go_num, HF.out.trans' (fr_grown HG1.out) (fun i hi h => by injection h with h; omega), HN.out _ HO1.out⟩
            case measure => simp [intOf]; omega
        · obtain rfl : fs.length = j := by omega
          rw [List.take_of_length_le (Nat.le_refl _), List.take_of_length_le (by have := HLN.out; omega)] at nms
          have bz5 := bz4.fr fr fun h => h
          have bv5 := bv4.fr fr fun h => h
          have ht5 := ht4.no fr (by omega)
          have HF5 := hide (HF4.out.trans fr)
          have HN5 := hide nms.names
          have hml := nms.names.lt
          obtain ⟨c0, c1, c2, c3, c4, -⟩ := bv5.cells5
          have q0 := bv5.lt
          have HB5 := hide bz5
          clear nms bz4 bv4 ht4 fr pf4 pt4 HST HF4 bz5 bv5
          generalize w4.heap.size = mb at *
          go_wp2_with fail
          refine (hO wr ht5 (by omega)).mono ?_
          rintro e w6 ⟨⟨k6, n6, s6, A6, c6, l6, r6⟩, rfl, hv6, hsh6, f6⟩
          rw [T.val_mk]
          have hs6 := f6.size
          have f7 := f6.alloc (.cells #[.int .u8 k6, .int .i64 n6, .string s6, .slice A6 l6.length c6, .int .i64 r6] 27)
          have f67 := (Fr.refl No w6).alloc (.cells #[.int .u8 k6, .int .i64 n6, .string s6, .slice A6 l6.length c6, .int .i64 r6] 27)
          have bo7 := Blk.new w6 27 #[.int .u8 k6, .int .i64 n6, .string s6, .slice A6 l6.length c6, .int .i64 r6]
          have hsh7 := hsh6.no f67
          have HN7 := hide (HN5.out.fr f7 fun h => h)
          have HB7 := hide (HB5.out.fr f7 fun h => h)
          have HF7 := hide (HF5.out.trans f7)
          have hbl : ∀ i ∈ (T.mk k6 n6 s6 A6 c6 l6 r6).blocks, wr.heap.size ≤ i ∧ i < w6.heap.size := fun i hi => T.In.blocks _ hsh6.inn i hi
          have hren := rename_any (nmOf fs ts) mb (T.mk k6 n6 s6 A6 c6 l6 r6) w6.heap.size 0 wr.heap.size w6.heap.size _ (fun j u hu => by rw [Nat.zero_add, bo7.cell]; simpa [T.cells_mk] using hu) (fun i => bo7.frozen i) bo7.lt hsh7.sp hsh7.nodup (fun h => by have := hbl _ h; omega) (by simp) HN7.out (by omega) (fun h => by have := hbl _ h; omega)
          have HR := hide hren
          have HBL := hide hbl
          have HV6 := hide hv6
          have HBO := hide bo7
          have HND := hide hsh7.nodup
          clear hren hbl hv6 hsh6 hsh7 f6 f7 f67 bo7 HN5 HB5 HF5 ht5 hO c0 c1 c2 c3 c4 q0
          go_wp2_with fail
          generalize World.alloc w6 _ = w7 at *
          refine HR.out.mono ?_
          rintro e w8 hq
          have he := hq.e
          subst he
          rw [HV6.out]
          have hs8 := hq.fr.size
          have hgt : ∀ i, (i = w6.heap.size ∨ i ∈ (T.mk k6 n6 s6 A6 c6 l6 r6).blocks) → w.heap.size + 2 ≤ i := fun i h => by
            rcases h with h | h
            · omega
            · have := HBL.out i h; omega
          have hF8 : Fr No w w8 := HF7.out.trans' hq.fr fun i hi h => by have := hgt i h; omega
          have bz8 := HB7.out.fr hq.fr (fun h => by have := hgt _ h; omega)
          have HF8 := hide hF8
          have HB8 := hide bz8
          have hz8 := bz8.lt
          cases hn : u.named (nmOf fs ts) with
          | false =>
            obtain ⟨d0, d1, d2, d3, d4, df⟩ := bz8.cells5
            have e2 : rv = (V.zero, 21) := by rw [E1.out, hn]; rfl
            have E2 := hide e2
            clear e2 hn hq bz8 hF8 hgt
            go_wp2
            refine bodyPost_ret (v := .tuple #[.agg #[.int .u8 0, .int .i64 0, .string ⟨#[]⟩, .slice none 0 0, .int .i64 0], .int .i64 21]) (by simp [results, Try.results72, go_sem, *]) rfl ?_
            have hF2 := HF8.out
            rw [E2.out]
            refine ⟨T.zero, rfl, T.zero_v, T.zero_sh _ _ _, ?_⟩
            repeat (first | with_reducible exact hF2 | with_reducible refine Fr.setNew ?_ (by first | (simp; done) | (simp; omega)) _)
          | true =>
            have e2 : rv = (u.ren (nmOf fs ts), 0) := by rw [E1.out, hn]; rfl
            have hsp8 := hq.sp (by rw [HV6.out]; exact hn)
            obtain ⟨h4, h5⟩ := hq.one k6 n6 s6 A6 c6 l6 r6 rfl (by rw [HV6.out]; exact hn)
            obtain ⟨L', r'', hx, hL'⟩ : ∃ L' r'', (T.mk k6 n6 s6 A6 c6 l6 r6).ren (nmOf fs ts) = T.mk k6 n6 s6 A6 c6 L' r'' ∧ L'.length = l6.length := by
              rw [T.ren_mk]
              split
              · exact ⟨_, _, rfl, rfl⟩
              · exact ⟨_, _, rfl, by simp⟩
            have hcc := T.ren_cells (nmOf fs ts) k6 n6 s6 A6 c6 l6 r6
            rw [hx, T.cells_mk] at hcc
            simp only [List.cons.injEq, true_and, and_true] at hcc
            have hr'' := hcc.2
            clear hcc
            simp only [Value.int.injEq, true_and] at hr''
            have bo8 : Blk w8 w6.heap.size 27 #[.int .u8 k6, .int .i64 n6, .string s6, .slice A6 l6.length c6, .int .i64 r''] := by
              rw [hr'']
              by_cases hk : k6 = 4
              · rw [h4 hk, if_pos hk]
                have := HBO.out.set_ (0 + 4) (.int .i64 ((nmOf fs ts r6).getD 0))
                simpa using this
              · rw [if_neg hk]
                exact HBO.out.fr (h5 hk) fun h => by have := HBL.out _ h; omega
            have hv8 : (T.mk k6 n6 s6 A6 c6 L' r'').v = u.ren (nmOf fs ts) := by rw [← hx, T.ren_v, HV6.out]
            have hb8 : (T.mk k6 n6 s6 A6 c6 L' r'').blocks = (T.mk k6 n6 s6 A6 c6 l6 r6).blocks := by rw [← hx, T.ren_blocks]
            rw [hx] at hsp8
            obtain ⟨d0, d1, d2, d3, d4, df⟩ := bz8.cells5
            obtain ⟨c0, c1, c2, c3, c4, -⟩ := bo8.cells5
            have q0 := bo8.lt
            have E2 := hide e2
            have HSP := hide hsp8
            have HV8 := hide hv8
            have HB := hide hb8
            have HL := hide hL'
            clear e2 hn hq bz8 hF8 hgt hsp8 h4 h5 hx hr'' bo8 hv8 hb8 hL'
            go_wp2
            refine bodyPost_ret (v := .tuple #[.agg #[.int .u8 k6, .int .i64 n6, .string s6, .slice A6 l6.length c6, .int .i64 r''], .int .i64 0]) (by simp [results, Try.results72, go_sem, *]) rfl ?_
            have hF2 := HF8.out
            rw [E2.out]
            refine ⟨T.mk k6 n6 s6 A6 c6 L' r'', by rw [T.val_mk, HL.out], HV8.out, ?_, ?_⟩
            · have hsh : (T.mk k6 n6 s6 A6 c6 L' r'').Sh w8 wr.heap.size w6.heap.size := ⟨HSP.out, by rw [HB.out]; exact HND.out⟩
              refine (T.Sh.fr' (S := (· = w.heap.size + 1)) hsh ?_ (fun i h0 h1 h2 => by have h' : i = w.heap.size + 1 := h2; omega)).more (by omega) (by simp; omega)
              repeat (first | with_reducible exact Fr.refl _ w8 | with_reducible refine Fr.set ?_ (by simp) _)
            · repeat (first | with_reducible exact hF2 | with_reducible refine Fr.setNew ?_ (by first | (simp; done) | (simp; omega)) _)

end Go.Proofs.Ytihjmipmjogpoaa

/- Chapter 2: the law's own kept: is it as it was, the marks too? -/
namespace Go.Proofs.Ytihjmipmjogpoaa
open Go.RowKit

set_option maxRecDepth 100000 in
set_option maxHeartbeats 8000000 in
theorem kept_any (t : T) : ∀ (t' : T) (w : World) (lo hi lo' hi' : Nat), t.In w lo hi → hi ≤ w.heap.size → t.Mk w → t'.In w lo' hi' → hi' ≤ w.heap.size → t.v = t'.v →
    Calls Try.prog 45 #[t.val, t'.val] w fun e w' => e = .returned (.bool true) ∧ Fr No w w' := by
  induction t using T.ind with
  | h k n s A cap l r ih =>
    intro t' w lo hi lo' hi' ht hh hm ht' hh' he
    cases t' with
    | mk k' n' s' A' cap' l' r' =>
      rw [T.v_mk, T.v_mk] at he
      injection he with e1 e2 e3 e4 e5
      subst e1 e2 e3 e5
      have hl : l.length = l'.length := by simpa using congrArg List.length e4
      rw [T.val_mk, T.val_mk]
      have fr2 := ((Fr.refl No w).alloc (.cells #[.int .u8 k, .int .i64 n, .string s, .slice A l.length cap, .int .i64 r] 27)).alloc (.cells #[.int .u8 k, .int .i64 n, .string s, .slice A' l'.length cap', .int .i64 r] 27)
      have hlen := (T.in_mk.1 ht').1.len1
      rw [hl]
      rw [hl] at fr2
      have hK0 := (Blk.new' w 27 #[.int .u8 k, .int .i64 n, .string s, .slice A l'.length cap, .int .i64 r] rfl).alloc (.cells #[.int .u8 k, .int .i64 n, .string s, .slice A' l'.length cap', .int .i64 r] 27)
      have hV0 := Blk.new' (w.alloc (.cells #[.int .u8 k, .int .i64 n, .string s, .slice A l'.length cap, .int .i64 r] 27)) 27 #[.int .u8 k, .int .i64 n, .string s, .slice A' l'.length cap', .int .i64 r] (g := w.heap.size + 1) (by simp)
      have HL := hide hl
      have HE := hide e4
      clear hl e4
      by_cases h0 : l'.length = 0
      · obtain rfl : l' = [] := List.eq_nil_of_length_eq_zero h0
        clear ih ht ht' hm h0
        go_enter Try.func45, Try.ntmps45
        go_wp2
        go_ret
        exact ⟨rfl, fr2⟩
      have hl0 : ((l'.length : Int) == 0) = false := by simp; intro h; exact h0 (by rw [h]; rfl)
      have hl1 : (0 : Int) < (l'.length : Int) := by omega
      go_enter Try.func45, Try.ntmps45
      go_wp2_with fail
      go_loopw [5] (fun i wr => ∃ j : Nat, j ≤ l'.length ∧ i = .int .i64 j ∧ Fr No ((w.alloc (.cells #[.int .u8 k, .int .i64 n, .string s, .slice A l'.length cap, .int .i64 r] 27)).alloc (.cells #[.int .u8 k, .int .i64 n, .string s, .slice A' l'.length cap', .int .i64 r] 27)) wr) (fun i _ => l'.length - (intOf i).toNat)
      case atStart => exact ⟨0, Nat.zero_le _, rfl, Fr.refl _ _⟩
      case round =>
        obtain ⟨j, hj, rfl, fr⟩ := hrel
        have hK := hK0.fr fr (fun h => h)
        have hV := hV0.fr fr (fun h => h)
        have frw := fr2.trans fr
        have hszr := fr.size
        simp at hszr
        obtain ⟨c0, c1, c2, c3, c4, cf⟩ := hK.cells5
        obtain ⟨d0, d1, d2, d3, d4, df⟩ := hV.cells5
        have g2 : w.heap.size < wr.heap.size := by omega
        have g3 : w.heap.size + 1 < wr.heap.size := by omega
        have hh0 : hi ≤ wr.heap.size := by omega
        have hh1 : hi' ≤ wr.heap.size := by omega
        have htr := ht.no frw hh
        have hmr := T.Mk.no frw hh ht hm
        by_cases hlt' : j < l'.length
        · have hlt : j < l.length := by have := HL.out; omega
          obtain ⟨b, o, k1, n1, s1, A1, cap1, l1, r1, rfl, hb0, hb1, hx, hin, e0, e1, e2, e3, e4⟩ := T.elem htr hlt
          obtain ⟨b', o', k2, n2, s2, A2, cap2, l2, r2, rfl, hb0', hb1', hx', hin', f0, f1, f2, f3, f4⟩ := T.elem (ht'.no frw hh') hlt'
          have hm1 : (T.mk k1 n1 s1 A1 cap1 l1 r1).Mk wr := by rw [← hx]; exact (T.mk_mk.1 hmr).2 _ (List.getElem_mem hlt)
          have hve : (T.mk k1 n1 s1 A1 cap1 l1 r1).v = (T.mk k2 n2 s2 A2 cap2 l2 r2).v := by
            have := congrArg (fun q => q[j]?) HE.out
            simp [hlt, hlt'] at this
            rw [hx, hx'] at this
            exact this
          have IH := fun w1 (f : Fr No wr w1) => ih l[j] (List.getElem_mem hlt) (T.mk k2 n2 s2 A2 cap2 l2 r2) w1 lo hi lo' hi' (by rw [hx]; exact hin.no f hh0) (Nat.le_trans hh0 f.size) (by rw [hx]; exact T.Mk.no f hh0 hin hm1) (hin'.no f hh1) (Nat.le_trans hh1 f.size) (by rw [hx]; exact hve)
          rw [hx, T.val_mk, T.val_mk] at IH
          have HIH := hide IH
          have g0 : b < wr.heap.size := by omega
          have g1 : b' < wr.heap.size := by omega
          have HF := hide fr
          have HW := hide frw
          clear hx hx' ih hK hV fr frw ht ht' fr2 hm htr hmr hm1 hve IH hin hin' hK0 hV0
          go_wp2_with fail
          go_region_held3 (fun w' => (∀ c i, c < wr.heap.size → w'.cell? ⟨c, i, none⟩ = wr.cell? ⟨c, i, none⟩) ∧ Fr No wr w')
            (first | exact ⟨fun _ _ _ => rfl, Fr.drew (Fr.refl No wr)⟩ | (have hq : Fr No wr _ := (‹_ ∧ Fr No wr _›).2.trans ‹Fr No _ _›; exact ⟨hq.cells, hq⟩))
            (first
              | (go_at_call 45; have hs0 := (‹_ ∧ Fr No wr _›).2; ((with_reducible refine (HIH.out _ ?_).mono ?_); (exact hs0); rintro e w2 ⟨rfl, fr1⟩)))
          have HF2 := hide (‹_ ∧ Fr No wr _›).2
          go_wp2
          go_roundw
          case rel => exact ⟨j + 1, hlt', by go_num, HF.out.trans HF2.out⟩
          case measure => simp [intOf]; omega
        · obtain rfl : l'.length = j := by omega
          have hne : l ≠ [] := by rintro rfl; have := HL.out; simp at this; omega
          obtain ⟨b, o, rfl, hc, hcell⟩ := (T.mk_mk.1 hmr).1 hne
          obtain ⟨b', o', hA, hb0, hb1, -⟩ := (T.in_mk.1 htr).2.1 hne
          simp only [Option.some.injEq, Addr.mk.injEq, and_true] at hA
          obtain ⟨rfl, rfl⟩ := hA
          rw [HL.out] at hcell hc
          have hc2 : (l'.length : Int) + 1 ≤ (cap : Int) := by omega
          have g0 : b < wr.heap.size := by omega
          have HW := hide frw
          clear ih hmr htr ht ht' hm fr fr2 frw hK hV hc hne hK0 hV0
          have hw1 : IntKind.i64.wrap ((l'.length : Int) + 1) = (l'.length : Int) + 1 := IntWalk.i64_in _ (by omega)
          have hw2 : (0 : Int) ≤ (l'.length : Int) + 1 := by omega
          have hw3 : ((l'.length : Int) + 1).toNat = l'.length + 1 := by omega
          have hw4 : (l'.length : Int) < (l'.length : Int) + 1 := by omega
          go_wp2_with fail
          go_quiet (fail)
          go_wp2
          go_ret
          exact ⟨rfl, HW.out.drewN _⟩

end Go.Proofs.Ytihjmipmjogpoaa

/- Chapter 2: the document's answer: Deep, Refs. -/
namespace Go.Proofs.Ytihjmipmjogpoaa
open Go.RowKit

set_option maxRecDepth 100000 in
set_option maxHeartbeats 2000000 in
/-- The document's Deep. -/
theorem refDeep_any (t : T) : ∀ (w : World) (lo hi : Nat), t.In w lo hi → hi ≤ w.heap.size → t.v.dep ≤ 16 → Calls Try.prog 63 #[t.val] w fun e w' => e = .returned (.int .i64 (t.v.dep : Int)) ∧ Fr No w w' := by
  induction t using T.ind with
  | h k n s A cap l r ih =>
    intro w lo hi ht hh hd
    rw [T.val_mk]
    have fit := (T.in_mk.1 ht).1
    have hlen := fit.len1
    have hK := Blk.new' w 27 #[.int .u8 k, .int .i64 n, .string s, .slice A l.length cap, .int .i64 r] rfl
    have fr1 := (Fr.refl No w).alloc (.cells #[.int .u8 k, .int .i64 n, .string s, .slice A l.length cap, .int .i64 r] 27)
    by_cases h3 : k = 3
    case neg =>
      have h3' : (k != 3) = true := by simpa using h3
      have e : (T.mk k n s A cap l r).v.dep = 0 := by rw [T.v_mk, V.dep_mk, if_neg h3]
      rw [e]
      clear ih
      go_enter Try.func63, Try.ntmps63
      go_wp2
      go_ret
      exact ⟨rfl, fr1⟩
    subst h3
    have e : (T.mk 3 n s A cap l r).v.dep = top ((l.map T.v).map V.dep) + 1 := by rw [T.v_mk, V.dep_mk, if_pos rfl]; omega
    rw [e] at hd ⊢
    have hchild : ∀ x ∈ l, x.v.dep ≤ 15 := by
      intro x hx
      have := le_top (List.mem_map_of_mem (f := V.dep) (List.mem_map_of_mem (f := T.v) hx))
      omega
    clear e
    go_enter Try.func63, Try.ntmps63
    go_wp2_with fail
    go_loopw [3, 4, 5] (fun v i _ wr => ∃ j m : Nat, j ≤ l.length ∧ i = .int .i64 j ∧ v = .int .i64 (m : Int) ∧ m = top (((l.map T.v).map V.dep).take j) ∧ m ≤ 16 ∧ Fr No (w.alloc (.cells #[.int .u8 3, .int .i64 n, .string s, .slice A l.length cap, .int .i64 r] 27)) wr) (fun _ i _ _ => l.length - (intOf i).toNat)
    case atStart =>
      exact ⟨0, 0, Nat.zero_le _, rfl, rfl, by simp [top], by omega, Fr.refl _ _⟩
    case round =>
      obtain ⟨j, m, hj, rfl, rfl, hm, hm17, fr⟩ := hrel
      have frw := fr1.trans fr
      have HM := hide hm
      obtain ⟨c0, c1, c2, c3, c4, cf⟩ := (hK.fr fr fun h => h).cells5
      clear hm
      by_cases hlt : j < l.length
      · obtain ⟨b, o, k1, n1, s1, A1, cap1, l1, r1, rfl, hb0, hb1, hx, hin, e0, e1, e2, e3, e4⟩ := T.elem (ht.no frw hh) hlt
        have IH := ih l[j] (List.getElem_mem hlt)
        have hc := hchild l[j] (List.getElem_mem hlt)
        have hto := top_take_succ ((l.map T.v).map V.dep) j (by simpa using hlt)
        rw [List.getElem_map, List.getElem_map] at hto
        rw [hx] at IH hc hto
        rw [T.val_mk] at IH
        generalize (T.mk k1 n1 s1 A1 cap1 l1 r1).v = u at *
        have g0 : b < wr.heap.size := by have := frw.size; omega
        have IH2 := IH wr lo hi hin (by have := frw.size; omega) (by omega)
        have HIH := hide IH2
        have HF := hide fr
        have HT := hide hto
        clear hx ih fr frw fr1 hto hchild hin IH IH2
        generalize hq : u.dep = q at *
        have HQ := hide hq
        clear hq
        go_wp2_with fail
        refine HIH.out.mono ?_
        rintro e w2 ⟨rfl, fr2⟩
        have HF2 := hide fr2
        clear fr2
        by_cases hlt2 : m < q
        · go_wp2
          go_roundw
          case rel => exact ⟨j + 1, q, hlt, by go_num, rfl, by rw [HT.out, ← HM.out, Nat.max_eq_right (by omega)], by omega, HF.out.trans HF2.out⟩
          case measure => simp [intOf]; omega
        · go_wp2
          go_roundw
          case rel => exact ⟨j + 1, m, hlt, by go_num, rfl, by rw [HT.out, ← HM.out, Nat.max_eq_left (by omega)], by omega, HF.out.trans HF2.out⟩
          case measure => simp [intOf]; omega
      · obtain rfl : l.length = j := by omega
        have HW := hide frw
        clear ih
        have hm2 : m = top ((l.map T.v).map V.dep) := by rw [HM.out, List.take_of_length_le (by simp)]
        have HM2 := hide hm2
        clear hm2
        go_wp2
        go_ret
        exact ⟨by rw [← HM2.out]; rfl, HW.out⟩

/-- The references of a value, by the document. -/
def V.rf : V → List Int
  | .mk k _ _ l r => if k = 4 then [r] else (l.map V.rf).flatten
termination_by v => v
theorem V.rf_mk (k n : Int) (s : ByteArray) (l : List V) (r : Int) : (V.mk k n s l r).rf = if k = 4 then [r] else (l.map V.rf).flatten := by rw [V.rf]

theorem rf_walkL (l : List V) : ∀ (i : Nat) (p : List Int), (∀ v ∈ l, ∀ p, refsOf (v.walk p) = v.rf) → refsOf (walkL (l.map V.walk) i p) = (l.map V.rf).flatten := by
  induction l with
  | nil => intro i p _; rfl
  | cons x l ih =>
    intro i p h
    simp only [List.map_cons, walkL, refsOf_append, List.flatten_cons]
    rw [h x (by simp), ih (i + 1) p fun v hv => h v (by simp [hv])]

theorem rf_walk (v : V) : v.ok = true → ∀ p, refsOf (v.walk p) = v.rf := by
  induction v using V.ind with
  | h k n s l r ih =>
    intro hok p
    rw [V.ok_mk, Bool.and_eq_true, List.all_eq_true] at hok
    rw [V.walk_mk, V.rf_mk]
    simp only [refsOf]
    by_cases h4 : k = 4
    · obtain rfl : l = [] := List.eq_nil_of_length_eq_zero (fok_len (by omega) hok.1)
      simp [h4, walkL, refsOf]
    · rw [if_neg h4, if_neg h4, rf_walkL l 0 p fun v hv => ih v hv (hok.2 v hv)]

theorem refs_rf {v : V} (h : v.may = true) : v.refs = v.rf := by
  rw [V.refs, if_pos h, rf_walk v (may_ok h)]

theorem rf_length (v : V) : v.rf.length ≤ v.size := by
  induction v using V.ind with
  | h k n s l r ih =>
    rw [V.rf_mk, V.size_mk]
    split
    · simp
    · have : ((l.map V.rf).flatten).length ≤ (l.map V.size).sum := by
        rename_i h4
        clear h4
        induction l with
        | nil => simp
        | cons x l ih2 =>
          have h1 := ih x (by simp)
          have h2 := ih2 fun v hv => ih v (by simp [hv])
          simp only [List.map_cons, List.flatten_cons, List.length_append, List.sum_cons]
          omega
      omega

abbrev refCells (L : List Int) : List Value := L.map fun r => Value.int .i64 r

/-- What the document's Refs gives. -/
def RfP (L : List Int) (w : World) (e : Ending) (w' : World) : Prop :=
  ∃ v, e = .returned v ∧ w'.ownsRow w.heap.size 25 1 v L.length (refCells L) ∧ (L = [] → v = .slice none 0 0) ∧ Fr No w w'

set_option maxRecDepth 100000 in
set_option maxHeartbeats 4000000 in
theorem refRefs_any (t : T) : ∀ (w : World) (lo hi : Nat), t.In w lo hi → hi ≤ w.heap.size → t.v.size ≤ 1000000 → Calls Try.prog 62 #[t.val] w (RfP t.v.rf w) := by
  induction t using T.ind with
  | h k n s A cap l r ih =>
    intro w lo hi ht hh hsz
    rw [T.val_mk]
    have fit := (T.in_mk.1 ht).1
    have hlen := fit.len1
    have hK := Blk.new' w 27 #[.int .u8 k, .int .i64 n, .string s, .slice A l.length cap, .int .i64 r] rfl
    have fr1 := (Fr.refl No w).alloc (.cells #[.int .u8 k, .int .i64 n, .string s, .slice A l.length cap, .int .i64 r] 27)
    by_cases h4 : k = 4
    · subst h4
      have e : (T.mk 4 n s A cap l r).v.rf = [r] := by rw [T.v_mk, V.rf_mk, if_pos rfl]
      rw [e]
      have hB := Blk.new (w.alloc (.cells #[.int .u8 4, .int .i64 n, .string s, .slice A l.length cap, .int .i64 r] 27)) 25 #[.int .i64 r]
      have hP : RfP [r] w (.returned (.slice (some ⟨w.heap.size + 1, 0, none⟩) 1 1)) ((w.alloc (.cells #[.int .u8 4, .int .i64 n, .string s, .slice A l.length cap, .int .i64 r] 27)).alloc (.cells #[.int .i64 r] 25)) := by
        refine ⟨_, rfl, ⟨rfl, .inr ⟨w.heap.size + 1, 1, #[.int .i64 r], rfl, by omega, ?_, Nat.le_refl _, by unfold maxLen; omega, rfl, rfl⟩⟩, (fun h => by cases h), fr1.alloc _⟩
        rw [World.size_alloc] at hB
        exact hB
      have HP := hide hP
      clear ih hP hB
      go_enter Try.func62, Try.ntmps62
      go_wp2
      go_ret
      exact HP.out
    have h4' : (k == 4) = false := by simpa using h4
    have hrf : (T.mk k n s A cap l r).v.rf = ((l.map T.v).map V.rf).flatten := by rw [T.v_mk, V.rf_mk, if_neg h4]
    have hsize : (T.mk k n s A cap l r).v.size = 1 + ((l.map T.v).map V.size).sum := by rw [T.v_mk, V.size_mk]
    rw [hsize] at hsz
    have HRF := hide hrf
    clear hsize hrf
    obtain ⟨i0, hi0, hz0, hz1, hz2⟩ := info_parts ref_info
    go_enter Try.func62, Try.ntmps62
    go_wp2_with fail
    go_loopw [3, 4] (fun v i wr => ∃ (j : Nat) (A3 : Option Addr) (c3 : Nat) (L : List Int), j ≤ l.length ∧ i = .int .i64 j ∧ v = .slice A3 L.length c3 ∧ L = (((l.map T.v).take j).map V.rf).flatten ∧ wr.ownsRow (w.heap.size + 1) 25 1 v L.length (refCells L) ∧ (L = [] → v = .slice none 0 0) ∧ L.length ≤ (((l.map T.v).map V.size).take j).sum ∧ Fr No w wr ∧ Blk wr w.heap.size 27 #[.int .u8 k, .int .i64 n, .string s, .slice A l.length cap, .int .i64 r]) (fun _ i _ => l.length - (intOf i).toNat)
    case atStart =>
      exact ⟨0, none, 0, [], Nat.zero_le _, rfl, rfl, by simp, World.ownsRow_nil _ _ _ _, fun _ => rfl, by simp, fr1, hK⟩
    case round =>
      obtain ⟨j, A3, c3, L, hj, rfl, rfl, hL, own, hnil, hLs, fr, blk⟩ := hrel
      obtain ⟨c0, c1, c2, c3', c4, cf⟩ := blk.cells5
      have q0 := blk.lt
      have hts := sum_take_le ((l.map T.v).map V.size) j
      by_cases hlt : j < l.length
      · obtain ⟨b, o, k1, n1, s1, A1, cap1, l1, r1, rfl, hb0, hb1, hx, hin, e0, e1, e2, e3, e4⟩ := T.elem (ht.no fr hh) hlt
        have hto := sum_take_succ ((l.map T.v).map V.size) j (by simpa using hlt)
        have hts2 := sum_take_le ((l.map T.v).map V.size) (j + 1)
        rw [List.getElem_map, List.getElem_map, hx] at hto
        have hj' : j < (l.map T.v).length := by simpa using hlt
        have hap : (((l.map T.v).take (j + 1)).map V.rf).flatten = L ++ (T.mk k1 n1 s1 A1 cap1 l1 r1).v.rf := by
          rw [List.take_succ_eq_append_getElem hj', List.map_append, List.flatten_append, ← hL, List.getElem_map, hx]; simp
        have hrl := rf_length (T.mk k1 n1 s1 A1 cap1 l1 r1).v
        have IH := ih l[j] (List.getElem_mem hlt) wr lo hi (by rw [hx]; exact hin) (by have := fr.size; omega)
        rw [hx, T.val_mk] at IH
        generalize (T.mk k1 n1 s1 A1 cap1 l1 r1).v = u at *
        have IH2 := IH (by omega)
        have hus : u.size ≤ 1000000 := by omega
        have g0 : b < wr.heap.size := by have := fr.size; omega
        have HIH := hide IH2
        have HO := hide own
        have HF := hide fr
        have HB := hide blk
        have HN := hide hnil
        have HAP := hide hap
        have HTO := hide hto
        have HLS := hide hLs
        clear ih IH IH2 own fr blk hnil hap hto hL hx hin ht hLs hts2
        generalize hR : u.rf = R at *
        have HR := hide hR
        have hRl : R.length ≤ 1000000 := by omega
        have hLl : L.length ≤ 1000000 := by have := HLS.out; omega
        clear hR
        go_wp2_with fail
        refine HIH.out.mono ?_
        rintro e w2 ⟨vc, rfl, oc, hcn, f2⟩
        have hs2 := f2.size
        have hsw := HF.out.size
        have own2 := owns_fr HO.out f2 fun _ _ h => h
        have HF2 := hide f2
        have HB2 := hide (HB.out.fr f2 fun h => h)
        rcases List.eq_nil_or_concat R with rfl | ⟨R', x, hRe⟩
        · obtain rfl := hcn rfl
          clear hcn f2
          go_wp2_with (at_builtin; refine wpList_append_own_none (by rfl) _ _ _ (by rfl) (w.heap.size + 1) 25 i0 1 Try.underlying100 hi0 (.slice A3 L.length c3) L.length (refCells L) (by rfl) own2 (by rfl) ?_)
          go_roundw
          case rel => exact ⟨j + 1, A3, c3, L, hlt, by go_num, rfl, by rw [HAP.out]; simp, own2, HN.out, by rw [HTO.out]; have := HLS.out; omega, HF.out.trans HF2.out, HB2.out⟩
          case measure => simp [intOf]; omega
        · have hne : 0 < R.length := by rw [hRe]; simp
          clear hRe hcn
          obtain ⟨gc, cc, rfl, hg1, hg2⟩ := oc.form hne
          have hnews := World.ownsRow.cells oc (g := gc) rfl
          have HNE := hide hnews
          clear hnews oc f2
          go_wp2_with (at_builtin; refine wpList_append_lies _ (by rfl) _ _ _ (by rfl) (w.heap.size + 1) 25 i0 _ 1 8 Try.underlying100 hi0 hz0 hz1 hz2 (by rfl) (by omega) (.slice A3 L.length c3) L.length (refCells L) (by rfl) own2 ⟨gc, 0, none⟩ R.length cc (refCells R) (by rfl) (by simp) HNE.out (by simp [Value.oneCell']) hne (by unfold maxLen; omega) (by omega) (by omega) w2.heap.size rfl ?_; intro g cp w3 hown3 hgrow hat hlt3; have HO3 := hide hown3; have HG := hide hgrow; have HA := hide hat; clear hown3 hgrow hat)
          go_roundw
          case rel =>
            have hl2 := owns_lt own2
            have e : (L ++ R).length = L.length + R.length := List.length_append
            have hnb : ∀ i, i < w.heap.size + 1 → ¬ some i = (Value.slice A3 L.length c3).ownBlock := fun i hi h => by
              have := hl2 i h.symm; omega
            refine ⟨j + 1, some ⟨g, 0, none⟩, cp, L ++ R, hlt, by go_num, by rw [e], HAP.out.symm, ?_, fun h => ?_, ?_, ?_, HB2.out.fr (fr_grown HG.out) (hnb _ (by omega))⟩
            · have := HO3.out
              rw [e, refCells, List.map_append]
              exact this
            · exfalso
              have e0 : (L ++ R).length = 0 := by rw [h]; rfl
              omega
            · rw [HTO.out, e]; have := HLS.out; omega
            · exact (HF.out.trans HF2.out).trans' (fr_grown HG.out) fun i hi h => hnb i (by omega) h
          case measure => simp [intOf]; omega
      · obtain rfl : l.length = j := by omega
        have hLe : L = ((l.map T.v).map V.rf).flatten := by rw [hL, List.take_of_length_le (by simp)]
        have hP : RfP (T.mk k n s A cap l r).v.rf w (.returned (.slice A3 L.length c3)) wr := by
          rw [HRF.out, ← hLe]
          exact ⟨_, rfl, owns_mono own (by omega), hnil, fr⟩
        have HP := hide hP
        clear hP own hnil fr ih ht
        go_wp2
        go_ret
        exact HP.out

end Go.Proofs.Ytihjmipmjogpoaa

/- Chapter 2: posternlaw02.awake. -/
namespace Go.Proofs.Ytihjmipmjogpoaa
open Go.RowKit

theorem func105_neq_nil (w : World) (g : Nat) : (binOp .neq 73 (.func (.func 105) #[] #[.pointer (some ⟨g, 0, none⟩)]) .nilFunc).run Try.prog w = .ok (.bool true) w := by kernel_rfl

set_option maxRecDepth 100000 in
set_option maxHeartbeats 8000000 in
theorem awake_any (w : World) : Calls Try.prog 38 #[] w fun e w' => e = .returned (.bool true) ∧ Fr No w w' := by
  have hfn := func105_neq_nil
  go_enter Try.func38, Try.ntmps38
  go_wp2_with fail
  refine (num2_any 1 w).mono ?_
  rintro e w1 ⟨rfl, f1⟩
  go_wp2_with fail
  refine (ref2_any 7 w1).mono ?_
  rintro e w2 ⟨rfl, f2⟩
  have g2 := f1.trans f2
  clear f1 f2
  go_wp2_with fail
  have hB3 : Blk (w2.alloc (.cells awC1 27)) w2.heap.size 27 awC1 := Blk.new w2 27 awC1
  have g3 := g2.alloc (.cells awC1 27)
  unfold awC1 at hB3 g3
  generalize World.alloc w2 _ = w3 at *
  refine (list2_any _ 1 1 w3).mono ?_
  rintro e w4 ⟨rfl, f4⟩
  have hB4 := hB3.fr f4 fun h => h
  have g4 := g3.trans f4
  clear hB3 g3 f4 g2
  go_wp2_with fail
  have hB5 := hB4.alloc (.cells (awC2 w2.heap.size) 27)
  have hC5 : Blk (w4.alloc (.cells (awC2 w2.heap.size) 27)) w4.heap.size 27 (awC2 w2.heap.size) := Blk.new w4 27 _
  have g5 := g4.alloc (.cells (awC2 w2.heap.size) 27)
  unfold awC2 at hB5 hC5 g5
  generalize World.alloc w4 _ = w5 at *
  refine (list2_any _ 2 2 w5).mono ?_
  rintro e w6 ⟨rfl, f6⟩
  have hB6 := hB5.fr f6 fun h => h
  have hC6 := hC5.fr f6 fun h => h
  have g6 := g5.trans f6
  clear hB5 hC5 hB4 g4 g5 f6
  go_wp2_with fail
  have hV7 : Blk (w6.alloc (.cells #[.int .u8 3, .int .i64 0, .string ⟨#[]⟩, .slice (some ⟨w4.heap.size, 0, none⟩) 2 2, .int .i64 0] 27)) w6.heap.size 27 #[.int .u8 3, .int .i64 0, .string ⟨#[]⟩, .slice (some ⟨w4.heap.size, 0, none⟩) 2 2, .int .i64 0] := Blk.new w6 27 _
  have hB7 := hB6.alloc (.cells #[.int .u8 3, .int .i64 0, .string ⟨#[]⟩, .slice (some ⟨w4.heap.size, 0, none⟩) 2 2, .int .i64 0] 27)
  have hC7 := hC6.alloc (.cells #[.int .u8 3, .int .i64 0, .string ⟨#[]⟩, .slice (some ⟨w4.heap.size, 0, none⟩) 2 2, .int .i64 0] 27)
  have g7 := g6.alloc (.cells #[.int .u8 3, .int .i64 0, .string ⟨#[]⟩, .slice (some ⟨w4.heap.size, 0, none⟩) 2 2, .int .i64 0] 27)
  clear hB6 hC6 g6
  generalize World.alloc w6 _ = w7 at *
  generalize w6.heap.size = gv at *
  generalize w4.heap.size = gc at *
  generalize w2.heap.size = gb at *
  refine (aw_bytes hB7 hC7).mono ?_
  rintro e w8 ⟨rfl, f8⟩
  unfold awS
  have hV8 := hV7.fr f8 fun h => h
  have hB8 := hB7.fr f8 fun h => h
  have hC8 := hC7.fr f8 fun h => h
  have g8 := g7.trans f8
  clear hV7 hB7 hC7 g7 f8
  go_wp2_with fail
  refine (aw_read w8).mono ?_
  rintro e w9 ⟨⟨⟨k, n, s, A, cap, l, r⟩, ht, rfl, hin⟩, f9⟩
  rw [T.val_mk]
  have hV9 := hV8.fr f9 fun h => h
  have hB9 := hB8.fr f9 fun h => h
  have hC9 := hC8.fr f9 fun h => h
  have g9 := g8.trans f9
  obtain ⟨c0, c1, c2, c3, c4, -⟩ := hV9.cells5
  have q0 := hV9.lt
  have HT := hide ht
  have HI := hide hin
  clear hV8 hB8 hC8 g8 f9 ht hin
  go_wp2_with fail
  have f10 := ((Fr.refl No w9).alloc (.cells #[.int .u8 k, .int .i64 n, .string s, .slice A l.length cap, .int .i64 r] 27)).alloc (.cells #[.int .i64 1, .int .i64 0] 3)
  have hX10 : Blk ((w9.alloc (.cells #[.int .u8 k, .int .i64 n, .string s, .slice A l.length cap, .int .i64 r] 27)).alloc (.cells #[.int .i64 1, .int .i64 0] 3)) w9.heap.size 27 #[.int .u8 k, .int .i64 n, .string s, .slice A l.length cap, .int .i64 r] := (Blk.new w9 27 _).alloc _
  have hP10 : Blk ((w9.alloc (.cells #[.int .u8 k, .int .i64 n, .string s, .slice A l.length cap, .int .i64 r] 27)).alloc (.cells #[.int .i64 1, .int .i64 0] 3)) (w9.heap.size + 1) 3 #[.int .i64 1, .int .i64 0] := Blk.new' _ 3 _ (by simp)
  have hV10 := hV9.fr f10 fun h => h
  have hB10 := hB9.fr f10 fun h => h
  have hC10 := hC9.fr f10 fun h => h
  have g10 := g9.trans f10
  have HI10 := hide (HI.out.no f10 (Nat.le_refl _))
  have HS10 := hide f10.size
  clear hV9 hB9 hC9 g9 f10 c0 c1 c2 c3 c4 q0
  generalize World.alloc (World.alloc w9 _) _ = w10 at *
  generalize hgx : w9.heap.size = gx at *
  clear hgx
  refine (aw_atc hB10 hC10 hP10).mono ?_
  rintro e w11 ⟨⟨A2, cap2, rfl⟩, f11⟩
  have hV11 := hV10.fr f11 fun h => h
  have hB11 := hB10.fr f11 fun h => h
  have hC11 := hC10.fr f11 fun h => h
  have hX11 := hX10.fr f11 fun h => h
  have g11 := g10.trans f11
  have HI11 := hide (HI10.out.no f11 HS10.out)
  have HS11 := hide (Nat.le_trans HS10.out f11.size)
  clear hV10 hB10 hC10 hX10 hP10 g10 f11 HI10 HS10
  go_wp2_with fail
  have f12 := (Fr.refl No w11).alloc (.cells #[.int .u8 4, .int .i64 0, .string ⟨#[]⟩, .slice A2 0 cap2, .int .i64 7] 27)
  have hY12 : Blk (w11.alloc (.cells #[.int .u8 4, .int .i64 0, .string ⟨#[]⟩, .slice A2 0 cap2, .int .i64 7] 27)) w11.heap.size 27 #[.int .u8 4, .int .i64 0, .string ⟨#[]⟩, .slice A2 0 cap2, .int .i64 7] := Blk.new w11 27 _
  have hV12 := hV11.fr f12 fun h => h
  have hB12 := hB11.fr f12 fun h => h
  have hC12 := hC11.fr f12 fun h => h
  have hX12 := hX11.fr f12 fun h => h
  have g12 := g11.trans f12
  have HI12 := hide (HI11.out.no f12 HS11.out)
  have HS12 := hide (Nat.le_trans HS11.out f12.size)
  clear hV11 hB11 hC11 hX11 g11 f12 HI11 HS11
  generalize World.alloc w11 _ = w12 at *
  generalize hgy : w11.heap.size = gy at *
  clear hgy
  refine (num2_any 1 w12).mono ?_
  rintro e w13 ⟨rfl, f13⟩
  go_wp2_with fail
  refine (num2_any 2 w13).mono ?_
  rintro e w14 ⟨rfl, f14⟩
  go_wp2_with fail
  refine (aw_order w14).mono ?_
  rintro e w15 ⟨rfl, f15⟩
  have f := (f13.trans f14).trans f15
  have hV15 := hV12.fr f fun h => h
  have hB15 := hB12.fr f fun h => h
  have hC15 := hC12.fr f fun h => h
  have hX15 := hX12.fr f fun h => h
  have hY15 := hY12.fr f fun h => h
  have g15 := g12.trans f
  have HI15 := hide (HI12.out.no f HS12.out)
  have HS15 := hide (Nat.le_trans HS12.out f.size)
  clear hV12 hB12 hC12 hX12 hY12 g12 f f13 f14 f15 HI12 HS12
  obtain ⟨c0, c1, c2, c3, c4, -⟩ := hV15.cells5
  obtain ⟨x0, x1, x2, x3, x4, -⟩ := hX15.cells5
  have q0 := hV15.lt
  have q1 := hX15.lt
  go_wp2_with fail
  have HSM := aw_same hB15 hC15 HT.out (T.In.more (Nat.le_refl _) HS15.out _ HI15.out)
  rw [T.val_mk] at HSM
  refine HSM.mono ?_
  rintro e w16 ⟨rfl, f16⟩
  have hV16 := hV15.fr f16 fun h => h
  have hB16 := hB15.fr f16 fun h => h
  have hC16 := hC15.fr f16 fun h => h
  have hY16 := hY15.fr f16 fun h => h
  have g16 := g15.trans f16
  clear hV15 hB15 hC15 hX15 hY15 g15 f16 HI15 HS15 c0 c1 c2 c3 c4 x0 x1 x2 x3 x4 q0 q1 HSM HT HI
  obtain ⟨c0, c1, c2, c3, c4, -⟩ := hV16.cells5
  obtain ⟨y0, y1, y2, y3, y4, -⟩ := hY16.cells5
  have q0 := hV16.lt
  have q1 := hY16.lt
  go_wp2_with fail
  clear c0 c1 c2 c3 c4 y0 y1 y2 y3 y4 q0 q1 hY16
  refine (aw_parts hB16 hC16).mono ?_
  rintro e w17 ⟨rfl, f17⟩
  have hV17 := hV16.fr f17 fun h => h
  have hB17 := hB16.fr f17 fun h => h
  have hC17 := hC16.fr f17 fun h => h
  have g17 := g16.trans f17
  clear hV16 hB16 hC16 g16 f17
  obtain ⟨c0, c1, c2, c3, c4, -⟩ := hV17.cells5
  have q0 := hV17.lt
  go_wp2_with fail
  clear c0 c1 c2 c3 c4 q0
  refine (aw_deep hB17 hC17).mono ?_
  rintro e w18 ⟨rfl, f18⟩
  have hV18 := hV17.fr f18 fun h => h
  have hB18 := hB17.fr f18 fun h => h
  have hC18 := hC17.fr f18 fun h => h
  have g18 := g17.trans f18
  clear hV17 hB17 hC17 g17 f18
  obtain ⟨c0, c1, c2, c3, c4, -⟩ := hV18.cells5
  have q0 := hV18.lt
  go_wp2_with fail
  clear c0 c1 c2 c3 c4 q0
  refine (aw_mayc hB18 hC18).mono ?_
  rintro e w19 ⟨rfl, f19⟩
  have hV19 := hV18.fr f19 fun h => h
  have hB19 := hB18.fr f19 fun h => h
  have hC19 := hC18.fr f19 fun h => h
  have g19 := g18.trans f19
  clear hV18 hB18 hC18 g18 f19
  obtain ⟨c0, c1, c2, c3, c4, -⟩ := hV19.cells5
  have q0 := hV19.lt
  go_wp2_with fail
  clear c0 c1 c2 c3 c4 q0
  refine (aw_each hB19 hC19).mono ?_
  rintro e w20 ⟨rfl, f20⟩
  have g20 := g19.trans f20
  go_wp2
  go_ret
  exact ⟨rfl, g20⟩

end Go.Proofs.Ytihjmipmjogpoaa

/- Chapter 2: a value that came in, and its lent likeness, in a world behind. -/
namespace Go.Proofs.Ytihjmipmjogpoaa
open Go.RowKit

structure Lo (w wi : World) (b0 go : Nat) (v own : T) (lo hi : Nat) : Prop where
  bv : Blk wi b0 27 v.cells.toArray
  bo : Blk wi go 27 own.cells.toArray
  iv : v.In wi 0 w.heap.size
  io : own.In wi lo hi
  mo : own.Mk wi
  f : Fr No w wi
  h0 : w.heap.size ≤ b0
  h1 : b0 < lo
  h2 : lo ≤ hi
  h3 : hi ≤ go

theorem Lo.fr {S : Nat → Prop} {w wi wj : World} {b0 go : Nat} {v own : T} {lo hi : Nat} (h : Lo w wi b0 go v own lo hi) (f : Fr S wi wj) (hs : ∀ i, i ≤ go → ¬ S i) : Lo w wj b0 go v own lo hi := by
  have a := h.bo.lt
  have b := h.f.size
  have c := h.h0
  have d := h.h1
  have e := h.h2
  have g := h.h3
  exact ⟨h.bv.fr f (hs _ (by omega)), h.bo.fr f (hs _ (by omega)), h.iv.fr f b (fun i _ hi => hs i (by omega)), h.io.fr f (by omega) (fun i _ hi => hs i (by omega)),
    T.Mk.fr f (by omega) _ h.io (fun i hi => hs i (by have := T.In.blocks _ h.io i hi; omega)) h.mo, h.f.trans' f (fun i hi hS => hs i (by omega) hS), h.h0, h.h1, h.h2, h.h3⟩

theorem Lo.no {w wi wj : World} {b0 go : Nat} {v own : T} {lo hi : Nat} (h : Lo w wi b0 go v own lo hi) (f : Fr No wi wj) : Lo w wj b0 go v own lo hi := h.fr f fun _ _ h => h

theorem Lo.lt {w wi : World} {b0 go : Nat} {v own : T} {lo hi : Nat} (h : Lo w wi b0 go v own lo hi) : hi ≤ wi.heap.size := by have := h.bo.lt; have := h.h3; omega

theorem may_small {v : V} (h : v.may = true) : (v.size : Int) ≤ 1200 ∧ (v.ht : Int) ≤ 40 := by
  have h1 := ht_le_dep v (may_ok h)
  simp only [V.may, V.fits, Bool.and_eq_true, decide_eq_true_eq] at h
  omega

theorem rf_rng {w : World} {lo hi : Nat} (t : T) : t.In w lo hi → ∀ r ∈ t.v.rf, -9223372036854775808 ≤ r ∧ r ≤ 9223372036854775807 := by
  induction t using T.ind with
  | h k n s A cap l r ih =>
    intro h x hx
    obtain ⟨f, _, hl⟩ := T.in_mk.1 h
    rw [T.v_mk, V.rf_mk] at hx
    split at hx
    · simp at hx; subst hx; exact ⟨f.r0, f.r1⟩
    · obtain ⟨L, hL, hx⟩ := List.mem_flatten.1 hx
      obtain ⟨u, hu, rfl⟩ := List.mem_map.1 hL
      obtain ⟨y, hy, rfl⟩ := List.mem_map.1 hu
      exact ih y hy (hl y hy) x hx

theorem rf_pos (v : V) : v.ok = true → ∀ r ∈ v.rf, 1 ≤ r := by
  induction v using V.ind with
  | h k n s l r ih =>
    intro h x hx
    rw [V.ok_mk, Bool.and_eq_true, List.all_eq_true] at h
    rw [V.rf_mk] at hx
    split at hx
    · rename_i h4
      subst h4
      simp at hx
      subst hx
      have := h.1
      simp [fok] at this
      omega
    · obtain ⟨L, hL, hx⟩ := List.mem_flatten.1 hx
      obtain ⟨u, hu, rfl⟩ := List.mem_map.1 hL
      exact ih u hu (h.2 u hu) x hx

end Go.Proofs.Ytihjmipmjogpoaa

/- Chapter 2: plain laws of renaming. -/
namespace Go.Proofs.Ytihjmipmjogpoaa
open Go.RowKit

theorem ren_size (f : Int → Option Int) (v : V) : (v.ren f).size = v.size := by
  induction v using V.ind with
  | h k n s l r ih =>
    rw [V.ren_mk]
    split
    · rw [V.size_mk, V.size_mk]
    · have e : l.map (V.size ∘ V.ren f) = l.map V.size := List.map_congr_left fun x hx => ih x hx
      rw [V.size_mk, V.size_mk, List.map_map, e]

theorem ren_dep (f : Int → Option Int) (v : V) : (v.ren f).dep = v.dep := by
  induction v using V.ind with
  | h k n s l r ih =>
    rw [V.ren_mk]
    split
    · rw [V.dep_mk, V.dep_mk]
    · have e : l.map (V.dep ∘ V.ren f) = l.map V.dep := List.map_congr_left fun x hx => ih x hx
      rw [V.dep_mk, V.dep_mk, List.map_map, e]

theorem ren_rf (f : Int → Option Int) (v : V) : (v.ren f).rf = v.rf.map fun r => (f r).getD 0 := by
  induction v using V.ind with
  | h k n s l r ih =>
    rw [V.ren_mk]
    by_cases h4 : k = 4
    · rw [if_pos h4, V.rf_mk, V.rf_mk, if_pos h4, if_pos h4]; rfl
    · have e : l.map (V.rf ∘ V.ren f) = l.map (fun v => v.rf.map fun r => (f r).getD 0) := List.map_congr_left fun x hx => ih x hx
      rw [if_neg h4, V.rf_mk, V.rf_mk, if_neg h4, if_neg h4, List.map_map, e, List.map_flatten, List.map_map]
      rfl

theorem named_iff (f : Int → Option Int) (v : V) : v.named f = true ↔ ∀ r ∈ v.rf, (f r).isSome = true := by
  induction v using V.ind with
  | h k n s l r ih =>
    rw [V.named_mk, V.rf_mk]
    by_cases h4 : k = 4
    · simp [h4]
    · rw [if_neg h4, if_neg h4, List.all_eq_true]
      constructor
      · intro h x hx
        obtain ⟨L, hL, hx⟩ := List.mem_flatten.1 hx
        obtain ⟨u, hu, rfl⟩ := List.mem_map.1 hL
        exact (ih u hu).1 (h u hu) x hx
      · intro h u hu
        exact (ih u hu).2 fun x hx => h x (List.mem_flatten.2 ⟨_, List.mem_map_of_mem hu, hx⟩)

theorem ren_ok (f : Int → Option Int) (v : V) : v.ok = true → (∀ r ∈ v.rf, 1 ≤ (f r).getD 0) → (v.ren f).ok = true := by
  induction v using V.ind with
  | h k n s l r ih =>
    intro hok hp
    rw [V.ok_mk, Bool.and_eq_true, List.all_eq_true] at hok
    rw [V.rf_mk] at hp
    rw [V.ren_mk]
    by_cases h4 : k = 4
    · subst h4
      rw [if_pos rfl] at hp ⊢
      have := hp r (by simp)
      rw [V.ok_mk, Bool.and_eq_true, List.all_eq_true]
      refine ⟨?_, hok.2⟩
      have h1 := hok.1
      simp [fok] at h1 ⊢
      exact ⟨⟨⟨this, h1.1.1.2⟩, h1.1.2⟩, h1.2⟩
    · rw [if_neg h4] at hp ⊢
      rw [V.ok_mk, Bool.and_eq_true, List.all_eq_true, List.length_map]
      refine ⟨hok.1, fun u hu => ?_⟩
      obtain ⟨x, hx, rfl⟩ := List.mem_map.1 hu
      exact ih x hx (hok.2 x hx) fun r hr => hp r (List.mem_flatten.2 ⟨_, List.mem_map_of_mem hx, hr⟩)

theorem ren_may {f : Int → Option Int} {v : V} (hm : v.may = true) (hp : ∀ r ∈ v.rf, 1 ≤ (f r).getD 0) : (v.ren f).may = true := by
  have h := hm
  simp only [V.may, V.fits, Bool.and_eq_true, decide_eq_true_eq] at h ⊢
  exact ⟨⟨ren_ok f v h.1.1 hp, by rw [ren_size]; exact h.1.2⟩, by rw [ren_dep]; exact h.2⟩

theorem ren_congr {f g : Int → Option Int} (v : V) : (∀ r ∈ v.rf, (f r).getD 0 = (g r).getD 0) → v.ren f = v.ren g := by
  induction v using V.ind with
  | h k n s l r ih =>
    intro h
    rw [V.rf_mk] at h
    rw [V.ren_mk, V.ren_mk]
    by_cases h4 : k = 4
    · rw [if_pos h4] at h ⊢; rw [if_pos h4, h r (by simp)]
    · rw [if_neg h4] at h ⊢
      rw [if_neg h4]
      have e : l.map (V.ren f) = l.map (V.ren g) := List.map_congr_left fun x hx => ih x hx fun r hr => h r (List.mem_flatten.2 ⟨_, List.mem_map_of_mem hx, hr⟩)
      rw [e]

theorem ren_ren (f g : Int → Option Int) (v : V) : (v.ren f).ren g = v.ren fun r => g ((f r).getD 0) := by
  induction v using V.ind with
  | h k n s l r ih =>
    rw [V.ren_mk, V.ren_mk]
    by_cases h4 : k = 4
    · rw [if_pos h4, if_pos h4, V.ren_mk, if_pos h4]
    · rw [if_neg h4, if_neg h4, V.ren_mk, if_neg h4, List.map_map]
      have e : l.map (V.ren g ∘ V.ren f) = l.map (V.ren fun r => g ((f r).getD 0)) := List.map_congr_left fun x hx => ih x hx
      rw [e]

theorem ren_some (v : V) : v.ren some = v := by
  induction v using V.ind with
  | h k n s l r ih =>
    rw [V.ren_mk]
    by_cases h4 : k = 4
    · rw [if_pos h4]; rfl
    · rw [if_neg h4]
      have e : l.map (V.ren some) = l.map id := List.map_congr_left fun x hx => ih x hx
      rw [e, List.map_id]

theorem ren_id {f : Int → Option Int} {v : V} (h : ∀ r ∈ v.rf, (f r).getD 0 = r) : v.ren f = v := by
  rw [ren_congr (g := some) v h, ren_some]

/-! ### Names -/
theorem nm_mem : ∀ (fs ts : List Int) (r t : Int), nmOf fs ts r = some t → t ∈ ts
  | [], _, _, _, h => by simp [nmOf] at h
  | _ :: _, [], _, _, h => by simp [nmOf] at h
  | f :: fs, t0 :: ts, r, t, h => by
    simp only [nmOf] at h
    split at h
    · injection h with h; simp [h]
    · exact List.mem_cons_of_mem _ (nm_mem fs ts r t h)

theorem nm_isSome : ∀ (fs ts : List Int) (r : Int), fs.length ≤ ts.length → r ∈ fs → (nmOf fs ts r).isSome = true
  | [], _, _, _, h => by simp at h
  | _ :: _, [], _, h, _ => by simp at h
  | f :: fs, t :: ts, r, h, hm => by
    simp only [nmOf]
    split
    · rfl
    · rename_i hne
      rcases List.mem_cons.1 hm with rfl | hm
      · exact absurd rfl hne
      · exact nm_isSome fs ts r (by simpa using h) hm

theorem nm_key : ∀ (fs ts : List Int) (r t : Int), nmOf fs ts r = some t → r ∈ fs
  | [], _, _, _, h => by simp [nmOf] at h
  | _ :: _, [], _, _, h => by simp [nmOf] at h
  | f :: fs, t0 :: ts, r, t, h => by
    simp only [nmOf] at h
    split at h
    · rename_i e; simp [e]
    · exact List.mem_cons_of_mem _ (nm_key fs ts r t h)

/-- There and back. -/
theorem nm_back : ∀ (fs ts : List Int) (r t : Int), ts.Nodup → nmOf fs ts r = some t → nmOf ts fs t = some r
  | [], _, _, _, _, h => by simp [nmOf] at h
  | _ :: _, [], _, _, _, h => by simp [nmOf] at h
  | f :: fs, t0 :: ts, r, t, hn, h => by
    rw [List.nodup_cons] at hn
    simp only [nmOf] at h ⊢
    by_cases hf : f = r
    · rw [if_pos hf] at h
      injection h with h
      rw [if_pos h, hf]
    · rw [if_neg hf] at h
      have hm := nm_mem fs ts r t h
      rw [if_neg (fun e => hn.1 (by rw [e]; exact hm))]
      exact nm_back fs ts r t hn.2 h

/-- Twice at once: each name by what it goes under. -/
theorem nm_map : ∀ (fs ts : List Int) (g : Int → Int) (r t : Int), nmOf fs ts r = some t → nmOf fs (ts.map g) r = some (g t)
  | [], _, _, _, _, h => by simp [nmOf] at h
  | _ :: _, [], _, _, _, h => by simp [nmOf] at h
  | f :: fs, t0 :: ts, g, r, t, h => by
    simp only [nmOf, List.map_cons] at h ⊢
    split at h
    · rename_i e
      rw [if_pos e]
      injection h with h
      rw [h]
    · rename_i e
      rw [if_neg e]
      exact nm_map fs ts g r t h

theorem all_ge {L : List Int} (h : (L.all fun r => decide (1 ≤ r)) = true) : ∀ r ∈ L, 1 ≤ r := fun r hr => by simpa using List.all_eq_true.1 h r hr

/-- What it takes to be renamed. -/
theorem renV_ok {v : V} {fs ts : List Int} (h : (renV v fs ts).2 = 0) : v.may = true ∧ fs.length = ts.length ∧ (∀ r ∈ fs, 1 ≤ r) ∧ (∀ r ∈ ts, 1 ≤ r) ∧ v.named (nmOf fs ts) = true ∧ (renV v fs ts).1 = v.ren (nmOf fs ts) := by
  unfold renV at h ⊢
  split at h
  · rename_i hc
    simp only [Bool.and_eq_true, decide_eq_true_eq] at hc
    split at h
    · rename_i hn
      rw [if_pos (by simp only [Bool.and_eq_true, decide_eq_true_eq]; exact hc), if_pos hn]
      exact ⟨hc.1, hc.2.1, all_ge hc.2.2.1, all_ge hc.2.2.2, hn, rfl⟩
    · cases h
  · cases h

theorem renV_yes {v : V} {fs ts : List Int} (h1 : v.may = true) (h2 : fs.length = ts.length) (h3 : ∀ r ∈ fs, 1 ≤ r) (h4 : ∀ r ∈ ts, 1 ≤ r) (h5 : v.named (nmOf fs ts) = true) : renV v fs ts = (v.ren (nmOf fs ts), 0) := by
  unfold renV
  rw [if_pos, if_pos h5]
  simp only [Bool.and_eq_true, decide_eq_true_eq, List.all_eq_true]
  exact ⟨h1, h2, h3, h4⟩

theorem renV_err (v : V) (fs ts : List Int) : (renV v fs ts).2 = 0 ∨ (renV v fs ts).2 = 2 ∨ (renV v fs ts).2 = 21 := by
  unfold renV
  split
  · split <;> simp
  · simp

theorem nm_pos {v : V} {fs ts : List Int} (h4 : ∀ r ∈ ts, 1 ≤ r) (h5 : v.named (nmOf fs ts) = true) : ∀ r ∈ v.rf, 1 ≤ (nmOf fs ts r).getD 0 := fun r hr => by
  have h := (named_iff _ v).1 h5 r hr
  cases hq : nmOf fs ts r with
  | none => rw [hq] at h; cases h
  | some t => exact h4 t (nm_mem fs ts r t hq)

/-- Renamed back, where no name is met twice. -/
theorem ren_back {v : V} {fs ts : List Int} (h : (renV v fs ts).2 = 0) (hn : ts.Nodup) : renV (v.ren (nmOf fs ts)) ts fs = (v, 0) := by
  obtain ⟨h1, h2, h3, h4, h5, -⟩ := renV_ok h
  have hp := nm_pos h4 h5
  have hall := (named_iff _ v).1 h5
  have hb : ∀ r ∈ v.rf, nmOf ts fs ((nmOf fs ts r).getD 0) = some r := fun r hr => by
    cases hq : nmOf fs ts r with
    | none => have := hall r hr; rw [hq] at this; cases this
    | some t => exact nm_back fs ts r t hn hq
  rw [renV_yes (ren_may h1 hp) h2.symm h4 h3]
  · rw [ren_ren, ren_id]
    intro r hr
    rw [hb r hr]; rfl
  · rw [named_iff, ren_rf]
    intro x hx
    obtain ⟨r, hr, rfl⟩ := List.mem_map.1 hx
    rw [hb r hr]; rfl

/-- Renamed twice is renamed once. -/
theorem ren_twice {v : V} {fs ts ns : List Int} (h : (renV v fs ts).2 = 0) (h' : (renV (v.ren (nmOf fs ts)) ts ns).2 = 0) :
    renV v fs (ts.map fun t => (nmOf ts ns t).getD 0) = ((renV (v.ren (nmOf fs ts)) ts ns).1, 0) := by
  obtain ⟨h1, h2, h3, h4, h5, -⟩ := renV_ok h
  obtain ⟨g1, g2, g3, g4, g5, g6⟩ := renV_ok h'
  have hall := (named_iff _ v).1 h5
  have hb : ∀ r ∈ v.rf, nmOf fs (ts.map fun t => (nmOf ts ns t).getD 0) r = some ((nmOf ts ns ((nmOf fs ts r).getD 0)).getD 0) := fun r hr => by
    cases hq : nmOf fs ts r with
    | none => have := hall r hr; rw [hq] at this; cases this
    | some t => exact nm_map fs ts _ r t hq
  rw [renV_yes h1 (by simpa using h2) h3]
  · rw [g6, ren_ren, ren_congr (g := fun r => nmOf ts ns ((nmOf fs ts r).getD 0)) v fun r hr => by rw [hb r hr]; rfl]
  · intro x hx
    obtain ⟨t, ht, rfl⟩ := List.mem_map.1 hx
    cases hq : nmOf ts ns t with
    | none => have := nm_isSome ts ns t (by omega) ht; rw [hq] at this; cases this
    | some z => exact g4 z (nm_mem ts ns t z hq)
  · rw [named_iff]
    intro r hr
    rw [hb r hr]; rfl

end Go.Proofs.Ytihjmipmjogpoaa

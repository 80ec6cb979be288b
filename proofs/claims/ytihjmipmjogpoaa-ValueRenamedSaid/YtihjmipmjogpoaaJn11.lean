/- Texts joined: P15, G4, H0, U9. -/
import Derived.Test.YtihjmipmjogpoaaJn10
import Derived.Deep.QuietTactic
import Derived.BigQuiet
import Derived.Laws.OwnMore
import Derived.Deep.CutRange
import Derived.Test.YtihjmipmjogpoaaRows
import Derived.ProofKit
import Derived.OpenShut
import Derived.ChangeOld
/- Chapter 2: the law's own image: the references that some are turned into. -/
namespace Go.Proofs.Ytihjmipmjogpoaa
open Go.RowKit

theorem nm_next {fs ts : List Int} {k : Nat} {r x : Int} (h : fs[k]? = some x) (hne : x ≠ r) : nmOf (fs.drop k) (ts.drop k) r = nmOf (fs.drop (k + 1)) (ts.drop (k + 1)) r := by
  obtain ⟨hk, hx⟩ := List.getElem?_eq_some_iff.1 h
  rw [List.drop_eq_getElem_cons hk, hx]
  rcases Nat.lt_or_ge k ts.length with h2 | h2
  · rw [List.drop_eq_getElem_cons h2]
    simp only [nmOf]
    rw [if_neg hne]
  · rw [List.drop_of_length_le h2, List.drop_of_length_le (l := ts) (by omega)]
    simp only [nmOf]
    cases fs.drop (k + 1) <;> rfl

theorem nm_here {fs ts : List Int} {k : Nat} {r : Int} (h : fs[k]? = some r) (hs : (nmOf (fs.drop k) (ts.drop k) r).isSome = true) : ∃ t, ts[k]? = some t ∧ nmOf (fs.drop k) (ts.drop k) r = some t := by
  obtain ⟨hk, hx⟩ := List.getElem?_eq_some_iff.1 h
  rw [List.drop_eq_getElem_cons hk, hx] at hs ⊢
  rcases Nat.lt_or_ge k ts.length with h2 | h2
  · rw [List.drop_eq_getElem_cons h2] at hs ⊢
    refine ⟨ts[k], List.getElem?_eq_getElem h2, ?_⟩
    simp [nmOf]
  · rw [List.drop_of_length_le h2] at hs
    simp [nmOf] at hs

def ImageP (L : List Int) (w : World) (e : Ending) (w' : World) : Prop := ∃ v, e = .returned (.tuple #[v, .bool true]) ∧ w'.ownsRow w.heap.size 25 1 v L.length (refCells L) ∧ Fr No w w'

set_option maxRecDepth 100000 in
set_option maxHeartbeats 8000000 in
theorem image_any (Al Af At : Option Addr) (cl cf ct : Nat) (l fs ts : List Int) (w : World) (ll hl lf hf lt ht : Nat) (pl : Ints w ll hl Al cl l) (hhl : hl ≤ w.heap.size) (pf : Ints w lf hf Af cf fs) (hhf : hf ≤ w.heap.size) (pt : Ints w lt ht At ct ts) (hht : ht ≤ w.heap.size)
    (hall : ∀ r ∈ l, (nmOf fs ts r).isSome = true) : Calls Try.prog 74 #[.slice Al l.length cl, .slice Af fs.length cf, .slice At ts.length ct] w (ImageP (l.map fun r => (nmOf fs ts r).getD 0) w) := by
  have hll := pl.len
  have hlf := pf.len
  have hlt := pt.len
  obtain ⟨i0, hi0, hz0, hz1, hz2⟩ := info_parts ref_info
  have HALL := hide hall
  clear hall
  go_enter Try.func74, Try.ntmps74
  go_wp2_with fail
  go_loopw [8, 9, 10] (fun v i _ wr => ∃ (j : Nat) (A3 : Option Addr) (c3 : Nat), j ≤ l.length ∧ i = .int .i64 j ∧ v = .slice A3 j c3 ∧ wr.ownsRow w.heap.size 25 1 v j (refCells ((l.take j).map fun r => (nmOf fs ts r).getD 0)) ∧ Fr No w wr) (fun _ i _ _ => l.length - (intOf i).toNat)
  case atStart => exact ⟨0, none, 0, Nat.zero_le _, rfl, rfl, World.ownsRow_nil _ _ _ _, Fr.refl _ _⟩
  case round =>
    obtain ⟨j, A3, c3, hj, rfl, rfl, own, fr⟩ := hrel
    have hsz := fr.size
    by_cases hjl : j < l.length
    · obtain ⟨wo, rfl⟩ : ∃ wo : World, wo = wr := ⟨_, rfl⟩
      have htk : l.take (j + 1) = l.take j ++ [l[j]] := List.take_succ_eq_append_getElem hjl
      have hs := HALL.out _ (List.getElem_mem hjl)
      obtain ⟨bl, ol, rfl, hbl0, hbl1, hcl⟩ := (pl.no fr hhl).elem hjl
      have hrl := pl.rng _ (List.getElem_mem hjl)
      generalize l[j] = r at *
      have HTK := hide htk
      have HS := hide hs
      have HO := hide own
      have HF := hide fr
      clear htk hs own fr
      go_wp2_with fail
      go_loopw [10] (fun i wr => ∃ k : Nat, k ≤ fs.length ∧ i = .int .i64 k ∧ Fr No wo wr ∧ nmOf fs ts r = nmOf (fs.drop k) (ts.drop k) r) (fun i _ => fs.length - (intOf i).toNat)
      case atStart => exact ⟨0, Nat.zero_le _, rfl, Fr.refl _ _, rfl⟩
      case round =>
        obtain ⟨k, hk, rfl, frk, hnm⟩ := hrel
        have hkl : k < fs.length := by
          rcases Nat.lt_or_ge k fs.length with h | h
          · exact h
          · have := HS.out
            rw [hnm, List.drop_of_length_le h] at this
            simp [nmOf] at this
        have frw := HF.out.trans frk
        have hsk := frk.size
        obtain ⟨bf, of, rfl, hbf0, hbf1, hcf⟩ := (pf.no frw hhf).elem hkl
        have hcl' := (frk.cell (b := bl) (o := ol + j) (s := none) (by omega) (fun h => h)).trans hcl
        have g0 : bf < wr.heap.size := by omega
        have g1 : bl < wr.heap.size := by omega
        have hget : fs[k]? = some fs[k] := List.getElem?_eq_getElem hkl
        generalize fs[k] = x at *
        have HN := hide hnm
        have HK := hide frk
        have HW := hide frw
        have HG := hide hget
        clear hnm frk frw hget
        by_cases hxr : x = r
        · subst hxr
          have hs2 := HS.out
          rw [HN.out] at hs2
          obtain ⟨t, ht1, ht2⟩ := nm_here HG.out hs2
          obtain ⟨hkt, htt⟩ := List.getElem?_eq_some_iff.1 ht1
          obtain ⟨bt, ot, rfl, hbt0, hbt1, hct⟩ := (pt.no HW.out hht).elem hkt
          have hrt := pt.rng _ (List.getElem_mem hkt)
          rw [htt] at hct hrt
          have g2 : bt < wr.heap.size := by omega
          have hval : (nmOf fs ts x).getD 0 = t := by rw [HN.out, ht2]; rfl
          have HV := hide hval
          have h1 : ((k : Int) == (fs.length : Int)) = false := by simp; omega
          have h2 : ¬ ts.length ≤ k := by omega
          have h3 : decide (ts.length ≤ k) = false := by simpa using h2
          have own2 := owns_fr HO.out HK.out fun _ _ h => h
          clear hval ht1 ht2 htt hs2
          go_wp2_with fail
          go_quiet (fail)
          have hownA := fun n => World.ownsRow.alloc (w := wr.drewN n) own2 (.cells #[.int .i64 t] 25)
          go_wp2_with (at_builtin; refine wpList_append_lies _ (by rfl) _ _ _ (by rfl) w.heap.size 25 i0 _ 1 8 Try.underlying100 hi0 hz0 hz1 hz2 (by rfl) (by omega) (.slice A3 j c3) j (refCells ((l.take j).map fun r => (nmOf fs ts r).getD 0)) (by rfl) (hownA _) ⟨wr.heap.size, 0, none⟩ 1 1 [.int .i64 t] (by rfl) (by rfl) (World.news_of_block (Blk.new' (wr.drewN _) 25 _ rfl)) (by simp [Value.oneCell']) (by omega) (by unfold maxLen; omega) (by omega) (by simp; omega) (wr.heap.size + 1) (by simp) ?_; intro g cp w3 hown3 hgrow hat hlt3; have HO3 := hide hown3; have HG3 := hide hgrow; clear hown3 hgrow hat)
          go_roundw
          case rel =>
            refine ⟨j + 1, some ⟨g, 0, none⟩, cp, hjl, by go_num, rfl, ?_, ?_⟩
            · have h := HO3.out
              rw [HTK.out, List.map_append, refCells, List.map_append, List.map_singleton, List.map_singleton, HV.out]
              exact h
            · have hol := owns_lt own2
              exact ((HW.out.drewN _).alloc (.cells #[.int .i64 t] 25)).trans' (fr_grown HG3.out) fun i hi h => by
                have h' : some i = (Value.slice A3 j c3).ownBlock := h
                have := hol i h'.symm
                omega
          case measure => simp [intOf]; omega
        · have hne : (x != r) = true := by simpa using hxr
          go_wp2_with fail
          go_quiet (fail)
          go_wp2
          go_roundw
          case rel => exact ⟨k + 1, hkl, by go_num, HK.out.drewN _, by rw [HN.out]; exact nm_next HG.out hxr⟩
          case measure => simp [intOf]; omega
    · obtain rfl : l.length = j := by omega
      have hP : ImageP (l.map fun r => (nmOf fs ts r).getD 0) w (.returned (.tuple #[.slice A3 l.length c3, .bool true])) wr := by
        rw [List.take_of_length_le (Nat.le_refl _)] at own
        exact ⟨_, rfl, by rw [List.length_map]; exact own, fr⟩
      have HP := hide hP
      clear hP own fr pl pf pt
      go_wp2
      go_ret2
      exact HP.out

end Go.Proofs.Ytihjmipmjogpoaa

/- Chapter 2: ValueRenamed: what it computes. -/
namespace Go.Proofs.Ytihjmipmjogpoaa
open Go.RowKit

theorem ints_of_row {w : World} {base : Nat} {A : Option Addr} {c : Nat} {L : List Int} (h : w.ownsRow base 25 1 (.slice A L.length c) L.length (refCells L)) (hl : L.length ≤ 1000000) (hr : ∀ x ∈ L, -9223372036854775808 ≤ x ∧ x ≤ 9223372036854775807) : Ints w base w.heap.size A c L := by
  refine ⟨by omega, owns_le h, fun hne => ?_, hr⟩
  obtain ⟨g, c', hA, h0, h1⟩ := h.form (List.length_pos_iff.2 hne)
  simp only [Value.slice.injEq, true_and] at hA
  obtain ⟨rfl, rfl⟩ := hA
  refine ⟨g, 0, rfl, h0, h1, fun i x hx => ?_⟩
  have := World.ownsRow.cells h (g := g) rfl i (.int .i64 x) (by simp [refCells, hx])
  rwa [add_at] at this

/-- What ValueRenamed keeps. -/
structure Rn (w wi : World) (t : T) (Af At An : Option Addr) (cf ct cn : Nat) (fs ts ns : List Int) : Prop where
  bv : Blk wi w.heap.size 27 t.cells.toArray
  iv : t.In wi 0 w.heap.size
  pf : Ints wi 0 w.heap.size Af cf fs
  pt : Ints wi 0 w.heap.size At ct ts
  pn : Ints wi 0 w.heap.size An cn ns
  f : Fr No w wi

theorem Rn.no {w wi wj : World} {t : T} {Af At An : Option Addr} {cf ct cn : Nat} {fs ts ns : List Int} (h : Rn w wi t Af At An cf ct cn fs ts ns) (f : Fr No wi wj) : Rn w wj t Af At An cf ct cn fs ts ns :=
  ⟨h.bv.fr f fun h => h, h.iv.no f h.f.size, h.pf.no f h.f.size, h.pt.no f h.f.size, h.pn.no f h.f.size, h.f.trans f⟩

theorem refCells_get2 {R : List Int} {j : Nat} (h : j < R.length) : (refCells R)[j]? = some (.int .i64 R[j]) := by simp [refCells, h]

theorem nodup_snoc {L : List Int} {j : Nat} (h : j < L.length) : (L.take (j + 1)).Nodup ↔ (L.take j).Nodup ∧ ∀ k (hk : k < j), L[k] ≠ L[j] := by
  rw [List.take_succ_eq_append_getElem h, List.nodup_append]
  constructor
  · rintro ⟨h1, _, h3⟩
    exact ⟨h1, fun k hk => h3 _ (List.mem_take_iff_getElem.2 ⟨k, by omega, rfl⟩) _ (by simp)⟩
  · rintro ⟨h1, h2⟩
    refine ⟨h1, by simp, fun a ha b hb => ?_⟩
    simp at hb
    subst hb
    obtain ⟨k, hk, rfl⟩ := List.mem_take_iff_getElem.1 ha
    exact h2 k (by omega)

set_option maxRecDepth 100000 in
set_option maxHeartbeats 16000000 in
theorem valueRenamed_any (t : T) (Af : Option Addr) (cf : Nat) (fs : List Int) (At : Option Addr) (ct : Nat) (ts : List Int) (An : Option Addr) (cn : Nat) (ns : List Int) (w : World) (ht : t.In w 0 w.heap.size) (pf : Ints w 0 w.heap.size Af cf fs) (pt : Ints w 0 w.heap.size At ct ts) (pn : Ints w 0 w.heap.size An cn ns) :
    Calls Try.prog 16 #[t.val, .slice Af fs.length cf, .slice At ts.length ct, .slice An ns.length cn] w fun e w' => e = .returned (.bool true) ∧ Fr No w w' := by
  cases t with
  | mk k n s A cap l r =>
    rw [T.val_mk]
    have fr1 := (Fr.refl No w).alloc (.cells #[.int .u8 k, .int .i64 n, .string s, .slice A l.length cap, .int .i64 r] 27)
    have R1 : Rn w (w.alloc (.cells #[.int .u8 k, .int .i64 n, .string s, .slice A l.length cap, .int .i64 r] 27)) (T.mk k n s A cap l r) Af At An cf ct cn fs ts ns :=
      ⟨Blk.new w 27 _, ht.no fr1 (Nat.le_refl _), pf.no fr1 (Nat.le_refl _), pt.no fr1 (Nat.le_refl _), pn.no fr1 (Nat.le_refl _), fr1⟩
    have hlf := pf.len
    have hlt := pt.len
    have hln := pn.len
    have hsm := small_any (T.mk k n s A cap l r) 1200 40 _ 0 w.heap.size R1.iv R1.f.size (by omega) (by omega) (by omega) (by omega)
    rw [T.val_mk] at hsm
    generalize hu : (T.mk k n s A cap l r).v = u at *
    have HU := hide hu
    have HR1 := hide R1
    clear hu ht pf pt pn R1 fr1
    by_cases hfit : ¬ ((u.size : Int) ≤ 1200 ∧ (u.ht : Int) ≤ 40) ∨ (600 : Int) < (fs.length : Int) ∨ (600 : Int) < (ts.length : Int) ∨ (600 : Int) < (ns.length : Int)
    · have hz : ∃ z : Int, smallOf u 1200 40 = z ∧ ((z = -1 ∧ ¬ ((u.size : Int) ≤ 1200 ∧ (u.ht : Int) ≤ 40)) ∨ (decide (z < 0) = false ∧ ((u.size : Int) ≤ 1200 ∧ (u.ht : Int) ≤ 40))) := by
        by_cases h : (u.size : Int) ≤ 1200 ∧ (u.ht : Int) ≤ 40
        · exact ⟨_, rfl, .inr ⟨by rw [smallOf_yes h]; simp, h⟩⟩
        · exact ⟨_, rfl, .inl ⟨smallOf_no h, h⟩⟩
      obtain ⟨z, hz, hz2⟩ := hz
      rw [hz] at hsm
      have HZ := hide hz
      have HSM := hide hsm
      clear hsm hz
      rcases hz2 with ⟨rfl, -⟩ | ⟨hz2, hs2⟩
      · clear hfit
        go_enter Try.func16, Try.ntmps16
        go_wp2_with fail
        refine HSM.out.mono ?_
        rintro e w2 ⟨rfl, f2⟩
        have G := hide (HR1.out.f.trans f2)
        clear f2
        go_wp2_with fail
        refine (awake_any _).mono ?_
        rintro e w3 ⟨rfl, f3⟩
        go_wp2
        go_ret
        exact ⟨rfl, G.out.trans f3⟩
      · have hfit2 := hfit.resolve_left (fun h => h hs2)
        clear hfit hs2
        by_cases h1 : (600 : Int) < (fs.length : Int)
        · clear hfit2
          go_enter Try.func16, Try.ntmps16
          go_wp2_with fail
          refine HSM.out.mono ?_
          rintro e w2 ⟨rfl, f2⟩
          have G := hide (HR1.out.f.trans f2)
          clear f2
          go_wp2_with fail
          refine (awake_any _).mono ?_
          rintro e w3 ⟨rfl, f3⟩
          go_wp2
          go_ret
          exact ⟨rfl, G.out.trans f3⟩
        have hfit3 := hfit2.resolve_left h1
        clear hfit2
        by_cases h2 : (600 : Int) < (ts.length : Int)
        · clear hfit3
          go_enter Try.func16, Try.ntmps16
          go_wp2_with fail
          refine HSM.out.mono ?_
          rintro e w2 ⟨rfl, f2⟩
          have G := hide (HR1.out.f.trans f2)
          clear f2
          go_wp2_with fail
          refine (awake_any _).mono ?_
          rintro e w3 ⟨rfl, f3⟩
          go_wp2
          go_ret
          exact ⟨rfl, G.out.trans f3⟩
        have h3 := hfit3.resolve_left h2
        go_enter Try.func16, Try.ntmps16
        go_wp2_with fail
        refine HSM.out.mono ?_
        rintro e w2 ⟨rfl, f2⟩
        have G := hide (HR1.out.f.trans f2)
        clear f2
        go_wp2_with fail
        refine (awake_any _).mono ?_
        rintro e w3 ⟨rfl, f3⟩
        go_wp2
        go_ret
        exact ⟨rfl, G.out.trans f3⟩
    have hfs : (u.size : Int) ≤ 1200 ∧ (u.ht : Int) ≤ 40 := Classical.byContradiction fun h => hfit (.inl h)
    have h1 : ¬ (600 : Int) < (fs.length : Int) := fun h => hfit (.inr (.inl h))
    have h2 : ¬ (600 : Int) < (ts.length : Int) := fun h => hfit (.inr (.inr (.inl h)))
    have h3 : ¬ (600 : Int) < (ns.length : Int) := fun h => hfit (.inr (.inr (.inr h)))
    rw [smallOf_yes hfs] at hsm
    have hus := hfs.1
    have hnn : decide ((u.size : Int) < 0) = false := by simp
    have HSM := hide hsm
    have her := renV_err u fs ts
    clear hfit hfs hsm
    generalize hqq : u.size = qq at *
    have HQQ := hide hqq
    clear hqq
    go_enter Try.func16, Try.ntmps16
    go_wp2_with fail
    generalize World.alloc w _ = w1 at *
    refine HSM.out.mono ?_
    rintro e w2 ⟨rfl, f2⟩
    have R2 := HR1.out.no f2
    clear f2 HSM HR1
    obtain ⟨c0, c1, c2, c3, c4, -⟩ := Blk.cells5 R2.bv
    have q0 := R2.bv.lt
    have hrn := Rename_any (T.mk k n s A cap l r) w2 0 w.heap.size R2.iv R2.f.size Af At cf ct fs ts 0 w.heap.size 0 w.heap.size R2.pf R2.f.size R2.pt R2.f.size
    rw [T.val_mk, HU.out] at hrn
    have HRN := hide hrn
    have HR2 := hide R2
    clear hrn R2
    go_wp2_with fail
    refine HRN.out.mono ?_
    rintro e w3 ⟨⟨kx, nx, sx, Ax, cx, lx, rx⟩, rfl, hvx, hshx, f3⟩
    rw [T.val_mk]
    have HVX := hide hvx
    have HIX := hide hshx.inn
    have R3 := HR2.out.no f3
    clear HRN hvx hshx c0 c1 c2 c3 c4 q0
    by_cases he0 : (renV u fs ts).2 = 0
    case neg =>
      have hcase : (renV u fs ts).2 = 2 ∨ (renV u fs ts).2 = 21 := her.resolve_left he0
      have G := hide R3.f
      clear her he0 R3 f3
      generalize (renV u fs ts).2 = n0 at *
      rcases hcase with rfl | rfl
      all_goals
        go_wp2_with fail
        refine (awake_any _).mono ?_
        rintro e w4 ⟨rfl, f4⟩
        go_wp2
        go_ret
        exact ⟨rfl, (G.out.alloc _).trans f4⟩
    obtain ⟨hm, hlen, hfp, htp, hnm, hv1⟩ := renV_ok he0
    rw [hv1] at HVX
    have f34 := (Fr.refl No w3).alloc (.cells #[.int .u8 kx, .int .i64 nx, .string sx, .slice Ax lx.length cx, .int .i64 rx] 27)
    have R4 := R3.no f34
    have bx4 := Blk.new w3 27 #[.int .u8 kx, .int .i64 nx, .string sx, .slice Ax lx.length cx, .int .i64 rx]
    have ix4 := HIX.out.no f34 (Nat.le_refl _)
    have hs23 := f3.size
    have hs34 := bx4.lt
    have hs2 := HR2.out.f.size
    have HE0 := hide he0
    have HM := hide hm
    have HMX := hide (ren_may hm (nm_pos htp hnm))
    have HLEN := hide hlen
    have HNM := hide hnm
    have hlen2 : ts.length ≤ 600 := by omega
    have hrfl := rf_length u
    rw [HQQ.out] at hrfl
    have hrng := rf_rng _ R4.iv
    rw [HU.out] at hrng
    have hrfx := ren_rf (nmOf fs ts) u
    rw [he0]
    have hqs := ren_size (nmOf fs ts) u
    have hqd := ren_dep (nmOf fs ts) u
    have hq0 : u.rf.length = 0 → u.ren (nmOf fs ts) = u := fun h => ren_id fun r hr => by
      rw [List.eq_nil_of_length_eq_zero h] at hr; cases hr
    have hall := (named_iff _ u).1 hnm
    generalize hX : u.ren (nmOf fs ts) = X at *
    generalize hRR : u.rf = R at *
    have HX := hide hX
    have HRR := hide hRR
    have HRNG := hide hrng
    have HRFX := hide hrfx
    have HQ0 := hide hq0
    have HALL := hide hall
    have HQS := hide hqs
    have HQD := hide hqd
    clear her he0 hm hlen hfp htp hnm hv1 R3 f3 f34 hX hRR hrng hrfx hq0 hall hqs hqd
    obtain ⟨c0, c1, c2, c3, c4, -⟩ := Blk.cells5 R4.bv
    have q0 := R4.bv.lt
    go_wp2_with fail
    generalize World.alloc w3 _ = w4 at *
    have hc := Refs_any (T.mk k n s A cap l r) w4 0 w.heap.size R4.iv R4.f.size
    rw [T.val_mk, HU.out, refs_rf HM.out, HRR.out] at hc
    refine hc.mono ?_
    rintro e w5 ⟨x5, rfl, o5, f5⟩
    obtain ⟨A5, c5, rfl⟩ := owns_form o5
    have R5 := R4.no f5
    have bx5 := bx4.fr f5 fun h => h
    have ix5 := ix4.no f5 (by omega)
    have hs45 := f5.size
    have hi5 := ints_of_row o5 (by omega) HRNG.out
    have him := image_any A5 Af At c5 cf ct R fs ts w5 w4.heap.size w5.heap.size 0 w.heap.size 0 w.heap.size hi5 (Nat.le_refl _) R5.pf R5.f.size R5.pt R5.f.size HALL.out
    have HIM := hide him
    clear hc o5 f5 R4 bx4 ix4 hi5 him c0 c1 c2 c3 c4 q0
    go_wp2_with fail
    refine HIM.out.mono ?_
    rintro e w6 ⟨x6, rfl, ow, f6⟩
    obtain ⟨Aw, cw, rfl⟩ := owns_form ow
    rw [← HRFX.out] at ow
    have R6 := R5.no f6
    have bx6 := bx5.fr f6 fun h => h
    have ix6 := ix5.no f6 (by omega)
    have hs56 := f6.size
    have OW6 := hide ow
    clear HIM f6 R5 bx5 ix5 ow
    obtain ⟨c0, c1, c2, c3, c4, -⟩ := Blk.cells5 bx6
    have q0 := bx6.lt
    have hc := Refs_any (T.mk kx nx sx Ax cx lx rx) w6 w2.heap.size w3.heap.size ix6 (by omega)
    rw [T.val_mk, HVX.out, refs_rf HMX.out] at hc
    have HC := hide hc
    clear hc
    go_wp2_with fail
    refine HC.out.mono ?_
    rintro e w7 ⟨x7, rfl, og, f7⟩
    obtain ⟨Ag, cg, rfl⟩ := owns_form og
    have R7 := R6.no f7
    have bx7 := bx6.fr f7 fun h => h
    have ix7 := ix6.no f7 (by omega)
    have hs67 := f7.size
    have OW7 := hide (owns_fr OW6.out f7 fun _ _ h => h)
    have OG7 := hide og
    clear HC f7 R6 bx6 ix6 og OW6 c0 c1 c2 c3 c4 q0
    have hXl : X.rf.length = R.length := by rw [HRFX.out, List.length_map]
    rw [hXl] at OW7 OG7
    have hpx : ∀ w', Fr No w7 w' → Calls Try.prog 56 #[(T.mk kx nx sx Ax cx lx rx).val] w' fun e w2 => e = .returned (.int .i64 (qq : Int)) ∧ Fr No w' w2 := fun w' f => by
      have h := Parts_any (T.mk kx nx sx Ax cx lx rx) w' w2.heap.size w3.heap.size (ix7.no f (by omega)) (by have := f.size; omega)
      rw [HVX.out, V.meas, if_pos HMX.out, HQS.out, HQQ.out] at h
      exact h
    have hpv : ∀ w', Fr No w7 w' → Calls Try.prog 56 #[(T.mk k n s A cap l r).val] w' fun e w2 => e = .returned (.int .i64 (qq : Int)) ∧ Fr No w' w2 := fun w' f => by
      have h := Parts_any (T.mk k n s A cap l r) w' 0 w.heap.size (R7.no f).iv (R7.no f).f.size
      rw [HU.out, V.meas, if_pos HM.out, HQQ.out] at h
      exact h
    have hdx : ∀ w', Fr No w7 w' → Calls Try.prog 57 #[(T.mk kx nx sx Ax cx lx rx).val] w' fun e w2 => e = .returned (.int .i64 (u.dep : Int)) ∧ Fr No w' w2 := fun w' f => by
      have h := Deep_any (T.mk kx nx sx Ax cx lx rx) w' w2.heap.size w3.heap.size (ix7.no f (by omega)) (by have := f.size; omega)
      rw [HVX.out, if_pos HMX.out, HQD.out] at h
      exact h
    have hdv : ∀ w', Fr No w7 w' → Calls Try.prog 57 #[(T.mk k n s A cap l r).val] w' fun e w2 => e = .returned (.int .i64 (u.dep : Int)) ∧ Fr No w' w2 := fun w' f => by
      have h := Deep_any (T.mk k n s A cap l r) w' 0 w.heap.size (R7.no f).iv (R7.no f).f.size
      rw [HU.out, if_pos HM.out] at h
      exact h
    have hsv : R.length = 0 → ∀ w', Fr No w7 w' → Calls Try.prog 54 #[(T.mk kx nx sx Ax cx lx rx).val, (T.mk k n s A cap l r).val] w' fun e w2 => e = .returned (.bool true) ∧ Fr No w' w2 := fun h0 w' f => by
      have h := vsame_any (T.mk kx nx sx Ax cx lx rx) (T.mk k n s A cap l r) w' 0 w'.heap.size (T.In.more (Nat.zero_le _) (by have := f.size; omega) _ (ix7.no f (by omega))) (T.In.more (Nat.zero_le _) (R7.no f).f.size _ (R7.no f).iv) (Nat.le_refl _)
      rw [HVX.out, HU.out, HQ0.out h0, same2_self HM.out] at h
      exact h
    rw [T.val_mk] at hpx hpv hdx hdv
    rw [T.val_mk, T.val_mk] at hsv
    have HPX := hide hpx
    have HPV := hide hpv
    have HDX := hide hdx
    have HDV := hide hdv
    obtain ⟨c0, c1, c2, c3, c4, -⟩ := Blk.cells5 R7.bv
    obtain ⟨x0, x1, x2, x3, x4, -⟩ := Blk.cells5 bx7
    have q0 := R7.bv.lt
    have q1 := bx7.lt
    have HR7 := hide R7
    have HBX7 := hide bx7
    have HIX7 := hide ix7
    generalize u.dep = dd at *
    clear hpx hpv hdx hdv R7 bx7 ix7
    have hcell : ∀ w', Fr No w7 w' → w'.cell? ⟨w.heap.size, 0, none⟩ = some (.int .u8 k) ∧ w'.cell? ⟨w.heap.size, 1, none⟩ = some (.int .i64 n) ∧ w'.cell? ⟨w.heap.size, 2, none⟩ = some (.string s) ∧ w'.cell? ⟨w.heap.size, 3, none⟩ = some (.slice A l.length cap) ∧ w'.cell? ⟨w.heap.size, 4, none⟩ = some (.int .i64 r) ∧ w.heap.size < w'.heap.size ∧
        w'.cell? ⟨w3.heap.size, 0, none⟩ = some (.int .u8 kx) ∧ w'.cell? ⟨w3.heap.size, 1, none⟩ = some (.int .i64 nx) ∧ w'.cell? ⟨w3.heap.size, 2, none⟩ = some (.string sx) ∧ w'.cell? ⟨w3.heap.size, 3, none⟩ = some (.slice Ax lx.length cx) ∧ w'.cell? ⟨w3.heap.size, 4, none⟩ = some (.int .i64 rx) ∧ w3.heap.size < w'.heap.size := fun w' f => by
      have b1 := (HR7.out.no f).bv
      have b2 := HBX7.out.fr f fun h => h
      obtain ⟨c0, c1, c2, c3, c4, -⟩ := Blk.cells5 b1
      obtain ⟨x0, x1, x2, x3, x4, -⟩ := b2.cells5
      exact ⟨c0, c1, c2, c3, c4, b1.lt, x0, x1, x2, x3, x4, b2.lt⟩
    have HCELL := hide hcell
    have HSV := hide hsv
    clear hcell hsv
    go_upto_region 8 with (fail)
    go_cut [95] from 62 to 94 (fun s95 wx => s95 = Value.bool false ∧ Fr No w7 wx)
    case first =>
      by_cases hR0 : R.length = 0
      · have HSV1 := hide (HSV.out hR0)
        have hR1 : ((R.length : Int) == 0) = true := by simp [hR0]
        clear hR0
        go_region_held3 (fun w' => (∀ c i, c < w7.heap.size → w'.cell? ⟨c, i, none⟩ = w7.cell? ⟨c, i, none⟩) ∧ Fr No w7 w')
          (first | exact ⟨fun _ _ _ => rfl, Fr.drew (Fr.refl No w7)⟩ | (have hq : Fr No w7 _ := (‹_ ∧ Fr No w7 _›).2.trans ‹Fr No _ _›; exact ⟨hq.cells, hq⟩))
          (first
            | (go_at_call 56; have hs0 := (‹_ ∧ Fr No w7 _›).2; ((with_reducible refine (HPX.out _ hs0).mono ?_); rintro e w8 ⟨rfl, fr8⟩))
            | (go_at_call 56; have hs0 := (‹_ ∧ Fr No w7 _›).2; ((with_reducible refine (HPV.out _ hs0).mono ?_); rintro e w8 ⟨rfl, fr8⟩))
            | (go_at_call 57; have hs0 := (‹_ ∧ Fr No w7 _›).2; ((with_reducible refine (HDX.out _ hs0).mono ?_); rintro e w8 ⟨rfl, fr8⟩))
            | (go_at_call 57; have hs0 := (‹_ ∧ Fr No w7 _›).2; ((with_reducible refine (HDV.out _ hs0).mono ?_); rintro e w8 ⟨rfl, fr8⟩))
            | (go_at_call 54; have hs0 := (‹_ ∧ Fr No w7 _›).2; ((with_reducible refine (HSV1.out _ hs0).mono ?_); rintro e w8 ⟨rfl, fr8⟩)))
        all_goals
          have F8 := hide (‹_ ∧ Fr No w7 _›).2
          go_simp
          go_wp2_with fail
          go_meet
          exact ⟨rfl, F8.out⟩
      · have hR1 : ((R.length : Int) == 0) = false := by simp; intro h; exact hR0 (by rw [h]; rfl)
        have HR0 := hide hR0
        clear hR0
        refine wp_region_held_drew (S := (fun w' => (∀ c i, c < w7.heap.size → w'.cell? ⟨c, i, none⟩ = w7.cell? ⟨c, i, none⟩) ∧ Fr No w7 w')) (by kernel_rfl) ?_ (fun hHeld => ?_)
        · exact ⟨fun _ _ _ => rfl, Fr.drew (Fr.refl No w7)⟩
        refine wpAnyH_take (i := 0) (v := ?_) (by simp only [List.getElem?_toArray, List.getElem?_cons_succ, List.getElem?_cons_zero]; rfl) (by kernel_rfl) (by kernel_rfl) (by kernel_rfl) (by intro _ _ _ h; exact h) (Or.inl ⟨by rfl, ?_⟩) (by assumption) ?_
        rotate_left
        · (intro w hSw; (try dsimp only at hSw); go_simp; try (with_reducible rfl))
        try simp only [Act.put, List.setIfInBounds_toArray, List.set_cons_zero, List.set_cons_succ]
        refine wpAnyH_take (i := 1) (v := ?_) (by simp only [List.getElem?_toArray, List.getElem?_cons_succ, List.getElem?_cons_zero]; rfl) (by kernel_rfl) (by kernel_rfl) (by kernel_rfl) (by intro _ _ _ h; exact h) (Or.inl ⟨by rfl, ?_⟩) (by assumption) ?_
        rotate_left
        · (intro w hSw; (try dsimp only at hSw); go_simp; try (with_reducible rfl))
        try simp only [Act.put, List.setIfInBounds_toArray, List.set_cons_zero, List.set_cons_succ]
        refine wpAnyH_take (i := 2) (v := ?_) (by simp only [List.getElem?_toArray, List.getElem?_cons_succ, List.getElem?_cons_zero]; rfl) (by kernel_rfl) (by kernel_rfl) (by kernel_rfl) (by intro _ _ _ h; exact h) (Or.inl ⟨by rfl, ?_⟩) (by assumption) ?_
        rotate_left
        · (intro w hSw; (try dsimp only at hSw); go_simp; try (with_reducible rfl))
        try simp only [Act.put, List.setIfInBounds_toArray, List.set_cons_zero, List.set_cons_succ]
        refine wpAnyH_take (i := 3) (v := ?_) (by simp only [List.getElem?_toArray, List.getElem?_cons_succ, List.getElem?_cons_zero]; rfl) (by kernel_rfl) (by kernel_rfl) (by kernel_rfl) (by intro _ _ _ h; exact h) (Or.inl ⟨by rfl, ?_⟩) (by assumption) ?_
        rotate_left
        · (intro w hSw; (try dsimp only at hSw); go_simp; try (with_reducible rfl))
        try simp only [Act.put, List.setIfInBounds_toArray, List.set_cons_zero, List.set_cons_succ]
        refine wpAnyH_take (i := 4) (v := ?_) (by simp only [List.getElem?_toArray, List.getElem?_cons_succ, List.getElem?_cons_zero]; rfl) (by kernel_rfl) (by kernel_rfl) (by kernel_rfl) (by intro _ _ _ h; exact h) (Or.inl ⟨by rfl, ?_⟩) (by assumption) ?_
        rotate_left
        · (intro w hSw; (try dsimp only at hSw); go_simp; try (with_reducible rfl))
        try simp only [Act.put, List.setIfInBounds_toArray, List.set_cons_zero, List.set_cons_succ]
        refine wpAnyH_take (i := 5) (v := ?_) (by simp only [List.getElem?_toArray, List.getElem?_cons_succ, List.getElem?_cons_zero]; rfl) (by kernel_rfl) (by kernel_rfl) (by kernel_rfl) (by intro _ _ _ h; exact h) (Or.inl ⟨by rfl, ?_⟩) (by assumption) ?_
        rotate_left
        · (intro w hSw; (try dsimp only at hSw); go_simp; try (with_reducible rfl))
        try simp only [Act.put, List.setIfInBounds_toArray, List.set_cons_zero, List.set_cons_succ]
        refine wpAnyH_take (i := 6) (v := ?_) (by simp only [List.getElem?_toArray, List.getElem?_cons_succ, List.getElem?_cons_zero]; rfl) (by kernel_rfl) (by kernel_rfl) (by kernel_rfl) (by intro _ _ _ h; exact h) (Or.inl ⟨by rfl, ?_⟩) (by assumption) ?_
        rotate_left
        · (intro w hSw; (try dsimp only at hSw); go_simp; try (with_reducible rfl))
        try simp only [Act.put, List.setIfInBounds_toArray, List.set_cons_zero, List.set_cons_succ]
        refine wpAnyH_take (i := 7) (v := ?_) (by simp only [List.getElem?_toArray, List.getElem?_cons_succ, List.getElem?_cons_zero]; rfl) (by kernel_rfl) (by kernel_rfl) (by kernel_rfl) (by intro _ _ _ h; exact h) (Or.inl ⟨by rfl, ?_⟩) (by assumption) ?_
        rotate_left
        · (intro w hSw; (try dsimp only at hSw); go_simp; try (with_reducible rfl))
        try simp only [Act.put, List.setIfInBounds_toArray, List.set_cons_zero, List.set_cons_succ]
        refine wpAnyH_take (i := 8) (v := ?_) (by simp only [List.getElem?_toArray, List.getElem?_cons_succ, List.getElem?_cons_zero]; rfl) (by kernel_rfl) (by kernel_rfl) (by kernel_rfl) (by intro _ _ _ h; exact h) (Or.inl ⟨by rfl, ?_⟩) (by assumption) ?_
        rotate_left
        · (intro w hSw; (try dsimp only at hSw); go_simp; try (with_reducible rfl))
        try simp only [Act.put, List.setIfInBounds_toArray, List.set_cons_zero, List.set_cons_succ]
        refine wpAnyH_take (i := 9) (v := ?_) (by simp only [List.getElem?_toArray, List.getElem?_cons_succ, List.getElem?_cons_zero]; rfl) (by kernel_rfl) (by kernel_rfl) (by kernel_rfl) (by intro _ _ _ h; exact h) (Or.inl ⟨by rfl, ?_⟩) (by assumption) ?_
        rotate_left
        · (intro w hSw; (try dsimp only at hSw); go_simp; try (with_reducible rfl))
        try simp only [Act.put, List.setIfInBounds_toArray, List.set_cons_zero, List.set_cons_succ]
        refine wpAnyH_take (i := 10) (v := ?_) (by simp only [List.getElem?_toArray, List.getElem?_cons_succ, List.getElem?_cons_zero]; rfl) (by kernel_rfl) (by kernel_rfl) (by kernel_rfl) (by intro _ _ _ h; exact h) (Or.inl ⟨by rfl, ?_⟩) (by assumption) ?_
        rotate_left
        · (intro w hSw; (try dsimp only at hSw); go_simp; try (with_reducible rfl))
        try simp only [Act.put, List.setIfInBounds_toArray, List.set_cons_zero, List.set_cons_succ]
        refine wpAnyH_take (i := 12) (v := ?_) (by simp only [List.getElem?_toArray, List.getElem?_cons_succ, List.getElem?_cons_zero]; rfl) (by kernel_rfl) (by kernel_rfl) (by kernel_rfl) (by intro _ _ _ h; exact h) (Or.inl ⟨by rfl, ?_⟩) (by assumption) ?_
        rotate_left
        · (intro w hSw; (try dsimp only at hSw); go_simp; try (with_reducible rfl))
        try simp only [Act.put, List.setIfInBounds_toArray, List.set_cons_zero, List.set_cons_succ]
        refine wpAnyH_ready (rs := [11]) (by kernel_rfl) (by simp) ?_
        refine AllReadyH.cons rfl (fun K hK => ?_) AllReadyH.nil
        go_simp
        (go_at_call 56; have hs0 := (‹_ ∧ Fr No w7 _›).2; ((with_reducible refine (HPX.out _ hs0).mono ?_); rintro e w8 ⟨rfl, fr8⟩))
        go_simp
        refine hK.out _ _ ?_ (fun hHeld2 => ?_)
        · have hq : Fr No w7 _ := hs0.trans fr8
          exact ⟨hq.cells, hq⟩
        clear hK K hHeld hs0 fr8
        have hHeld := hHeld2
        clear hHeld2
        try simp only [Act.put, List.setIfInBounds_toArray, List.set_cons_zero, List.set_cons_succ]
        refine wpAnyH_ready (rs := [13]) (by kernel_rfl) (by simp) ?_
        refine AllReadyH.cons rfl (fun K hK => ?_) AllReadyH.nil
        go_simp
        (go_at_call 56; have hs0 := (‹_ ∧ Fr No w7 _›).2; ((with_reducible refine (HPV.out _ hs0).mono ?_); rintro e w8 ⟨rfl, fr8⟩))
        go_simp
        refine hK.out _ _ ?_ (fun hHeld2 => ?_)
        · have hq : Fr No w7 _ := hs0.trans fr8
          exact ⟨hq.cells, hq⟩
        clear hK K hHeld hs0 fr8
        have hHeld := hHeld2
        clear hHeld2
        try simp only [Act.put, List.setIfInBounds_toArray, List.set_cons_zero, List.set_cons_succ]
        refine wpAnyH_take (i := 14) (v := ?_) (by simp only [List.getElem?_toArray, List.getElem?_cons_succ, List.getElem?_cons_zero]; rfl) (by kernel_rfl) (by kernel_rfl) (by kernel_rfl) (by intro _ _ _ h; exact h) (Or.inl ⟨by rfl, ?_⟩) (by assumption) ?_
        rotate_left
        · (intro w hSw; (try dsimp only at hSw); go_simp; try (with_reducible rfl))
        try simp only [Act.put, List.setIfInBounds_toArray, List.set_cons_zero, List.set_cons_succ]
        refine wpAnyH_take (i := 15) (v := ?_) (by simp only [List.getElem?_toArray, List.getElem?_cons_succ, List.getElem?_cons_zero]; rfl) (by kernel_rfl) (by kernel_rfl) (by kernel_rfl) (by intro _ _ _ h; exact h) (Or.inl ⟨by rfl, ?_⟩) (by assumption) ?_
        rotate_left
        · (intro w hSw; (try dsimp only at hSw); go_simp; try (with_reducible rfl))
        try simp only [Act.put, List.setIfInBounds_toArray, List.set_cons_zero, List.set_cons_succ]
        refine wpAnyH_take (i := 16) (v := ?_) (by simp only [List.getElem?_toArray, List.getElem?_cons_succ, List.getElem?_cons_zero]; rfl) (by kernel_rfl) (by kernel_rfl) (by kernel_rfl) (by intro _ _ _ h; exact h) (Or.inl ⟨by rfl, ?_⟩) (by assumption) ?_
        rotate_left
        · (intro w hSw; (try dsimp only at hSw); go_simp; try (with_reducible rfl))
        try simp only [Act.put, List.setIfInBounds_toArray, List.set_cons_zero, List.set_cons_succ]
        refine wpAnyH_take (i := 17) (v := ?_) (by simp only [List.getElem?_toArray, List.getElem?_cons_succ, List.getElem?_cons_zero]; rfl) (by kernel_rfl) (by kernel_rfl) (by kernel_rfl) (by intro _ _ _ h; exact h) (Or.inl ⟨by rfl, ?_⟩) (by assumption) ?_
        rotate_left
        · (intro w hSw; (try dsimp only at hSw); go_simp; try (with_reducible rfl))
        try simp only [Act.put, List.setIfInBounds_toArray, List.set_cons_zero, List.set_cons_succ]
        refine wpAnyH_take (i := 19) (v := ?_) (by simp only [List.getElem?_toArray, List.getElem?_cons_succ, List.getElem?_cons_zero]; rfl) (by kernel_rfl) (by kernel_rfl) (by kernel_rfl) (by intro _ _ _ h; exact h) (Or.inl ⟨by rfl, ?_⟩) (by assumption) ?_
        rotate_left
        · (intro w hSw; (try dsimp only at hSw); go_simp; try (with_reducible rfl))
        try simp only [Act.put, List.setIfInBounds_toArray, List.set_cons_zero, List.set_cons_succ]
        refine wpAnyH_ready (rs := [18]) (by kernel_rfl) (by simp) ?_
        refine AllReadyH.cons rfl (fun K hK => ?_) AllReadyH.nil
        go_simp
        (go_at_call 57; have hs0 := (‹_ ∧ Fr No w7 _›).2; ((with_reducible refine (HDX.out _ hs0).mono ?_); rintro e w8 ⟨rfl, fr8⟩))
        go_simp
        refine hK.out _ _ ?_ (fun hHeld2 => ?_)
        · have hq : Fr No w7 _ := hs0.trans fr8
          exact ⟨hq.cells, hq⟩
        clear hK K hHeld hs0 fr8
        have hHeld := hHeld2
        clear hHeld2
        try simp only [Act.put, List.setIfInBounds_toArray, List.set_cons_zero, List.set_cons_succ]
        refine wpAnyH_ready (rs := [20]) (by kernel_rfl) (by simp) ?_
        refine AllReadyH.cons rfl (fun K hK => ?_) AllReadyH.nil
        go_simp
        (go_at_call 57; have hs0 := (‹_ ∧ Fr No w7 _›).2; ((with_reducible refine (HDV.out _ hs0).mono ?_); rintro e w8 ⟨rfl, fr8⟩))
        go_simp
        refine hK.out _ _ ?_ (fun hHeld2 => ?_)
        · have hq : Fr No w7 _ := hs0.trans fr8
          exact ⟨hq.cells, hq⟩
        clear hK K hHeld hs0 fr8
        have hHeld := hHeld2
        clear hHeld2
        try simp only [Act.put, List.setIfInBounds_toArray, List.set_cons_zero, List.set_cons_succ]
        refine wpAnyH_take (i := 21) (v := ?_) (by simp only [List.getElem?_toArray, List.getElem?_cons_succ, List.getElem?_cons_zero]; rfl) (by kernel_rfl) (by kernel_rfl) (by kernel_rfl) (by intro _ _ _ h; exact h) (Or.inl ⟨by rfl, ?_⟩) (by assumption) ?_
        rotate_left
        · (intro w hSw; (try dsimp only at hSw); go_simp; try (with_reducible rfl))
        try simp only [Act.put, List.setIfInBounds_toArray, List.set_cons_zero, List.set_cons_succ]
        refine wpAnyH_take (i := 22) (v := ?_) (by simp only [List.getElem?_toArray, List.getElem?_cons_succ, List.getElem?_cons_zero]; rfl) (by kernel_rfl) (by kernel_rfl) (by kernel_rfl) (by intro _ _ _ h; exact h) (Or.inl ⟨by rfl, ?_⟩) (by assumption) ?_
        rotate_left
        · (intro w hSw; (try dsimp only at hSw); go_simp; try (with_reducible rfl))
        try simp only [Act.put, List.setIfInBounds_toArray, List.set_cons_zero, List.set_cons_succ]
        refine wpAnyH_take (i := 23) (v := ?_) (by simp only [List.getElem?_toArray, List.getElem?_cons_succ, List.getElem?_cons_zero]; rfl) (by kernel_rfl) (by kernel_rfl) (by kernel_rfl) (by intro _ _ _ h; exact h) (Or.inl ⟨by rfl, ?_⟩) (by assumption) ?_
        rotate_left
        · (intro w hSw; (try dsimp only at hSw); go_simp; try (with_reducible rfl))
        try simp only [Act.put, List.setIfInBounds_toArray, List.set_cons_zero, List.set_cons_succ]
        refine wpAnyH_take (i := 24) (v := ?_) (by simp only [List.getElem?_toArray, List.getElem?_cons_succ, List.getElem?_cons_zero]; rfl) (by kernel_rfl) (by kernel_rfl) (by kernel_rfl) (by intro _ _ _ h; exact h) (Or.inl ⟨by rfl, ?_⟩) (by assumption) ?_
        rotate_left
        · (intro w hSw; (try dsimp only at hSw); go_simp; try (with_reducible rfl))
        try simp only [Act.put, List.setIfInBounds_toArray, List.set_cons_zero, List.set_cons_succ]
        refine wpAnyH_take (i := 25) (v := ?_) (by simp only [List.getElem?_toArray, List.getElem?_cons_succ, List.getElem?_cons_zero]; rfl) (by kernel_rfl) (by kernel_rfl) (by kernel_rfl) (by intro _ _ _ h; exact h) (Or.inl ⟨by rfl, ?_⟩) (by assumption) ?_
        rotate_left
        · (intro w hSw; (try dsimp only at hSw); go_simp; try (with_reducible rfl))
        try simp only [Act.put, List.setIfInBounds_toArray, List.set_cons_zero, List.set_cons_succ]
        refine wpAnyH_take (i := 26) (v := ?_) (by simp only [List.getElem?_toArray, List.getElem?_cons_succ, List.getElem?_cons_zero]; rfl) (by kernel_rfl) (by kernel_rfl) (by kernel_rfl) (by intro _ _ _ h; exact h) (Or.inl ⟨by rfl, ?_⟩) (by assumption) ?_
        rotate_left
        · (intro w hSw; (try dsimp only at hSw); go_simp; try (with_reducible rfl))
        try simp only [Act.put, List.setIfInBounds_toArray, List.set_cons_zero, List.set_cons_succ]
        refine wpAnyH_take (i := 27) (v := ?_) (by simp only [List.getElem?_toArray, List.getElem?_cons_succ, List.getElem?_cons_zero]; rfl) (by kernel_rfl) (by kernel_rfl) (by kernel_rfl) (by intro _ _ _ h; exact h) (Or.inl ⟨by rfl, ?_⟩) (by assumption) ?_
        rotate_left
        · (intro w hSw; (try dsimp only at hSw); go_simp; try (with_reducible rfl))
        try simp only [Act.put, List.setIfInBounds_toArray, List.set_cons_zero, List.set_cons_succ]
        refine wpAnyH_take (i := 28) (v := undef) (by simp only [List.getElem?_toArray, List.getElem?_cons_succ, List.getElem?_cons_zero]; rfl) (by kernel_rfl) (by kernel_rfl) (by kernel_rfl) (by intro _ _ _ h; exact h) (Or.inr ⟨by rfl, rfl⟩) (by assumption) ?_
        try simp only [Act.put, List.setIfInBounds_toArray, List.set_cons_zero, List.set_cons_succ]
        refine wpAnyH_take (i := 29) (v := undef) (by simp only [List.getElem?_toArray, List.getElem?_cons_succ, List.getElem?_cons_zero]; rfl) (by kernel_rfl) (by kernel_rfl) (by kernel_rfl) (by intro _ _ _ h; exact h) (Or.inr ⟨by rfl, rfl⟩) (by assumption) ?_
        try simp only [Act.put, List.setIfInBounds_toArray, List.set_cons_zero, List.set_cons_succ]
        refine wpAnyH_take (i := 30) (v := undef) (by simp only [List.getElem?_toArray, List.getElem?_cons_succ, List.getElem?_cons_zero]; rfl) (by kernel_rfl) (by kernel_rfl) (by kernel_rfl) (by intro _ _ _ h; exact h) (Or.inr ⟨by rfl, rfl⟩) (by assumption) ?_
        try simp only [Act.put, List.setIfInBounds_toArray, List.set_cons_zero, List.set_cons_succ]
        refine wpAnyH_take (i := 31) (v := undef) (by simp only [List.getElem?_toArray, List.getElem?_cons_succ, List.getElem?_cons_zero]; rfl) (by kernel_rfl) (by kernel_rfl) (by kernel_rfl) (by intro _ _ _ h; exact h) (Or.inr ⟨by rfl, rfl⟩) (by assumption) ?_
        try simp only [Act.put, List.setIfInBounds_toArray, List.set_cons_zero, List.set_cons_succ]
        refine wpAnyH_take (i := 32) (v := ?_) (by simp only [List.getElem?_toArray, List.getElem?_cons_succ, List.getElem?_cons_zero]; rfl) (by kernel_rfl) (by kernel_rfl) (by kernel_rfl) (by intro _ _ _ h; exact h) (Or.inl ⟨by rfl, ?_⟩) (by assumption) ?_
        rotate_left
        · (intro w hSw; (try dsimp only at hSw); go_simp; try (with_reducible rfl))
        try simp only [Act.put, List.setIfInBounds_toArray, List.set_cons_zero, List.set_cons_succ]
        refine wpAnyH_take (i := 33) (v := ?_) (by simp only [List.getElem?_toArray, List.getElem?_cons_succ, List.getElem?_cons_zero]; rfl) (by kernel_rfl) (by kernel_rfl) (by kernel_rfl) (by intro _ _ _ h; exact h) (Or.inl ⟨by rfl, ?_⟩) (by assumption) ?_
        rotate_left
        · (intro w hSw; (try dsimp only at hSw); go_simp; try (with_reducible rfl))
        try simp only [Act.put, List.setIfInBounds_toArray, List.set_cons_zero, List.set_cons_succ]
        refine wpAnyH_done (by kernel_rfl) ?_ _
        all_goals
          have F8 := hide (‹_ ∧ Fr No w7 _›).2
          go_simp
          go_wp2_with fail
          go_meet
          exact ⟨rfl, F8.out⟩
    case rest =>
      obtain ⟨rfl, fr8⟩ := hcut
      have HF8 := hide fr8
      generalize hG : X.rf = G at *
      have HG := hide hG
      have HXL := hide hXl
      clear hG hXl fr8 c0 c1 c2 c3 c4 x0 x1 x2 x3 x4 q0 q1 HPX HPV HDX HDV HSV HCELL
      go_wp2_with fail
      go_loopw [14] (fun i wr => ∃ j : Nat, j ≤ R.length ∧ i = .int .i64 j ∧ Fr No w7 wr) (fun i _ => R.length - (intOf i).toNat)
      case atStart => exact ⟨0, Nat.zero_le _, rfl, HF8.out⟩
      case round =>
        obtain ⟨j, hj, rfl, fr⟩ := hrel
        by_cases hjl : j < R.length
        · have hjG : j < G.length := by have := HXL.out; omega
          have og := owns_fr OG7.out fr fun _ _ h => h
          have ow := owns_fr OW7.out fr fun _ _ h => h
          obtain ⟨gg, cg', hAg, -, hg1⟩ := og.form (by omega)
          obtain ⟨gw, cw', hAw, -, hg2⟩ := ow.form (by omega)
          simp only [Value.slice.injEq, true_and] at hAg hAw
          obtain ⟨rfl, rfl⟩ := hAg
          obtain ⟨rfl, rfl⟩ := hAw
          have e1 := (og.cellAt j (by omega)).trans (refCells_get2 hjG)
          have e2 := (ow.cellAt j (by omega)).trans (refCells_get2 hjG)
          generalize G[j] = y at *
          have HF := hide fr
          clear fr og ow
          go_wp2_with fail
          go_quiet (fail)
          go_wp2
          go_roundw
          case rel => exact ⟨j + 1, hjl, by go_num, HF.out.drewN _⟩
          case measure => simp [intOf]; omega
        · obtain rfl : R.length = j := by omega
          obtain ⟨wp, rfl⟩ : ∃ wp : World, wp = wr := ⟨_, rfl⟩
          have HFP := hide fr
          have HRP := hide (HR7.out.no fr)
          clear fr hj hjl
          go_wp2_with fail
          go_loopw [15, 16, 17] (fun q i _ wr => ∃ (j : Nat) (b : Bool), j ≤ ts.length ∧ i = .int .i64 j ∧ q = .bool b ∧ (b = true ↔ (ts.take j).Nodup) ∧ Fr No wp wr) (fun _ i _ _ => ts.length - (intOf i).toNat)
          case atStart => exact ⟨0, true, Nat.zero_le _, rfl, rfl, by simp, Fr.refl _ _⟩
          case round =>
            obtain ⟨j, b, hj, rfl, rfl, hb, fr⟩ := hrel
            have HB := hide hb
            clear hb
            by_cases hjl : j < ts.length
            · obtain ⟨wo, rfl⟩ : ∃ wo : World, wo = wr := ⟨_, rfl⟩
              have HF := hide fr
              clear fr
              go_wp2_with fail
              go_loopw [15, 17] (fun q i wr => ∃ (k : Nat) (c : Bool), k ≤ j ∧ i = .int .i64 k ∧ q = .bool c ∧ (c = true ↔ (b = true ∧ ∀ m (_ : m < k) (_ : m < ts.length), ts[m] ≠ ts[j])) ∧ Fr No wo wr) (fun _ i _ => j - (intOf i).toNat)
              case atStart => exact ⟨0, b, Nat.zero_le _, rfl, rfl, by simp, Fr.refl _ _⟩
              case round =>
                obtain ⟨k1, c, hk, rfl, rfl, hc, frk⟩ := hrel
                by_cases hkj : k1 < j
                · have hkl : k1 < ts.length := by omega
                  have pt := HRP.out.pt.no (HF.out.trans frk) HRP.out.f.size
                  obtain ⟨bt, ot, hAt, hbt0, hbt1, hc1⟩ := pt.elem hjl
                  obtain ⟨bt', ot', hAt', -, -, hc2⟩ := pt.elem hkl
                  rw [hAt] at hAt'
                  simp only [Option.some.injEq, Addr.mk.injEq, and_true] at hAt'
                  obtain ⟨rfl, rfl⟩ := hAt'
                  subst hAt
                  have hsk := (HRP.out.f.trans (HF.out.trans frk)).size
                  have g0 : bt < wr.heap.size := by omega
                  have HC := hide hc
                  have HK := hide frk
                  clear hc frk pt
                  cases c with
                  | false =>
                    go_wp2_with fail
                    go_quiet (fail)
                    go_wp2
                    go_roundw
                    case rel =>
                      refine ⟨k1 + 1, false, hkj, by go_num, rfl, ?_, HK.out.drewN _⟩
                      have := HC.out
                      constructor
                      · intro h; cases h
                      · rintro ⟨h1, h2⟩
                        exact this.2 ⟨h1, fun m hm hl => h2 m (by omega) hl⟩
                    case measure => simp [intOf]; omega
                  | true =>
                    generalize hx0 : ts[j] = x at *
                    generalize hy0 : ts[k1] = y at *
                    have HY0 := hide hy0
                    clear hx0 hy0
                    by_cases heq : x = y
                    · have he2 : (x != y) = false := by simpa using heq
                      have HEQ := hide heq
                      clear heq
                      go_wp2_with fail
                      go_quiet (fail)
                      go_wp2
                      go_roundw
                      case rel =>
                        refine ⟨k1 + 1, false, hkj, by go_num, rfl, ?_, HK.out.drewN _⟩
                        constructor
                        · intro h; cases h
                        · rintro ⟨_, h2⟩
                          have h3 := h2 k1 (by omega) hkl
                          rw [HY0.out] at h3
                          exact absurd HEQ.out.symm h3
                      case measure => simp [intOf]; omega
                    · have he2 : (x != y) = true := by simpa using heq
                      go_wp2_with fail
                      go_quiet (fail)
                      go_wp2
                      go_roundw
                      case rel =>
                        refine ⟨k1 + 1, true, hkj, by go_num, rfl, ?_, HK.out.drewN _⟩
                        obtain ⟨h1, h2⟩ := HC.out.1 trivial
                        refine ⟨fun _ => ⟨h1, fun m hm hl => ?_⟩, fun _ => rfl⟩
                        by_cases hmk : m = k1
                        · subst hmk; rw [HY0.out]; exact fun h => heq h.symm
                        · exact h2 m (by omega) hl
                      case measure => simp [intOf]; omega
                · obtain rfl : k1 = j := by omega
                  have HC := hide hc
                  have HK := hide frk
                  clear hc frk
                  go_wp2
                  go_roundw
                  case rel =>
                    refine ⟨k1 + 1, c, hjl, by go_num, rfl, ?_, HF.out.trans HK.out⟩
                    rw [HC.out, HB.out, nodup_snoc hjl]
                    exact ⟨fun ⟨h1, h2⟩ => ⟨h1, fun m hm => h2 m hm (by omega)⟩, fun ⟨h1, h2⟩ => ⟨h1, fun m hm _ => h2 m hm⟩⟩
                  case measure => simp [intOf]; omega
            · obtain rfl : ts.length = j := by omega
              have hb2 : b = true ↔ ts.Nodup := by
                have := HB.out
                rwa [List.take_of_length_le (Nat.le_refl _)] at this
              have HRE := hide (HRP.out.no fr)
              have HBXE := hide ((HBX7.out.fr HFP.out fun h => h).fr fr fun h => h)
              have hszp := (HFP.out).size
              have hszr := fr.size
              have HIXE := hide ((HIX7.out.no HFP.out (by omega)).no fr (by omega))
              clear HB fr hjl hj
              obtain ⟨wo, rfl⟩ : ∃ wo : World, wo = wr := ⟨_, rfl⟩
              cases b with
              | false =>
                clear hb2
                obtain ⟨x0, x1, x2, x3, x4, -⟩ := Blk.cells5 (HBXE.out)
                have q1 := (HBXE.out).lt
                have hszE := (HRE.out).f.size
                have hc := Rename_any (T.mk kx nx sx Ax cx lx rx) wo w2.heap.size w3.heap.size HIXE.out (by omega) At An ct cn ts ns 0 w.heap.size 0 w.heap.size (HRE.out).pt (HRE.out).f.size (HRE.out).pn (HRE.out).f.size
                rw [T.val_mk, HVX.out] at hc
                have HC := hide hc
                have her2 := renV_err X ts ns
                clear hc
                go_wp2_with fail
                refine HC.out.mono ?_
                rintro e wa ⟨⟨ky, ny, sy, Ay, cy, ly, ry⟩, rfl, hvy, hshy, fa⟩
                rw [T.val_mk]
                have HVY := hide hvy
                have HIY := hide hshy.inn
                have HRa := hide (HRE.out.no fa)
                have hsa := fa.size
                clear HC hvy hshy fa x0 x1 x2 x3 x4 q1
                by_cases he2 : (renV X ts ns).2 = 0
                case neg =>
                  have hcase : (renV X ts ns).2 = 2 ∨ (renV X ts ns).2 = 21 := her2.resolve_left he2
                  have G9 := hide (HRa.out).f
                  clear her2 he2
                  generalize (renV X ts ns).2 = n0 at *
                  rcases hcase with rfl | rfl
                  all_goals
                    go_wp2_with fail
                    refine (awake_any _).mono ?_
                    rintro e wz ⟨rfl, fz⟩
                    go_wp2
                    go_ret
                    exact ⟨rfl, (G9.out.alloc _).trans fz⟩
                have hE0 := HE0.out
                have htw := ren_twice (ns := ns) hE0 (by rw [HX.out]; exact he2)
                rw [HX.out] at htw
                have hmy : (renV X ts ns).1.may = true := by
                  obtain ⟨m1, m2, m3, m4, m5, m6⟩ := renV_ok he2
                  rw [m6]; exact ren_may m1 (nm_pos m4 m5)
                have hln2 : ts.length = ns.length := (renV_ok he2).2.1
                have htw2 : (renV u fs (ts.map fun t => (nmOf ts ns t).getD 0)).1 = (renV X ts ns).1 ∧ (renV u fs (ts.map fun t => (nmOf ts ns t).getD 0)).2 = 0 := by rw [htw]; exact ⟨rfl, rfl⟩
                have hself := same2_self hmy
                rw [he2]
                have fab := (Fr.refl No wa).alloc (.cells #[.int .u8 ky, .int .i64 ny, .string sy, .slice Ay ly.length cy, .int .i64 ry] 27)
                have HRb := hide (HRa.out.no fab)
                have by9 := Blk.new wa 27 #[.int .u8 ky, .int .i64 ny, .string sy, .slice Ay ly.length cy, .int .i64 ry]
                have iy9 := HIY.out.no fab (Nat.le_refl _)
                have hyb := by9.lt
                have HTW := hide htw2
                have HMY := hide hmy
                have HSELF := hide hself
                generalize hYY : (renV X ts ns).1 = Y at *
                have HLN2 := hide hln2
                clear htw hmy hself he2 her2 hE0 fab hYY hln2 htw2
                have hbothl : ∀ x ∈ (ts.map fun t => (nmOf ts ns t).getD 0), -9223372036854775808 ≤ x ∧ x ≤ 9223372036854775807 := fun x hx => by
                  obtain ⟨t, ht, rfl⟩ := List.mem_map.1 hx
                  cases hq : nmOf ts ns t with
                  | none => exact ⟨by decide, by decide⟩
                  | some z => exact (HRb.out).pn.rng z (nm_mem ts ns t z hq)
                have HBL := hide hbothl
                have him := image_any At At An ct ct cn ts ts ns _ 0 w.heap.size 0 w.heap.size 0 w.heap.size (HRb.out).pt (HRb.out).f.size (HRb.out).pt (HRb.out).f.size (HRb.out).pn (HRb.out).f.size (fun r hr => nm_isSome ts ns r (by have := HLN2.out; omega) hr)
                have HIM := hide him
                clear hbothl him
                go_wp2_with fail
                generalize World.alloc wa _ = wb at *
                refine HIM.out.mono ?_
                rintro e wd ⟨xb, rfl, ob, fd⟩
                obtain ⟨Ab, cb, rfl⟩ := owns_form ob
                have HRd := hide (HRb.out.no fd)
                have byd := by9.fr fd fun h => h
                have iyd := iy9.no fd (by omega)
                have hsd := fd.size
                have hbl2 : (ts.map fun t => (nmOf ts ns t).getD 0).length ≤ 1000000 := by rw [List.length_map]; omega
                have hib := ints_of_row ob hbl2 HBL.out
                generalize hBO : (ts.map fun t => (nmOf ts ns t).getD 0) = BO at *
                clear HIM fd by9 iy9 HRb ob hBO hbl2
                obtain ⟨c0, c1, c2, c3, c4, -⟩ := Blk.cells5 (HRd.out).bv
                have q0 := (HRd.out).bv.lt
                have hc := Rename_any (T.mk k n s A cap l r) wd 0 w.heap.size (HRd.out).iv (HRd.out).f.size Af Ab cf cb fs BO 0 w.heap.size wb.heap.size wd.heap.size (HRd.out).pf (HRd.out).f.size hib (Nat.le_refl _)
                rw [T.val_mk, HU.out] at hc
                have HC := hide hc
                clear hc hib
                go_wp2_with fail
                refine HC.out.mono ?_
                rintro e we ⟨⟨kz, nz, sz, Az, cz, lz, rz⟩, rfl, hvz, hshz, fe⟩
                rw [T.val_mk]
                have HVZ := hide (hvz.trans HTW.out.1)
                have HIZ := hide hshz.inn
                have HGe := hide (HRd.out.no fe).f
                have bye := byd.fr fe fun h => h
                have iye := iyd.no fe (by omega)
                have hse := fe.size
                have hz2 := HTW.out.2
                rw [hz2]
                clear HC hvz hshz fe byd iyd hz2 c0 c1 c2 c3 c4 q0
                have fef := (Fr.refl No we).alloc (.cells #[.int .u8 kz, .int .i64 nz, .string sz, .slice Az lz.length cz, .int .i64 rz] 27)
                have iyf := iye.no fef (by omega)
                have izf := HIZ.out.no fef (Nat.le_refl _)
                have hGf := HGe.out.trans fef
                have hzf : we.heap.size < (we.alloc (.cells #[.int .u8 kz, .int .i64 nz, .string sz, .slice Az lz.length cz, .int .i64 rz] 27)).heap.size := by simp
                obtain ⟨y0, y1, y2, y3, y4, -⟩ := bye.cells5
                have yq := bye.lt
                have hsmf := vsame_any (T.mk ky ny sy Ay cy ly ry) (T.mk kz nz sz Az cz lz rz) _ 0 (we.alloc (.cells #[.int .u8 kz, .int .i64 nz, .string sz, .slice Az lz.length cz, .int .i64 rz] 27)).heap.size (T.In.more (Nat.zero_le _) (by omega) _ iyf) (T.In.more (Nat.zero_le _) (by omega) _ izf) (Nat.le_refl _)
                rw [T.val_mk, T.val_mk, HVY.out, HVZ.out, HSELF.out] at hsmf
                have HSMF := hide hsmf
                have HGF := hide hGf
                clear hsmf hGf iyf izf iye bye fef
                go_wp2_with fail
                generalize World.alloc we _ = wf at *
                refine HSMF.out.mono ?_
                rintro e wg ⟨rfl, fg⟩
                go_wp2_with fail
                refine (awake_any _).mono ?_
                rintro e wh ⟨rfl, fh⟩
                go_wp2
                go_ret
                exact ⟨rfl, (HGF.out.trans fg).trans fh⟩
              | true =>
                have hback := ren_back HE0.out (hb2.1 rfl)
                rw [HX.out] at hback
                have HBK := hide hback
                clear hback hb2
                obtain ⟨x0, x1, x2, x3, x4, -⟩ := Blk.cells5 (HBXE.out)
                have q1 := (HBXE.out).lt
                have hc := Rename_any (T.mk kx nx sx Ax cx lx rx) wo w2.heap.size w3.heap.size HIXE.out (by omega) At Af ct cf ts fs 0 w.heap.size 0 w.heap.size (HRE.out).pt (HRE.out).f.size (HRE.out).pf (HRE.out).f.size
                rw [T.val_mk, HVX.out, HBK.out] at hc
                have HC := hide hc
                clear hc
                go_wp2_with fail
                refine HC.out.mono ?_
                rintro e wi ⟨⟨kb, nb, sb, Ab, cb, lb, rb⟩, rfl, hvb, hshb, fi⟩
                rw [T.val_mk]
                have HVB := hide hvb
                have fij := (Fr.refl No wi).alloc (.cells #[.int .u8 kb, .int .i64 nb, .string sb, .slice Ab lb.length cb, .int .i64 rb] 27)
                have HRJ := hide ((HRE.out.no fi).no fij)
                have HBXJ := hide ((HBXE.out.fr fi fun h => h).fr fij fun h => h)
                have hsi := fi.size
                have HIXJ := hide ((HIXE.out.no fi (by omega)).no fij (by omega))
                have ibj := hshb.inn.no fij (Nat.le_refl _)
                have hij : wi.heap.size < (wi.alloc (.cells #[.int .u8 kb, .int .i64 nb, .string sb, .slice Ab lb.length cb, .int .i64 rb] 27)).heap.size := by simp
                have hsmj := vsame_any (T.mk kb nb sb Ab cb lb rb) (T.mk k n s A cap l r) _ 0 (wi.alloc (.cells #[.int .u8 kb, .int .i64 nb, .string sb, .slice Ab lb.length cb, .int .i64 rb] 27)).heap.size (T.In.more (Nat.zero_le _) (by omega) _ ibj) (T.In.more (Nat.zero_le _) (HRJ.out).f.size _ (HRJ.out).iv) (Nat.le_refl _)
                rw [T.val_mk, T.val_mk, HVB.out, HU.out, same2_self HM.out] at hsmj
                have HSMJ := hide hsmj
                obtain ⟨c0, c1, c2, c3, c4, -⟩ := Blk.cells5 (HRE.out.no fi).bv
                have q0 := (HRE.out.no fi).bv.lt
                clear hsmj ibj hvb hshb fi fij HC x0 x1 x2 x3 x4 q1
                go_wp2_with fail
                clear c0 c1 c2 c3 c4 q0
                generalize World.alloc wi _ = wj at *
                refine HSMJ.out.mono ?_
                rintro e wk ⟨rfl, fk⟩
                have HRK := hide (HRJ.out.no fk)
                have HBXK := hide (HBXJ.out.fr fk fun h => h)
                have HIXK := hide (HIXJ.out.no fk (by omega))
                have hsk := fk.size
                clear fk HSMJ
                obtain ⟨x0, x1, x2, x3, x4, -⟩ := Blk.cells5 (HBXK.out)
                have q1 := (HBXK.out).lt
                have hszK := (HRK.out).f.size
                have hc := Rename_any (T.mk kx nx sx Ax cx lx rx) wk w2.heap.size w3.heap.size HIXK.out (by omega) At An ct cn ts ns 0 w.heap.size 0 w.heap.size (HRK.out).pt (HRK.out).f.size (HRK.out).pn (HRK.out).f.size
                rw [T.val_mk, HVX.out] at hc
                have HC := hide hc
                have her2 := renV_err X ts ns
                clear hc
                go_wp2_with fail
                refine HC.out.mono ?_
                rintro e wa ⟨⟨ky, ny, sy, Ay, cy, ly, ry⟩, rfl, hvy, hshy, fa⟩
                rw [T.val_mk]
                have HVY := hide hvy
                have HIY := hide hshy.inn
                have HRa := hide (HRK.out.no fa)
                have hsa := fa.size
                clear HC hvy hshy fa x0 x1 x2 x3 x4 q1
                by_cases he2 : (renV X ts ns).2 = 0
                case neg =>
                  have hcase : (renV X ts ns).2 = 2 ∨ (renV X ts ns).2 = 21 := her2.resolve_left he2
                  have G9 := hide (HRa.out).f
                  clear her2 he2
                  generalize (renV X ts ns).2 = n0 at *
                  rcases hcase with rfl | rfl
                  all_goals
                    go_wp2_with fail
                    refine (awake_any _).mono ?_
                    rintro e wz ⟨rfl, fz⟩
                    go_wp2
                    go_ret
                    exact ⟨rfl, (G9.out.alloc _).trans fz⟩
                have hE0 := HE0.out
                have htw := ren_twice (ns := ns) hE0 (by rw [HX.out]; exact he2)
                rw [HX.out] at htw
                have hmy : (renV X ts ns).1.may = true := by
                  obtain ⟨m1, m2, m3, m4, m5, m6⟩ := renV_ok he2
                  rw [m6]; exact ren_may m1 (nm_pos m4 m5)
                have hln2 : ts.length = ns.length := (renV_ok he2).2.1
                have htw2 : (renV u fs (ts.map fun t => (nmOf ts ns t).getD 0)).1 = (renV X ts ns).1 ∧ (renV u fs (ts.map fun t => (nmOf ts ns t).getD 0)).2 = 0 := by rw [htw]; exact ⟨rfl, rfl⟩
                have hself := same2_self hmy
                rw [he2]
                have fab := (Fr.refl No wa).alloc (.cells #[.int .u8 ky, .int .i64 ny, .string sy, .slice Ay ly.length cy, .int .i64 ry] 27)
                have HRb := hide (HRa.out.no fab)
                have by9 := Blk.new wa 27 #[.int .u8 ky, .int .i64 ny, .string sy, .slice Ay ly.length cy, .int .i64 ry]
                have iy9 := HIY.out.no fab (Nat.le_refl _)
                have hyb := by9.lt
                have HTW := hide htw2
                have HMY := hide hmy
                have HSELF := hide hself
                generalize hYY : (renV X ts ns).1 = Y at *
                have HLN2 := hide hln2
                clear htw hmy hself he2 her2 hE0 fab hYY hln2 htw2
                have hbothl : ∀ x ∈ (ts.map fun t => (nmOf ts ns t).getD 0), -9223372036854775808 ≤ x ∧ x ≤ 9223372036854775807 := fun x hx => by
                  obtain ⟨t, ht, rfl⟩ := List.mem_map.1 hx
                  cases hq : nmOf ts ns t with
                  | none => exact ⟨by decide, by decide⟩
                  | some z => exact (HRb.out).pn.rng z (nm_mem ts ns t z hq)
                have HBL := hide hbothl
                have him := image_any At At An ct ct cn ts ts ns _ 0 w.heap.size 0 w.heap.size 0 w.heap.size (HRb.out).pt (HRb.out).f.size (HRb.out).pt (HRb.out).f.size (HRb.out).pn (HRb.out).f.size (fun r hr => nm_isSome ts ns r (by have := HLN2.out; omega) hr)
                have HIM := hide him
                clear hbothl him
                go_wp2_with fail
                generalize World.alloc wa _ = wb at *
                refine HIM.out.mono ?_
                rintro e wd ⟨xb, rfl, ob, fd⟩
                obtain ⟨Ab, cb, rfl⟩ := owns_form ob
                have HRd := hide (HRb.out.no fd)
                have byd := by9.fr fd fun h => h
                have iyd := iy9.no fd (by omega)
                have hsd := fd.size
                have hbl2 : (ts.map fun t => (nmOf ts ns t).getD 0).length ≤ 1000000 := by rw [List.length_map]; omega
                have hib := ints_of_row ob hbl2 HBL.out
                generalize hBO : (ts.map fun t => (nmOf ts ns t).getD 0) = BO at *
                clear HIM fd by9 iy9 HRb ob hBO hbl2
                obtain ⟨c0, c1, c2, c3, c4, -⟩ := Blk.cells5 (HRd.out).bv
                have q0 := (HRd.out).bv.lt
                have hc := Rename_any (T.mk k n s A cap l r) wd 0 w.heap.size (HRd.out).iv (HRd.out).f.size Af Ab cf cb fs BO 0 w.heap.size wb.heap.size wd.heap.size (HRd.out).pf (HRd.out).f.size hib (Nat.le_refl _)
                rw [T.val_mk, HU.out] at hc
                have HC := hide hc
                clear hc hib
                go_wp2_with fail
                refine HC.out.mono ?_
                rintro e we ⟨⟨kz, nz, sz, Az, cz, lz, rz⟩, rfl, hvz, hshz, fe⟩
                rw [T.val_mk]
                have HVZ := hide (hvz.trans HTW.out.1)
                have HIZ := hide hshz.inn
                have HGe := hide (HRd.out.no fe).f
                have bye := byd.fr fe fun h => h
                have iye := iyd.no fe (by omega)
                have hse := fe.size
                have hz2 := HTW.out.2
                rw [hz2]
                clear HC hvz hshz fe byd iyd hz2 c0 c1 c2 c3 c4 q0
                have fef := (Fr.refl No we).alloc (.cells #[.int .u8 kz, .int .i64 nz, .string sz, .slice Az lz.length cz, .int .i64 rz] 27)
                have iyf := iye.no fef (by omega)
                have izf := HIZ.out.no fef (Nat.le_refl _)
                have hGf := HGe.out.trans fef
                have hzf : we.heap.size < (we.alloc (.cells #[.int .u8 kz, .int .i64 nz, .string sz, .slice Az lz.length cz, .int .i64 rz] 27)).heap.size := by simp
                obtain ⟨y0, y1, y2, y3, y4, -⟩ := bye.cells5
                have yq := bye.lt
                have hsmf := vsame_any (T.mk ky ny sy Ay cy ly ry) (T.mk kz nz sz Az cz lz rz) _ 0 (we.alloc (.cells #[.int .u8 kz, .int .i64 nz, .string sz, .slice Az lz.length cz, .int .i64 rz] 27)).heap.size (T.In.more (Nat.zero_le _) (by omega) _ iyf) (T.In.more (Nat.zero_le _) (by omega) _ izf) (Nat.le_refl _)
                rw [T.val_mk, T.val_mk, HVY.out, HVZ.out, HSELF.out] at hsmf
                have HSMF := hide hsmf
                have HGF := hide hGf
                clear hsmf hGf iyf izf iye bye fef
                go_wp2_with fail
                generalize World.alloc we _ = wf at *
                refine HSMF.out.mono ?_
                rintro e wg ⟨rfl, fg⟩
                go_wp2_with fail
                refine (awake_any _).mono ?_
                rintro e wh ⟨rfl, fh⟩
                go_wp2
                go_ret
                exact ⟨rfl, (HGF.out.trans fg).trans fh⟩

end Go.Proofs.Ytihjmipmjogpoaa

/- Two closed facts for the lifts. -/
namespace Go.Proofs.Ytihjmipmjogpoaa
theorem knob0 : ownKnob Try.prog.godebug = none := by kernel_rfl
theorem laidOut0 : laidOutB Try.prog = true := by kernel_rfl
end Go.Proofs.Ytihjmipmjogpoaa

/- An argument that is a row of whole numbers. -/
namespace Go.Proofs.Ytihjmipmjogpoaa
open Go.Joins Go.ChangeShapes Go.WideShapes Go.RowKit Go.Deep

section
variable {H : Type} {enc : TypeId × Value → H}

set_option maxRecDepth 100000 in
theorem open_ints {ty el : TypeId} (hty : Try.prog.underlying ty = some (.slice el)) (hel0 : Try.prog.underlying el = some (.int .i64)) (hcells : Try.prog.cellsOf el = 1) (hbytes : Try.prog.bytesOf el = 8)
    {W : World} {b0 : Nat} {v : Value} {d : DataW H} {p : List MemPlace} (hv : Value.okWide Try.prog W .any b0 ty v) (h : DataW.Trod enc Try.prog W 0 (fun _ => true) true ty v d p) (hw : ∀ m ∈ d.weights Try.prog ty, m ≤ reachBytes) :
    ∃ A cap l, v = .slice A l.length cap ∧ Ints W 0 W.heap.size A cap l := by
  obtain ⟨A, len, cap, rfl⟩ := okWide_slice hty hv
  obtain ⟨fuel, hf⟩ := h
  have hcs : Value.cells (.slice A len cap) = #[.slice A len cap] := rfl
  rw [hcs] at hf
  rcases DataW.trod_slice hty hf with ⟨e3, -⟩ | ⟨a, len', cap', elems, rest, n', rfl, e3, e5, -, hcap, hmax, hel, hat, hsp, -⟩
  · simp at e3
    obtain ⟨rfl, rfl, rfl⟩ := e3
    exact ⟨none, 0, [], rfl, by simp, Nat.le_refl _, fun h => absurd rfl h, by simp⟩
  · simp at e3
    obtain ⟨rfl, rfl, rfl⟩ := e3
    simp only [Prod.mk.injEq] at e5
    obtain ⟨rfl, -⟩ := e5
    have hlen1 : len * 8 ≤ 140737488351232 := by
      have := hw ((elems.length + rest.length) * 8) (by rw [DataW.weights, hty]; simp [hbytes])
      rw [reach_eq, hel] at this
      omega
    rw [hcells] at hat
    have hone : ∀ i, i < len → ∃ x : Int, W.cell? (a.add i) = some (.int .i64 x) ∧ -9223372036854775808 ≤ x ∧ x ≤ 9223372036854775807 := by
      intro i hi
      have h1 := hat i hi
      rw [Nat.mul_one] at h1
      have h2 : elems[i]? = some (elems[i]'(by omega)) := List.getElem?_eq_getElem (by omega)
      rw [h2] at h1
      obtain ⟨cs', hc, ht'⟩ := Option.bind_eq_some_iff.1 h1
      obtain ⟨r, rfl, -, wr⟩ := DataW.trod_int hel0 ht'
      obtain ⟨-, -, hcell⟩ := World.cells?_some hc
      have hc0 := hcell 0 (by omega)
      refine ⟨r, ?_, wf_i64 wr⟩
      have e0 : (a.add i).add 0 = a.add i := by unfold Addr.add; split <;> simp_all
      rw [e0] at hc0
      simpa using hc0
    obtain ⟨l, hl, hq⟩ := choose_list len hone
    subst hl
    obtain ⟨b, o, sp⟩ := a
    refine ⟨some ⟨b, o, sp⟩, cap, l, rfl, hlen1, hcap, fun hne => ?_, fun x hx => ?_⟩
    · have hlp : 0 < l.length := List.length_pos_iff.2 hne
      obtain ⟨hcc, -⟩ := hq 0 _ (List.getElem?_eq_getElem hlp)
      have hspot : sp = none := by simpa [Addr.add] using World.cell?_spot hcc
      subst hspot
      have hlt := cell_lt hcc
      refine ⟨b, o, rfl, Nat.zero_le _, by simpa [Addr.add] using hlt, fun i x hx => ?_⟩
      have := (hq i x hx).1
      rw [add_at] at this
      exact this
    · obtain ⟨i, hi, rfl⟩ := List.mem_iff_getElem.1 hx
      exact (hq i _ (List.getElem?_eq_getElem hi)).2

set_option maxRecDepth 100000 in
theorem open_refs {W : World} {b0 : Nat} {v : Value} {d : DataW H} {p : List MemPlace} (hv : Value.okWide Try.prog W .any b0 100 v) (h : DataW.Trod enc Try.prog W 0 (fun _ => true) true 100 v d p) (hw : ∀ m ∈ d.weights Try.prog 100, m ≤ reachBytes) :
    ∃ A cap l, v = .slice A l.length cap ∧ Ints W 0 W.heap.size A cap l :=
  open_ints Try.underlying100 Try.underlying25 (by kernel_rfl) (by kernel_rfl) hv h hw

set_option maxRecDepth 100000 in
theorem open_place {W : World} {b0 : Nat} {v : Value} {d : DataW H} {p : List MemPlace} (hv : Value.okWide Try.prog W .any b0 77 v) (h : DataW.Trod enc Try.prog W 0 (fun _ => true) true 77 v d p) (hw : ∀ m ∈ d.weights Try.prog 77, m ≤ reachBytes) :
    ∃ A cap l, v = .slice A l.length cap ∧ Ints W 0 W.heap.size A cap l :=
  open_ints Try.underlying77 Try.underlying3 (by kernel_rfl) (by kernel_rfl) hv h hw
end

end Go.Proofs.Ytihjmipmjogpoaa

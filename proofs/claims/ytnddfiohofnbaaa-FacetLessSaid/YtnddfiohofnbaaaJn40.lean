/- FacetLess: the law. -/
import Derived.Test.YtnddfiohofnbaaaJn39
import Derived.Test.YtnddfiohofnbaaaJn38
import Derived.Test.YtnddfiohofnbaaaJn15
import Derived.Deep.Cut
import Derived.Deep.CutRange
import Derived.Deep.RegionHeld3
namespace Go.Proofs.Ytnddfiohofnbaaa
open Go.RowKit

theorem owns_one {w : World} {g lo : Nat} {r : Int} (h : Blk w g 28 #[.int .i64 r]) (hl : lo ≤ g) : w.ownsRow lo 28 1 (.slice (some ⟨g, 0, none⟩) 1 1) ([r] : List Int).length (refRow [r]) :=
  ⟨by simp [refRow], .inr ⟨g, 1, #[.int .i64 r], rfl, hl, h, Nat.le_refl _, by unfold maxLen; omega, by simp, by simp [refRow]⟩⟩

/-- Some things of one root, each with what it can. -/
structure LI (m : Gm) (t : Int) (L : List Int) (C : List Nat) : Prop where
  len : L.length = C.length
  is : ∀ (i : Nat) (q : Int) (c : Nat), L[i]? = some q → C[i]? = some c → Is1 m q t c

theorem LI.ext {m m' : Gm} {t : Int} {L : List Int} {C : List Nat} (h : LI m t L C) (e : m.Ext m') : LI m' t L C := ⟨h.len, fun i q c h1 h2 => (h.is i q c h1 h2).ext e⟩

theorem LI.one {m : Gm} {t q : Int} {c : Nat} (h : Is1 m q t c) : LI m t [q] [c] := ⟨rfl, fun i q' c' h1 h2 => by
  cases i with
  | zero => simp at h1 h2; subst h1 h2; exact h
  | succ i => simp at h1⟩

theorem LI.add {m : Gm} {t q : Int} {c : Nat} {L : List Int} {C : List Nat} (h : LI m t L C) (hq : Is1 m q t c) : LI m t (L ++ [q]) (C ++ [c]) := by
  refine ⟨by simp [h.len], fun i q' c' h1 h2 => ?_⟩
  rcases Nat.lt_trichotomy i L.length with hi | rfl | hi
  · rw [List.getElem?_append_left hi] at h1
    rw [List.getElem?_append_left (by rw [← h.len]; exact hi)] at h2
    exact h.is i q' c' h1 h2
  · simp at h1
    rw [h.len] at h2
    simp at h2
    subst h1 h2
    exact hq
  · rw [List.getElem?_eq_none (by simp; omega)] at h1
    cases h1

section
variable {m : Gm} {n wb : Nat} {W0 W W' : World}

/-- A row of references may grow. -/
theorem FX.grown (h : FX W0 wb m n W) {lo k : Nat} {v : Value} {xs : List Value} (ho : W.ownsRow lo 28 1 v k xs) (hlo : W0.heap.size ≤ lo) (hg : W.grownBy W' v.ownBlock) : FX W0 wb m n W' := by
  have f := fr_grownG hg
  have hok : m.Ok W0.heap.size W' := h.fw.ok.fr f fun i hi e => by
    have e' : some i = v.ownBlock := e
    obtain ⟨cs, hc⟩ := owns_typed ho e'.symm
    exact not_B h.fw.ok hc hi
  refine ⟨⟨hok, Nat.le_trans h.fw.lo1 f.size, h.fw.fs, h.fw.mays, h.fw.bnd⟩, h.wb, h.fr.trans' f fun i hi e => ?_⟩
  have e' : some i = v.ownBlock := e
  have := (owns_lt ho i e'.symm).1
  omega
end

theorem and_and_iff (j i k : Nat) : (j &&& (k &&& i) = j) ↔ (j &&& i = j ∧ j &&& k = j) := by
  constructor
  · intro h
    constructor
    · rw [← h, Nat.and_assoc, Nat.and_assoc, Nat.and_self]
    · rw [← h, Nat.and_comm k i, Nat.and_assoc, Nat.and_assoc, Nat.and_self]
  · rintro ⟨h1, h2⟩
    rw [← Nat.and_assoc, h2, h1]

set_option maxRecDepth 100000 in
set_option maxHeartbeats 16000000 in
theorem facetLess_any (PA : Option Addr) (pc : Nat) (ps : List Int) (CA : Option Addr) (cc : Nat) (cuts : List Int) (TA : Option Addr) (tc : Nat) (ths : List (Int × Tg)) (last : Int) (MA : Option Addr) (mc : Nat) (made : List Int) (r : Int) (A : Option Addr) (cap : Nat) (S : List Nat) (W : World)
    (hp : Ints W 0 W.heap.size PA pc ps) (hc : Ints W 0 W.heap.size CA cc cuts) (ht : EnRow W 0 W.heap.size TA tc ths) (hm : Ints W 0 W.heap.size MA mc made) (hla : -9223372036854775808 ≤ last ∧ last ≤ 9223372036854775807) (hA : RowA W A S) (hS : ∀ x ∈ S, x < 256) :
    Calls Try.prog 7 #[.agg #[.slice PA ps.length pc, .slice CA cuts.length cc, .slice TA ths.length tc, .int .i64 last, .slice MA made.length mc], .int .i64 r, .slice A S.length cap] W fun e w' => e = .returned (.bool true) ∧ Fr No W w' := by
  have hf0 := (Fr.refl No W).alloc (.cells #[.slice PA ps.length pc, .slice CA cuts.length cc, .slice TA ths.length tc, .int .i64 last, .slice MA made.length mc] 57)
  have hb0 := Blk.new W 57 #[.slice PA ps.length pc, .slice CA cuts.length cc, .slice TA ths.length tc, .int .i64 last, .slice MA made.length mc]
  have hR := read_w PA pc ps CA cc cuts TA tc ths last MA mc made (W.alloc (.cells #[.slice PA ps.length pc, .slice CA cuts.length cc, .slice TA ths.length tc, .int .i64 last, .slice MA made.length mc] 57)) 0 W.heap.size (hp.noI hf0 (Nat.le_refl _)) (hc.noI hf0 (Nat.le_refl _)) (ht.no hf0 (Nat.le_refl _)) (hm.noI hf0 (Nat.le_refl _)) hla hf0.size
  have HR := hide hR
  have HF0 := hide hf0
  have HA := hide hA
  have HS := hide hS
  have HAW := hide awake11
  obtain ⟨d0, d1, d2, d3, d4⟩ : (W.alloc (.cells #[.slice PA ps.length pc, .slice CA cuts.length cc, .slice TA ths.length tc, .int .i64 last, .slice MA made.length mc] 57)).cell? ⟨W.heap.size, 0, none⟩ = some (.slice PA ps.length pc) ∧ (W.alloc (.cells #[.slice PA ps.length pc, .slice CA cuts.length cc, .slice TA ths.length tc, .int .i64 last, .slice MA made.length mc] 57)).cell? ⟨W.heap.size, 1, none⟩ = some (.slice CA cuts.length cc) ∧ (W.alloc (.cells #[.slice PA ps.length pc, .slice CA cuts.length cc, .slice TA ths.length tc, .int .i64 last, .slice MA made.length mc] 57)).cell? ⟨W.heap.size, 2, none⟩ = some (.slice TA ths.length tc) ∧ (W.alloc (.cells #[.slice PA ps.length pc, .slice CA cuts.length cc, .slice TA ths.length tc, .int .i64 last, .slice MA made.length mc] 57)).cell? ⟨W.heap.size, 3, none⟩ = some (.int .i64 last) ∧ (W.alloc (.cells #[.slice PA ps.length pc, .slice CA cuts.length cc, .slice TA ths.length tc, .int .i64 last, .slice MA made.length mc] 57)).cell? ⟨W.heap.size, 4, none⟩ = some (.slice MA made.length mc) := ⟨hb0.cell 0, hb0.cell 1, hb0.cell 2, hb0.cell 3, hb0.cell 4⟩
  have dq := hb0.lt
  clear hf0 hb0 hR hp hc ht hm hla hA hS
  go_enter Try.func7, Try.ntmps7
  go_wp2_with fail
  generalize World.alloc W _ = W0 at *
  refine HR.out.mono ?_
  rintro e w1 (⟨rfl, f1⟩ | ⟨m, rfl, hfw, f1⟩)
  · have HF1 := hide (HF0.out.trans f1)
    clear f1 d0 d1 d2 d3 d4 dq HR
    go_wp2_with fail
    refine (HAW.out w1).mono ?_
    rintro e w2 ⟨rfl, f2⟩
    have HF2 := hide (HF1.out.trans f2)
    clear f2
    go_wp2
    go_ret
    exact ⟨rfl, HF2.out⟩
  have hfx : FX W0 m.wb m 0 w1 := ⟨hfw, rfl, f1⟩
  have HFX := hide hfx
  clear d0 d1 d2 d3 d4 dq HR hfw f1 hfx
  obtain ⟨wb, hwb⟩ : ∃ wb, m.wb = wb := ⟨_, rfl⟩
  rw [hwb] at HFX ⊢
  clear hwb
  by_cases hl : 6 < S.length
  · have e60 : decide ((6 : Int) < (S.length : Int)) = true := by simp; omega
    clear hl
    go_wp2_with fail
    refine (HAW.out w1).mono ?_
    rintro e w2 ⟨rfl, f2⟩
    have HF2 := hide (HF0.out.trans (HFX.out.fr.trans f2))
    clear f2
    go_wp2
    go_ret
    exact ⟨rfl, HF2.out⟩
  have e60 : decide ((6 : Int) < (S.length : Int)) = false := by simp; omega
  have HL := hide hl
  have hI := Is_x HFX.out r
  cases hg : m.get r with
  | none =>
    rw [hg] at hI
    have HI := hide hI
    clear hl hI hg
    go_wp2_with fail
    refine HI.out.mono ?_
    rintro e w' ⟨rfl, rfl⟩
    go_wp2_with fail
    refine (HAW.out w').mono ?_
    rintro e w2 ⟨rfl, f2⟩
    have HF2 := hide (HF0.out.trans (HFX.out.fr.trans f2))
    clear f2
    go_wp2
    go_ret
    exact ⟨rfl, HF2.out⟩
  | some x =>
    rw [hg] at hI
    have HI := hide hI
    obtain ⟨B, hB⟩ := HFX.out.fw.fs.abl r x hg
    obtain ⟨R, hR⟩ : ∃ R, m.root r = R := ⟨_, rfl⟩
    have HIR : Hid (Is1 m r R B) := hide ⟨⟨x, hg⟩, hR, hB⟩
    clear hl hI hg hB hR
    have hfa := (Fr.refl No w1).alloc (.cells #[.int .i64 r] 28)
    have hbl := Blk.new w1 28 #[.int .i64 r]
    have HROW1 := hide (owns_one (lo := W0.heap.size) hbl (HFX.out.fr.size))
    have HFX1 := hide (HFX.out.no hfa)
    clear hfa hbl
    go_wp2_with fail
    refine HI.out.mono ?_
    rintro e w' ⟨rfl, rfl⟩
    clear HI
    go_wp2_with fail
    generalize World.alloc w' _ = w2 at *
    as_aux_lemma =>
      go_loopw [8, 9] (fun v i wr => ∃ (j n : Nat) (m' : Gm) (L : List Int) (C : List Nat), j ≤ S.length ∧ i = .int .i64 j ∧ n ≤ j ∧ L.length = j + 1 ∧ FX W0 wb m' n wr ∧ m.Ext m' ∧ LI m' R L C ∧ wr.ownsRow W0.heap.size 28 1 v L.length (refRow L)) (fun _ i _ => S.length - (intOf i).toNat)
      case atStart => exact ⟨0, 0, m, [r], [B], Nat.zero_le _, rfl, Nat.le_refl _, rfl, HFX1.out, Gm.Ext.refl m, LI.one HIR.out, HROW1.out⟩
      case round =>
        obtain ⟨j, n, m', L, C, hj, rfl, hn, hL, fx, hx, hli, hrow⟩ := hrel
        have hl6 : S.length ≤ 6 := by have := HL.out; omega
        have HFXJ := hide fx
        have HX := hide hx
        have HLI := hide hli
        have HROW := hide hrow
        by_cases hlt : j < S.length
        · have hWW := HF0.out.trans fx.fr
          obtain ⟨b', o, rfl, hb1, x0⟩ := (HA.out.no hWW) j hlt
          have hu := HS.out _ (List.getElem_mem hlt)
          generalize S[j] = u at *
          have e1 : bits .and .u8 (u : Int) 63 = ((u &&& 63 : Nat) : Int) := u8_and_nat u 63 (by omega) (by omega)
          have hu64 : u &&& 63 < 64 := Nat.lt_of_le_of_lt Nat.and_le_right (by decide)
          have HCN := hide (Narrow_k fx (by omega) (HIR.out.ext hx) hu64)
          generalize u &&& 63 = u6 at *
          clear hWW hu hu64 fx hx hli hrow
          go_wp2_with fail
          refine HCN.out.mono ?_
          rintro e w3 ⟨⟨q, m3, rfl, x3, fx3, is3⟩, hk3⟩
          have hrow3 := hk3 _ _ _ _ HROW.out
          have hfa := (Fr.refl No w3).alloc (.cells #[.int .i64 q] 28)
          have hbl := Blk.new w3 28 #[.int .i64 q]
          have hrow4 := owns_fr hrow3 hfa fun _ _ h => h
          have hone := owns_one (lo := w3.heap.size) hbl (Nat.le_refl _)
          have hfx4 := fx3.no hfa
          have HX3 := hide (HX.out.trans x3)
          have HLI3 := hide ((HLI.out.ext x3).add is3)
          have HROW4 := hide hrow4
          have HONE := hide hone
          have HFX4 := hide hfx4
          have HS4 := hide (show W0.heap.size ≤ (w3.alloc (.cells #[.int .i64 q] 28)).heap.size from hfx4.fr.size)
          clear x3 fx3 is3 hk3 hrow3 hfa hbl hrow4 hone hfx4 HCN HROW HLI HX HFXJ
          go_wp2_with (at_builtin; refine wpList_app_refs _ (by rfl) _ _ (by rfl) W0.heap.size w3.heap.size u8 (.slice (some ⟨w3.heap.size, 0, none⟩) 1 1) L [q] (by rfl) (by rfl) HROW4.out HONE.out (by simp; omega) HS4.out ?_; intro v' w' hown' hgr; have HOW := hide hown'; have HGR := hide hgr; clear hown' hgr)
          go_roundw
          case rel => exact ⟨j + 1, n + 1, m3, L ++ [q], _, hlt, by go_num, by omega, by simp [hL], HFX4.out.grown HROW4.out (Nat.le_refl _) HGR.out, HX3.out, HLI3.out, HOW.out⟩
          case measure => simp [intOf] <;> omega
        · obtain rfl : S.length = j := by omega
          have hLp : L.length ≤ 7 := by omega
          have hL0 : 0 < L.length := by omega
          have hn6 : n ≤ 6 := by omega
          obtain ⟨g, lc, hv, hg0, hg1⟩ := hrow.form hL0
          subst hv
          have HLP := hide hLp
          have HN6 := hide hn6
          clear hx hlt hj hn hL hl6 hL0 fx hli hrow HX HFX1 HROW1 hLp hn6
          obtain ⟨wa, rfl⟩ : ∃ wa : World, wa = wr := ⟨_, rfl⟩
          have HG0 := hide hg0
          have HG1 := hide hg1
          clear hg0 hg1
          go_wp2_with fail
          as_aux_lemma =>
            go_loopw [12] (fun i wr => ∃ (j n : Nat) (m' : Gm), j ≤ L.length ∧ i = .int .i64 j ∧ n ≤ 10 + 10 * j ∧ FX W0 wb m' n wr ∧ LI m' R L C ∧ wr.ownsRow W0.heap.size 28 1 (.slice (some ⟨g, 0, none⟩) L.length lc) L.length (refRow L)) (fun i _ => L.length - (intOf i).toNat)
            case atStart => exact ⟨0, n, m', Nat.zero_le _, rfl, by have := HN6.out; omega, HFXJ.out, HLI.out, HROW.out⟩
            case round =>
              clear HFXJ HLI HROW HN6
              obtain ⟨i, n, m', hi, rfl, hn, fx, hli, hrow⟩ := hrel
              have hLp := HLP.out
              have HFXI := hide fx
              have HLI := hide hli
              have HROW := hide hrow
              have HNI := hide hn
              by_cases hlt : i < L.length
              · have HLT := hide hlt
                have hlt' : (i : Int) < (L.length : Int) := by omega
                obtain ⟨qi, hqi⟩ : ∃ q, L[i]? = some q := ⟨_, List.getElem?_eq_getElem hlt⟩
                obtain ⟨ci, hci⟩ : ∃ c, C[i]? = some c := ⟨_, List.getElem?_eq_getElem (by rw [← hli.len]; exact hlt)⟩
                have HQI := hide hqi
                have HCI := hide hci
                clear fx hli hrow hn hqi hci
                obtain ⟨wb1, rfl⟩ : ∃ wb1 : World, wb1 = wr := ⟨_, rfl⟩
                go_wp2_with fail
                as_aux_lemma =>
                  go_loopw [13] (fun k wr => ∃ (j n2 : Nat) (m2 : Gm), j ≤ L.length ∧ k = .int .i64 j ∧ n2 ≤ n + j ∧ FX W0 wb m2 n2 wr ∧ LI m2 R L C ∧ wr.ownsRow W0.heap.size 28 1 (.slice (some ⟨g, 0, none⟩) L.length lc) L.length (refRow L)) (fun i _ => L.length - (intOf i).toNat)
                  case atStart => exact ⟨0, n, m', Nat.zero_le _, rfl, Nat.le_refl _, HFXI.out, HLI.out, HROW.out⟩
                  case round =>
                    clear HFXI HLI HROW
                    obtain ⟨k, n2, m2, hk, rfl, hn2, fx, hli, hrow⟩ := hrel
                    have HNK := hide hn2
                    by_cases hlk : k < L.length
                    · have HLK := hide hlk
                      have hlk' : (k : Int) < (L.length : Int) := by omega
                      obtain ⟨qk, hqk⟩ : ∃ q, L[k]? = some q := ⟨_, List.getElem?_eq_getElem hlk⟩
                      obtain ⟨ck, hck⟩ : ∃ c, C[k]? = some c := ⟨_, List.getElem?_eq_getElem (by rw [← hli.len]; exact hlk)⟩
                      have hik : Is1 m2 qk R ck := hli.is k qk ck hqk hck
                      have hii : Is1 m2 qi R ci := hli.is i qi ci HQI.out HCI.out
                      have HIK := hide hik
                      have HII := hide hii
                      have HLIK := hide hli
                      have HQK := hide hqk
                      have HCK := hide hck
                      have hxi : wr.cell? ⟨g, i, none⟩ = some (.int .i64 qi) := by
                        have := World.ownsRow.cells hrow (g := g) rfl i (.int .i64 qi) (by simp [refRow, HQI.out])
                        rwa [add_at, Nat.zero_add] at this
                      have hxk : wr.cell? ⟨g, k, none⟩ = some (.int .i64 qk) := by
                        have := World.ownsRow.cells hrow (g := g) rfl k (.int .i64 qk) (by simp [refRow, hqk])
                        rwa [add_at, Nat.zero_add] at this
                      have hgl : g < wr.heap.size := (owns_lt hrow g rfl).2
                      have HROWK := hide hrow
                      have HFXK := hide fx
                      have HL1 := hide (Less_k fx hii hik)
                      have hi0 : (0 : Int) ≤ (i : Int) := by omega
                      have hk0 : (0 : Int) ≤ (k : Int) := by omega
                      clear fx hli hrow hn2 hqk hck hik hii
                      go_upto_region 18 with (fail)
                      obtain ⟨ba, hba⟩ : ∃ b, decide (ci &&& ck = ci) = b := ⟨_, rfl⟩
                      obtain ⟨bb, hbb⟩ : ∃ b, decide (ck &&& ci = ck) = b := ⟨_, rfl⟩
                      have hl1 := Less_k HFXK.out.drew' HII.out HIK.out
                      have hl2 := fun (w' : World) (h : FX W0 wb m2 n2 w') => Less_k h HIK.out HII.out
                      rw [hba] at hl1
                      rw [hbb] at hl2
                      have HL1K := hide hl1
                      have HL2K := hide hl2
                      have HBA := hide hba
                      have HBB := hide hbb
                      clear hl1 hl2 hba hbb HL1
                      refine wp_region_held_drew (S := fun w' => w'.cell? ⟨g, i, none⟩ = some (.int .i64 qi) ∧ w'.cell? ⟨g, k, none⟩ = some (.int .i64 qk) ∧ g < w'.heap.size) (by kernel_rfl) ?_ (fun hHeld => ?_)
                      · exact ⟨hxi, hxk, hgl⟩
                      refine wpAnyH_take (i := 0) (v := ?_) (by simp only [List.getElem?_toArray, List.getElem?_cons_zero]; rfl) (by kernel_rfl) (by kernel_rfl) (by kernel_rfl) (by intro _ _ _ h; exact h) (Or.inl ⟨by rfl, ?_⟩) (by assumption) ?_
                      rotate_left
                      · (intro w hSw; (try dsimp only at hSw); go_simp; try (with_reducible rfl))
                      try simp only [Act.put, List.setIfInBounds_toArray, List.set_cons_zero, List.set_cons_succ]
                      refine wpAnyH_take (i := 1) (v := ?_) (by simp only [List.getElem?_toArray, List.getElem?_cons_succ, List.getElem?_cons_zero]; rfl) (by kernel_rfl) (by kernel_rfl) (by kernel_rfl) (by intro _ _ _ h; exact h) (Or.inl ⟨by rfl, ?_⟩) (by assumption) ?_
                      rotate_left
                      · (intro w hSw; (try dsimp only at hSw); go_simp; try (with_reducible rfl))
                      try simp only [Act.put, List.setIfInBounds_toArray, List.set_cons_zero, List.set_cons_succ]
                      refine wpAnyH_take (i := 2) (v := ?_) (by simp only [List.getElem?_toArray, List.getElem?_cons_succ, List.getElem?_cons_zero]; rfl) (by kernel_rfl) (by kernel_rfl) (by kernel_rfl) (by intro _ _ _ h; exact h) (Or.inl ⟨by rfl, ?_⟩) (by assumption) ?_
                      rotate_left
                      · (intro w hSw; (try dsimp only at hSw); go_simp; try (with_reducible rfl))
                      try simp only [Act.put, List.setIfInBounds_toArray, List.set_cons_zero, List.set_cons_succ]
                      refine wpAnyH_take (i := 3) (v := ?_) (by simp only [List.getElem?_toArray, List.getElem?_cons_succ, List.getElem?_cons_zero]; rfl) (by kernel_rfl) (by kernel_rfl) (by kernel_rfl) (by intro _ _ _ h; exact h) (Or.inl ⟨by rfl, ?_⟩) (by assumption) ?_
                      rotate_left
                      · (intro w hSw; (try dsimp only at hSw); go_simp; try (with_reducible rfl))
                      try simp only [Act.put, List.setIfInBounds_toArray, List.set_cons_zero, List.set_cons_succ]
                      refine wpAnyH_take (i := 4) (v := ?_) (by simp only [List.getElem?_toArray, List.getElem?_cons_succ, List.getElem?_cons_zero]; rfl) (by kernel_rfl) (by kernel_rfl) (by kernel_rfl) (by intro _ _ _ h; exact h) (Or.inl ⟨by rfl, ?_⟩) (by assumption) ?_
                      rotate_left
                      · (intro w hSw; (try dsimp only at hSw); go_simp; try (with_reducible rfl))
                      try simp only [Act.put, List.setIfInBounds_toArray, List.set_cons_zero, List.set_cons_succ]
                      refine wpAnyH_take (i := 5) (v := ?_) (by simp only [List.getElem?_toArray, List.getElem?_cons_succ, List.getElem?_cons_zero]; rfl) (by kernel_rfl) (by kernel_rfl) (by kernel_rfl) (by intro _ _ _ h; exact h) (Or.inl ⟨by rfl, ?_⟩) (by assumption) ?_
                      rotate_left
                      · (intro w hSw; (try dsimp only at hSw); go_simp; try (with_reducible rfl))
                      try simp only [Act.put, List.setIfInBounds_toArray, List.set_cons_zero, List.set_cons_succ]
                      refine wpAnyH_take (i := 6) (v := ?_) (by simp only [List.getElem?_toArray, List.getElem?_cons_succ, List.getElem?_cons_zero]; rfl) (by kernel_rfl) (by kernel_rfl) (by kernel_rfl) (by intro _ _ _ h; exact h) (Or.inl ⟨by rfl, ?_⟩) (by assumption) ?_
                      rotate_left
                      · (intro w hSw; (try dsimp only at hSw); go_simp; try (with_reducible rfl))
                      try simp only [Act.put, List.setIfInBounds_toArray, List.set_cons_zero, List.set_cons_succ]
                      refine wpAnyH_take (i := 7) (v := ?_) (by simp only [List.getElem?_toArray, List.getElem?_cons_succ, List.getElem?_cons_zero]; rfl) (by kernel_rfl) (by kernel_rfl) (by kernel_rfl) (by intro _ _ _ h; exact h) (Or.inl ⟨by rfl, ?_⟩) (by assumption) ?_
                      rotate_left
                      · (intro w hSw; (try dsimp only at hSw); go_simp; try (with_reducible rfl))
                      try simp only [Act.put, List.setIfInBounds_toArray, List.set_cons_zero, List.set_cons_succ]
                      refine wpAnyH_take (i := 8) (v := ?_) (by simp only [List.getElem?_toArray, List.getElem?_cons_succ, List.getElem?_cons_zero]; rfl) (by kernel_rfl) (by kernel_rfl) (by kernel_rfl) (by intro _ _ _ h; exact h) (Or.inl ⟨by rfl, ?_⟩) (by assumption) ?_
                      rotate_left
                      · (intro w hSw; (try dsimp only at hSw); go_simp; try (with_reducible rfl))
                      try simp only [Act.put, List.setIfInBounds_toArray, List.set_cons_zero, List.set_cons_succ]
                      refine wpAnyH_ready (rs := [9]) (by kernel_rfl) (by simp) ?_
                      refine AllReadyH.cons rfl (fun K hK => ?_) AllReadyH.nil
                      · go_simp
                        (go_at_call 30; (refine HL1K.out.mono ?_); rintro e w3 ⟨rfl, fx3, f3⟩)
                        have hf_ := (Fr.refl No wr).drew.trans f3
                        have HROW3 := hide (owns_fr HROWK.out hf_ fun _ _ h => h)
                        have hxi3 := (hf_.cell hgl fun h => h).trans hxi
                        have hxk3 := (hf_.cell hgl fun h => h).trans hxk
                        have hgl3 := Nat.lt_of_lt_of_le hgl hf_.size
                        have HFX3 := hide fx3
                        clear fx3 f3 hf_
                        try go_simp
                        refine hK.out _ _ ?_ (fun hHeld2 => ?_)
                        · exact ⟨hxi3, hxk3, hgl3⟩
                        clear hK K hHeld
                        have hHeld := hHeld2
                        clear hHeld2
                        try simp only [Act.put, List.setIfInBounds_toArray, List.set_cons_zero, List.set_cons_succ]
                        refine wpAnyH_take (i := 10) (v := ?_) (by simp only [List.getElem?_toArray, List.getElem?_cons_succ, List.getElem?_cons_zero]; rfl) (by kernel_rfl) (by kernel_rfl) (by kernel_rfl) (by intro _ _ _ h; exact h) (Or.inl ⟨by rfl, ?_⟩) (by assumption) ?_
                        rotate_left
                        · (intro w hSw; (try dsimp only at hSw); go_simp; try (with_reducible rfl))
                        try simp only [Act.put, List.setIfInBounds_toArray, List.set_cons_zero, List.set_cons_succ]
                        refine wpAnyH_take (i := 11) (v := ?_) (by simp only [List.getElem?_toArray, List.getElem?_cons_succ, List.getElem?_cons_zero]; rfl) (by kernel_rfl) (by kernel_rfl) (by kernel_rfl) (by intro _ _ _ h; exact h) (Or.inl ⟨by rfl, ?_⟩) (by assumption) ?_
                        rotate_left
                        · (intro w hSw; (try dsimp only at hSw); go_simp; try (with_reducible rfl))
                        try simp only [Act.put, List.setIfInBounds_toArray, List.set_cons_zero, List.set_cons_succ]
                        refine wpAnyH_take (i := 12) (v := ?_) (by simp only [List.getElem?_toArray, List.getElem?_cons_succ, List.getElem?_cons_zero]; rfl) (by kernel_rfl) (by kernel_rfl) (by kernel_rfl) (by intro _ _ _ h; exact h) (Or.inl ⟨by rfl, ?_⟩) (by assumption) ?_
                        rotate_left
                        · (intro w hSw; (try dsimp only at hSw); go_simp; try (with_reducible rfl))
                        try simp only [Act.put, List.setIfInBounds_toArray, List.set_cons_zero, List.set_cons_succ]
                        refine wpAnyH_take (i := 13) (v := ?_) (by simp only [List.getElem?_toArray, List.getElem?_cons_succ, List.getElem?_cons_zero]; rfl) (by kernel_rfl) (by kernel_rfl) (by kernel_rfl) (by intro _ _ _ h; exact h) (Or.inl ⟨by rfl, ?_⟩) (by assumption) ?_
                        rotate_left
                        · (intro w hSw; (try dsimp only at hSw); go_simp; try (with_reducible rfl))
                        try simp only [Act.put, List.setIfInBounds_toArray, List.set_cons_zero, List.set_cons_succ]
                        refine wpAnyH_take (i := 14) (v := ?_) (by simp only [List.getElem?_toArray, List.getElem?_cons_succ, List.getElem?_cons_zero]; rfl) (by kernel_rfl) (by kernel_rfl) (by kernel_rfl) (by intro _ _ _ h; exact h) (Or.inl ⟨by rfl, ?_⟩) (by assumption) ?_
                        rotate_left
                        · (intro w hSw; (try dsimp only at hSw); go_simp; try (with_reducible rfl))
                        try simp only [Act.put, List.setIfInBounds_toArray, List.set_cons_zero, List.set_cons_succ]
                        refine wpAnyH_done (by kernel_rfl) ?_ _
                        clear hHeld hxi hxk hgl
                        go_upto_region 19 with (fail)
                        refine wp_region_held_drew (S := fun w' => w'.cell? ⟨g, k, none⟩ = some (.int .i64 qk) ∧ w'.cell? ⟨g, i, none⟩ = some (.int .i64 qi) ∧ g < w'.heap.size) (by kernel_rfl) ?_ (fun hHeld => ?_)
                        · exact ⟨hxk3, hxi3, hgl3⟩
                        refine wpAnyH_take (i := 0) (v := ?_) (by simp only [List.getElem?_toArray, List.getElem?_cons_zero]; rfl) (by kernel_rfl) (by kernel_rfl) (by kernel_rfl) (by intro _ _ _ h; exact h) (Or.inl ⟨by rfl, ?_⟩) (by assumption) ?_
                        rotate_left
                        · (intro w hSw; (try dsimp only at hSw); go_simp; try (with_reducible rfl))
                        try simp only [Act.put, List.setIfInBounds_toArray, List.set_cons_zero, List.set_cons_succ]
                        refine wpAnyH_take (i := 1) (v := ?_) (by simp only [List.getElem?_toArray, List.getElem?_cons_succ, List.getElem?_cons_zero]; rfl) (by kernel_rfl) (by kernel_rfl) (by kernel_rfl) (by intro _ _ _ h; exact h) (Or.inl ⟨by rfl, ?_⟩) (by assumption) ?_
                        rotate_left
                        · (intro w hSw; (try dsimp only at hSw); go_simp; try (with_reducible rfl))
                        try simp only [Act.put, List.setIfInBounds_toArray, List.set_cons_zero, List.set_cons_succ]
                        refine wpAnyH_take (i := 2) (v := ?_) (by simp only [List.getElem?_toArray, List.getElem?_cons_succ, List.getElem?_cons_zero]; rfl) (by kernel_rfl) (by kernel_rfl) (by kernel_rfl) (by intro _ _ _ h; exact h) (Or.inl ⟨by rfl, ?_⟩) (by assumption) ?_
                        rotate_left
                        · (intro w hSw; (try dsimp only at hSw); go_simp; try (with_reducible rfl))
                        try simp only [Act.put, List.setIfInBounds_toArray, List.set_cons_zero, List.set_cons_succ]
                        refine wpAnyH_take (i := 3) (v := ?_) (by simp only [List.getElem?_toArray, List.getElem?_cons_succ, List.getElem?_cons_zero]; rfl) (by kernel_rfl) (by kernel_rfl) (by kernel_rfl) (by intro _ _ _ h; exact h) (Or.inl ⟨by rfl, ?_⟩) (by assumption) ?_
                        rotate_left
                        · (intro w hSw; (try dsimp only at hSw); go_simp; try (with_reducible rfl))
                        try simp only [Act.put, List.setIfInBounds_toArray, List.set_cons_zero, List.set_cons_succ]
                        refine wpAnyH_take (i := 4) (v := ?_) (by simp only [List.getElem?_toArray, List.getElem?_cons_succ, List.getElem?_cons_zero]; rfl) (by kernel_rfl) (by kernel_rfl) (by kernel_rfl) (by intro _ _ _ h; exact h) (Or.inl ⟨by rfl, ?_⟩) (by assumption) ?_
                        rotate_left
                        · (intro w hSw; (try dsimp only at hSw); go_simp; try (with_reducible rfl))
                        try simp only [Act.put, List.setIfInBounds_toArray, List.set_cons_zero, List.set_cons_succ]
                        refine wpAnyH_take (i := 5) (v := ?_) (by simp only [List.getElem?_toArray, List.getElem?_cons_succ, List.getElem?_cons_zero]; rfl) (by kernel_rfl) (by kernel_rfl) (by kernel_rfl) (by intro _ _ _ h; exact h) (Or.inl ⟨by rfl, ?_⟩) (by assumption) ?_
                        rotate_left
                        · (intro w hSw; (try dsimp only at hSw); go_simp; try (with_reducible rfl))
                        try simp only [Act.put, List.setIfInBounds_toArray, List.set_cons_zero, List.set_cons_succ]
                        refine wpAnyH_take (i := 6) (v := ?_) (by simp only [List.getElem?_toArray, List.getElem?_cons_succ, List.getElem?_cons_zero]; rfl) (by kernel_rfl) (by kernel_rfl) (by kernel_rfl) (by intro _ _ _ h; exact h) (Or.inl ⟨by rfl, ?_⟩) (by assumption) ?_
                        rotate_left
                        · (intro w hSw; (try dsimp only at hSw); go_simp; try (with_reducible rfl))
                        try simp only [Act.put, List.setIfInBounds_toArray, List.set_cons_zero, List.set_cons_succ]
                        refine wpAnyH_take (i := 7) (v := ?_) (by simp only [List.getElem?_toArray, List.getElem?_cons_succ, List.getElem?_cons_zero]; rfl) (by kernel_rfl) (by kernel_rfl) (by kernel_rfl) (by intro _ _ _ h; exact h) (Or.inl ⟨by rfl, ?_⟩) (by assumption) ?_
                        rotate_left
                        · (intro w hSw; (try dsimp only at hSw); go_simp; try (with_reducible rfl))
                        try simp only [Act.put, List.setIfInBounds_toArray, List.set_cons_zero, List.set_cons_succ]
                        refine wpAnyH_take (i := 8) (v := ?_) (by simp only [List.getElem?_toArray, List.getElem?_cons_succ, List.getElem?_cons_zero]; rfl) (by kernel_rfl) (by kernel_rfl) (by kernel_rfl) (by intro _ _ _ h; exact h) (Or.inl ⟨by rfl, ?_⟩) (by assumption) ?_
                        rotate_left
                        · (intro w hSw; (try dsimp only at hSw); go_simp; try (with_reducible rfl))
                        try simp only [Act.put, List.setIfInBounds_toArray, List.set_cons_zero, List.set_cons_succ]
                        refine wpAnyH_ready (rs := [9]) (by kernel_rfl) (by simp) ?_
                        refine AllReadyH.cons rfl (fun K hK => ?_) AllReadyH.nil
                        · go_simp
                          (go_at_call 30; (refine (HL2K.out _ HFX3.out.drew').mono ?_); rintro e w4 ⟨rfl, fx4, f4⟩)
                          have hf_ := (Fr.refl No w3).drew.trans f4
                          have HROW4 := hide (owns_fr HROW3.out hf_ fun _ _ h => h)
                          have hxi4 := (hf_.cell hgl3 fun h => h).trans hxi3
                          have hxk4 := (hf_.cell hgl3 fun h => h).trans hxk3
                          have hgl4 := Nat.lt_of_lt_of_le hgl3 hf_.size
                          have HFX4 := hide fx4
                          clear fx4 f4 hf_
                          try go_simp
                          refine hK.out _ _ ?_ (fun hHeld2 => ?_)
                          · exact ⟨hxk4, hxi4, hgl4⟩
                          clear hK K hHeld
                          have hHeld := hHeld2
                          clear hHeld2
                          try simp only [Act.put, List.setIfInBounds_toArray, List.set_cons_zero, List.set_cons_succ]
                          refine wpAnyH_take (i := 10) (v := ?_) (by simp only [List.getElem?_toArray, List.getElem?_cons_succ, List.getElem?_cons_zero]; rfl) (by kernel_rfl) (by kernel_rfl) (by kernel_rfl) (by intro _ _ _ h; exact h) (Or.inl ⟨by rfl, ?_⟩) (by assumption) ?_
                          rotate_left
                          · (intro w hSw; (try dsimp only at hSw); go_simp; try (with_reducible rfl))
                          try simp only [Act.put, List.setIfInBounds_toArray, List.set_cons_zero, List.set_cons_succ]
                          refine wpAnyH_take (i := 11) (v := ?_) (by simp only [List.getElem?_toArray, List.getElem?_cons_succ, List.getElem?_cons_zero]; rfl) (by kernel_rfl) (by kernel_rfl) (by kernel_rfl) (by intro _ _ _ h; exact h) (Or.inl ⟨by rfl, ?_⟩) (by assumption) ?_
                          rotate_left
                          · (intro w hSw; (try dsimp only at hSw); go_simp; try (with_reducible rfl))
                          try simp only [Act.put, List.setIfInBounds_toArray, List.set_cons_zero, List.set_cons_succ]
                          refine wpAnyH_take (i := 12) (v := ?_) (by simp only [List.getElem?_toArray, List.getElem?_cons_succ, List.getElem?_cons_zero]; rfl) (by kernel_rfl) (by kernel_rfl) (by kernel_rfl) (by intro _ _ _ h; exact h) (Or.inl ⟨by rfl, ?_⟩) (by assumption) ?_
                          rotate_left
                          · (intro w hSw; (try dsimp only at hSw); go_simp; try (with_reducible rfl))
                          try simp only [Act.put, List.setIfInBounds_toArray, List.set_cons_zero, List.set_cons_succ]
                          refine wpAnyH_take (i := 13) (v := ?_) (by simp only [List.getElem?_toArray, List.getElem?_cons_succ, List.getElem?_cons_zero]; rfl) (by kernel_rfl) (by kernel_rfl) (by kernel_rfl) (by intro _ _ _ h; exact h) (Or.inl ⟨by rfl, ?_⟩) (by assumption) ?_
                          rotate_left
                          · (intro w hSw; (try dsimp only at hSw); go_simp; try (with_reducible rfl))
                          try simp only [Act.put, List.setIfInBounds_toArray, List.set_cons_zero, List.set_cons_succ]
                          refine wpAnyH_take (i := 14) (v := ?_) (by simp only [List.getElem?_toArray, List.getElem?_cons_succ, List.getElem?_cons_zero]; rfl) (by kernel_rfl) (by kernel_rfl) (by kernel_rfl) (by intro _ _ _ h; exact h) (Or.inl ⟨by rfl, ?_⟩) (by assumption) ?_
                          rotate_left
                          · (intro w hSw; (try dsimp only at hSw); go_simp; try (with_reducible rfl))
                          try simp only [Act.put, List.setIfInBounds_toArray, List.set_cons_zero, List.set_cons_succ]
                          refine wpAnyH_done (by kernel_rfl) ?_ _
                          clear hHeld hxi3 hxk3 hgl3
                          go_upto_region 20 with (fail)
                          refine wp_region_held_drew (S := fun w' => w'.cell? ⟨g, i, none⟩ = some (.int .i64 qi) ∧ w'.cell? ⟨g, k, none⟩ = some (.int .i64 qk) ∧ g < w'.heap.size) (by kernel_rfl) ?_ (fun hHeld => ?_)
                          · exact ⟨hxi4, hxk4, hgl4⟩
                          refine wpAnyH_take (i := 0) (v := ?_) (by simp only [List.getElem?_toArray, List.getElem?_cons_zero]; rfl) (by kernel_rfl) (by kernel_rfl) (by kernel_rfl) (by intro _ _ _ h; exact h) (Or.inl ⟨by rfl, ?_⟩) (by assumption) ?_
                          rotate_left
                          · (intro w hSw; (try dsimp only at hSw); go_simp; try (with_reducible rfl))
                          try simp only [Act.put, List.setIfInBounds_toArray, List.set_cons_zero, List.set_cons_succ]
                          refine wpAnyH_take (i := 1) (v := ?_) (by simp only [List.getElem?_toArray, List.getElem?_cons_succ, List.getElem?_cons_zero]; rfl) (by kernel_rfl) (by kernel_rfl) (by kernel_rfl) (by intro _ _ _ h; exact h) (Or.inl ⟨by rfl, ?_⟩) (by assumption) ?_
                          rotate_left
                          · (intro w hSw; (try dsimp only at hSw); go_simp; try (with_reducible rfl))
                          try simp only [Act.put, List.setIfInBounds_toArray, List.set_cons_zero, List.set_cons_succ]
                          refine wpAnyH_take (i := 2) (v := ?_) (by simp only [List.getElem?_toArray, List.getElem?_cons_succ, List.getElem?_cons_zero]; rfl) (by kernel_rfl) (by kernel_rfl) (by kernel_rfl) (by intro _ _ _ h; exact h) (Or.inl ⟨by rfl, ?_⟩) (by assumption) ?_
                          rotate_left
                          · (intro w hSw; (try dsimp only at hSw); go_simp; try (with_reducible rfl))
                          try simp only [Act.put, List.setIfInBounds_toArray, List.set_cons_zero, List.set_cons_succ]
                          refine wpAnyH_take (i := 3) (v := ?_) (by simp only [List.getElem?_toArray, List.getElem?_cons_succ, List.getElem?_cons_zero]; rfl) (by kernel_rfl) (by kernel_rfl) (by kernel_rfl) (by intro _ _ _ h; exact h) (Or.inl ⟨by rfl, ?_⟩) (by assumption) ?_
                          rotate_left
                          · (intro w hSw; (try dsimp only at hSw); go_simp; try (with_reducible rfl))
                          try simp only [Act.put, List.setIfInBounds_toArray, List.set_cons_zero, List.set_cons_succ]
                          refine wpAnyH_take (i := 4) (v := ?_) (by simp only [List.getElem?_toArray, List.getElem?_cons_succ, List.getElem?_cons_zero]; rfl) (by kernel_rfl) (by kernel_rfl) (by kernel_rfl) (by intro _ _ _ h; exact h) (Or.inl ⟨by rfl, ?_⟩) (by assumption) ?_
                          rotate_left
                          · (intro w hSw; (try dsimp only at hSw); go_simp; try (with_reducible rfl))
                          try simp only [Act.put, List.setIfInBounds_toArray, List.set_cons_zero, List.set_cons_succ]
                          refine wpAnyH_take (i := 5) (v := ?_) (by simp only [List.getElem?_toArray, List.getElem?_cons_succ, List.getElem?_cons_zero]; rfl) (by kernel_rfl) (by kernel_rfl) (by kernel_rfl) (by intro _ _ _ h; exact h) (Or.inl ⟨by rfl, ?_⟩) (by assumption) ?_
                          rotate_left
                          · (intro w hSw; (try dsimp only at hSw); go_simp; try (with_reducible rfl))
                          try simp only [Act.put, List.setIfInBounds_toArray, List.set_cons_zero, List.set_cons_succ]
                          refine wpAnyH_take (i := 6) (v := ?_) (by simp only [List.getElem?_toArray, List.getElem?_cons_succ, List.getElem?_cons_zero]; rfl) (by kernel_rfl) (by kernel_rfl) (by kernel_rfl) (by intro _ _ _ h; exact h) (Or.inl ⟨by rfl, ?_⟩) (by assumption) ?_
                          rotate_left
                          · (intro w hSw; (try dsimp only at hSw); go_simp; try (with_reducible rfl))
                          try simp only [Act.put, List.setIfInBounds_toArray, List.set_cons_zero, List.set_cons_succ]
                          refine wpAnyH_take (i := 7) (v := ?_) (by simp only [List.getElem?_toArray, List.getElem?_cons_succ, List.getElem?_cons_zero]; rfl) (by kernel_rfl) (by kernel_rfl) (by kernel_rfl) (by intro _ _ _ h; exact h) (Or.inl ⟨by rfl, ?_⟩) (by assumption) ?_
                          rotate_left
                          · (intro w hSw; (try dsimp only at hSw); go_simp; try (with_reducible rfl))
                          try simp only [Act.put, List.setIfInBounds_toArray, List.set_cons_zero, List.set_cons_succ]
                          refine wpAnyH_take (i := 8) (v := ?_) (by simp only [List.getElem?_toArray, List.getElem?_cons_succ, List.getElem?_cons_zero]; rfl) (by kernel_rfl) (by kernel_rfl) (by kernel_rfl) (by intro _ _ _ h; exact h) (Or.inl ⟨by rfl, ?_⟩) (by assumption) ?_
                          rotate_left
                          · (intro w hSw; (try dsimp only at hSw); go_simp; try (with_reducible rfl))
                          try simp only [Act.put, List.setIfInBounds_toArray, List.set_cons_zero, List.set_cons_succ]
                          refine wpAnyH_ready (rs := [9]) (by kernel_rfl) (by simp) ?_
                          refine AllReadyH.cons rfl (fun K hK => ?_) AllReadyH.nil
                          · go_simp
                            (go_at_call 31; (refine (Meet_k HFX4.out.drew' (by have := HNK.out; have := HNI.out; have := HLP.out; have := HLT.out; omega) HII.out HIK.out).mono ?_); rintro e w5 ⟨⟨q5, m5, rfl, x5, fx5, iq⟩, hk5⟩)
                            have hrow5 := hk5 _ _ _ _ (show (World.drew w4).ownsRow _ _ _ _ _ _ from HROW4.out)
                            have HROW5 := hide hrow5
                            have HFXM := hide fx5
                            have HIQ := hide iq
                            have HIIM := hide (HII.out.ext x5)
                            have HIKM := hide (HIK.out.ext x5)
                            have HLIM := hide (HLIK.out.ext x5)
                            have hxi5 : w5.cell? ⟨g, i, none⟩ = some (.int .i64 qi) := by
                              have := World.ownsRow.cells hrow5 (g := g) rfl i (.int .i64 qi) (by simp [refRow, HQI.out])
                              rwa [add_at, Nat.zero_add] at this
                            have hxk5 : w5.cell? ⟨g, k, none⟩ = some (.int .i64 qk) := by
                              have := World.ownsRow.cells hrow5 (g := g) rfl k (.int .i64 qk) (by simp [refRow, HQK.out])
                              rwa [add_at, Nat.zero_add] at this
                            have hgl5 : g < w5.heap.size := (owns_lt hrow5 g rfl).2
                            have hq21 : (q5 == qi) = ba := by
                              rw [← HBA.out, Bool.eq_iff_iff, beq_iff_eq, decide_eq_true_eq]
                              constructor
                              · rintro rfl
                                have := HIQ.out.abl.uniq HIIM.out.abl
                                rw [Nat.and_comm]
                                exact this
                              · intro h
                                have h1 := HIQ.out
                                rw [Nat.and_comm, h] at h1
                                exact h1.one HFXM.out HIIM.out
                            have HQ21 := hide hq21
                            have HAB21 : Hid (ba = true → bb = true → (qi != qk) = false) := hide fun h1 h2 => by
                              have hba := HBA.out
                              have hbb := HBB.out
                              rw [h1] at hba
                              rw [h2] at hbb
                              rw [decide_eq_true_eq] at hba hbb
                              have hcc : ci = ck := by rw [← hba, Nat.and_comm, hbb]
                              have h3 := HIIM.out
                              rw [hcc] at h3
                              have := h3.one HFXM.out HIKM.out
                              simp [this]
                            have HIK21 : Hid (i = k → ba = true) := hide fun h => by
                              subst h
                              have h1 := HCI.out
                              rw [HCK.out] at h1
                              injection h1 with h1
                              subst h1
                              rw [← HBA.out]
                              simp
                            clear hq21
                            clear x5 fx5 iq hk5 hrow5
                            try go_simp
                            refine hK.out _ _ ?_ (fun hHeld2 => ?_)
                            · exact ⟨hxi5, hxk5, hgl5⟩
                            clear hK K hHeld
                            have hHeld := hHeld2
                            clear hHeld2
                            try simp only [Act.put, List.setIfInBounds_toArray, List.set_cons_zero, List.set_cons_succ]
                            refine wpAnyH_take (i := 10) (v := ?_) (by simp only [List.getElem?_toArray, List.getElem?_cons_succ, List.getElem?_cons_zero]; rfl) (by kernel_rfl) (by kernel_rfl) (by kernel_rfl) (by intro _ _ _ h; exact h) (Or.inl ⟨by rfl, ?_⟩) (by assumption) ?_
                            rotate_left
                            · (intro w hSw; (try dsimp only at hSw); go_simp; try (with_reducible rfl))
                            try simp only [Act.put, List.setIfInBounds_toArray, List.set_cons_zero, List.set_cons_succ]
                            refine wpAnyH_take (i := 11) (v := ?_) (by simp only [List.getElem?_toArray, List.getElem?_cons_succ, List.getElem?_cons_zero]; rfl) (by kernel_rfl) (by kernel_rfl) (by kernel_rfl) (by intro _ _ _ h; exact h) (Or.inl ⟨by rfl, ?_⟩) (by assumption) ?_
                            rotate_left
                            · (intro w hSw; (try dsimp only at hSw); go_simp; try (with_reducible rfl))
                            try simp only [Act.put, List.setIfInBounds_toArray, List.set_cons_zero, List.set_cons_succ]
                            refine wpAnyH_take (i := 12) (v := ?_) (by simp only [List.getElem?_toArray, List.getElem?_cons_succ, List.getElem?_cons_zero]; rfl) (by kernel_rfl) (by kernel_rfl) (by kernel_rfl) (by intro _ _ _ h; exact h) (Or.inl ⟨by rfl, ?_⟩) (by assumption) ?_
                            rotate_left
                            · (intro w hSw; (try dsimp only at hSw); go_simp; try (with_reducible rfl))
                            try simp only [Act.put, List.setIfInBounds_toArray, List.set_cons_zero, List.set_cons_succ]
                            refine wpAnyH_take (i := 13) (v := ?_) (by simp only [List.getElem?_toArray, List.getElem?_cons_succ, List.getElem?_cons_zero]; rfl) (by kernel_rfl) (by kernel_rfl) (by kernel_rfl) (by intro _ _ _ h; exact h) (Or.inl ⟨by rfl, ?_⟩) (by assumption) ?_
                            rotate_left
                            · (intro w hSw; (try dsimp only at hSw); go_simp; try (with_reducible rfl))
                            try simp only [Act.put, List.setIfInBounds_toArray, List.set_cons_zero, List.set_cons_succ]
                            refine wpAnyH_take (i := 14) (v := ?_) (by simp only [List.getElem?_toArray, List.getElem?_cons_succ, List.getElem?_cons_zero]; rfl) (by kernel_rfl) (by kernel_rfl) (by kernel_rfl) (by intro _ _ _ h; exact h) (Or.inl ⟨by rfl, ?_⟩) (by assumption) ?_
                            rotate_left
                            · (intro w hSw; (try dsimp only at hSw); go_simp; try (with_reducible rfl))
                            try simp only [Act.put, List.setIfInBounds_toArray, List.set_cons_zero, List.set_cons_succ]
                            refine wpAnyH_done (by kernel_rfl) ?_ _
                            clear hHeld
                            go_upto_region 21 with (fail)
                            go_cut [12, 164] from 74 to 224 (fun v12 t wx => v12 = .int .i64 (i : Int) ∧ t = .bool false ∧ Fr No w5 wx)
                            case first => as_aux_lemma =>
                              have g3i : ∀ q : ClN w5, q.w.cell? ⟨g, i, none⟩ = some (.int .i64 qi) := fun q => (q.fr.cell hgl5 fun h => h).trans hxi5
                              have g3k : ∀ q : ClN w5, q.w.cell? ⟨g, k, none⟩ = some (.int .i64 qk) := fun q => (q.fr.cell hgl5 fun h => h).trans hxk5
                              have g3q : ∀ q : ClN w5, g < q.w.heap.size := fun q => Nat.lt_of_lt_of_le hgl5 q.fr.size
                              have hinst : Nonempty (ClN w5) := ⟨⟨w5, Fr.refl No w5⟩⟩
                              clear hxi5 hxk5 hgl5
                              by_cases hikk : i = k
                              · have hba : ba = true := HIK21.out hikk
                                subst hikk
                                have hqq : qk = qi := by
                                  have := HQI.out
                                  rw [HQK.out] at this
                                  injection this
                                subst hqq
                                subst hba
                                have e3 := HQ21.out
                                have e4 : ((i : Int) == (i : Int)) = true := by simp
                                cases bb with
                                | true =>
                                  have e5 := HAB21.out rfl rfl
                                  refine wp_region_quiet_cl (fun W' => ∃ q : ClN w5, W' = q.w) (by kernel_rfl) (by kernel_rfl) ⟨⟨_, (Fr.refl No w5).drew⟩, rfl⟩ ?_
                                  repeat (go_big_quiet_step (fail))
                                  refine wpQuiet_nil ?_
                                  rintro wx ⟨⟨_, fx9⟩, rfl⟩
                                  clear g3i g3k g3q hinst
                                  go_wp2_with fail
                                  go_meet
                                  case rel => exact ⟨rfl, rfl, fx9⟩
                                | false =>
                                  refine wp_region_quiet_cl (fun W' => ∃ q : ClN w5, W' = q.w) (by kernel_rfl) (by kernel_rfl) ⟨⟨_, (Fr.refl No w5).drew⟩, rfl⟩ ?_
                                  repeat (go_big_quiet_step (fail))
                                  refine wpQuiet_nil ?_
                                  rintro wx ⟨⟨_, fx9⟩, rfl⟩
                                  clear g3i g3k g3q hinst
                                  go_wp2_with fail
                                  go_meet
                                  case rel => exact ⟨rfl, rfl, fx9⟩
                              · have e4 : ((i : Int) == (k : Int)) = false := by simp; omega
                                have e4' : (i == k) = false := by simp [hikk]
                                have e3 := HQ21.out
                                cases ba with
                                | false =>
                                  refine wp_region_quiet_cl (fun W' => ∃ q : ClN w5, W' = q.w) (by kernel_rfl) (by kernel_rfl) ⟨⟨_, (Fr.refl No w5).drew⟩, rfl⟩ ?_
                                  repeat (go_big_quiet_step (fail))
                                  refine wpQuiet_nil ?_
                                  rintro wx ⟨⟨_, fx9⟩, rfl⟩
                                  clear g3i g3k g3q hinst
                                  go_wp2_with fail
                                  go_meet
                                  case rel => exact ⟨rfl, rfl, fx9⟩
                                | true =>
                                  cases bb with
                                  | true =>
                                    have e5 := HAB21.out rfl rfl
                                    refine wp_region_quiet_cl (fun W' => ∃ q : ClN w5, W' = q.w) (by kernel_rfl) (by kernel_rfl) ⟨⟨_, (Fr.refl No w5).drew⟩, rfl⟩ ?_
                                    repeat (go_big_quiet_step (fail))
                                    refine wpQuiet_nil ?_
                                    rintro wx ⟨⟨_, fx9⟩, rfl⟩
                                    clear g3i g3k g3q hinst
                                    go_wp2_with fail
                                    go_meet
                                    case rel => exact ⟨rfl, rfl, fx9⟩
                                  | false =>
                                    refine wp_region_quiet_cl (fun W' => ∃ q : ClN w5, W' = q.w) (by kernel_rfl) (by kernel_rfl) ⟨⟨_, (Fr.refl No w5).drew⟩, rfl⟩ ?_
                                    repeat (go_big_quiet_step (fail))
                                    refine wpQuiet_nil ?_
                                    rintro wx ⟨⟨_, fx9⟩, rfl⟩
                                    clear g3i g3k g3q hinst
                                    go_wp2_with fail
                                    go_meet
                                    case rel => exact ⟨rfl, rfl, fx9⟩
                            obtain ⟨rfl, rfl, f9⟩ := hcut
                            have HROWM := hide (owns_fr HROW5.out f9 fun _ _ h => h)
                            have HFXM2 := hide (HFXM.out.no f9)
                            clear f9 HFXM hxi5 hxk5 hgl5 HROW5 HFXK HROWK HII HIK HLIK
                            have HFXM := hide HFXM2.out
                            clear HFXM2
                            go_wp2_with fail
                            as_aux_lemma =>
                              go_loopw [20] (fun jv wr => ∃ (j : Nat), j ≤ L.length ∧ jv = .int .i64 j ∧ FX W0 wb m5 (n2 + 1) wr ∧ wr.ownsRow W0.heap.size 28 1 (.slice (some ⟨g, 0, none⟩) L.length lc) L.length (refRow L)) (fun i _ => L.length - (intOf i).toNat)
                              case atStart => exact ⟨0, Nat.zero_le _, rfl, HFXM.out, HROWM.out⟩
                              case round =>
                                clear HFXM HROWM
                                obtain ⟨j, hj, rfl, fx, hrow⟩ := hrel
                                by_cases hlj : j < L.length
                                · have HLJ := hide hlj
                                  have hlj' : (j : Int) < (L.length : Int) := by omega
                                  obtain ⟨qj, hqj⟩ : ∃ q, L[j]? = some q := ⟨_, List.getElem?_eq_getElem hlj⟩
                                  obtain ⟨cj, hcj⟩ : ∃ c, C[j]? = some c := ⟨_, List.getElem?_eq_getElem (by rw [← HLIM.out.len]; exact hlj)⟩
                                  have hij : Is1 m5 qj R cj := HLIM.out.is j qj cj hqj hcj
                                  have hxj : wr.cell? ⟨g, j, none⟩ = some (.int .i64 qj) := by
                                    have := World.ownsRow.cells hrow (g := g) rfl j (.int .i64 qj) (by simp [refRow, hqj])
                                    rwa [add_at, Nat.zero_add] at this
                                  have hxi : wr.cell? ⟨g, i, none⟩ = some (.int .i64 qi) := by
                                    have := World.ownsRow.cells hrow (g := g) rfl i (.int .i64 qi) (by simp [refRow, HQI.out])
                                    rwa [add_at, Nat.zero_add] at this
                                  have hxk : wr.cell? ⟨g, k, none⟩ = some (.int .i64 qk) := by
                                    have := World.ownsRow.cells hrow (g := g) rfl k (.int .i64 qk) (by simp [refRow, HQK.out])
                                    rwa [add_at, Nat.zero_add] at this
                                  have hgl : g < wr.heap.size := (owns_lt hrow g rfl).2
                                  have hj0 : (0 : Int) ≤ (j : Int) := by omega
                                  have HIJ := hide hij
                                  have HROWJ := hide hrow
                                  have hnn : decide (cj &&& (ck &&& ci) = cj) = (decide (cj &&& ci = cj) && decide (cj &&& ck = cj)) := by
                                    rw [Bool.eq_iff_iff, Bool.and_eq_true, decide_eq_true_eq, decide_eq_true_eq, decide_eq_true_eq]
                                    exact and_and_iff cj ci ck
                                  have hL1 := Less_k fx.drew' hij HIIM.out
                                  have hL2 := fun (w' : World) (h : FX W0 wb m5 (n2 + 1) w') => Less_k h hij HIKM.out
                                  have hL3 := fun (w' : World) (h : FX W0 wb m5 (n2 + 1) w') => Less_k h hij HIQ.out
                                  rw [hnn] at hL3
                                  generalize decide (cj &&& ci = cj) = bc at *
                                  generalize decide (cj &&& ck = cj) = bd at *
                                  have HL1 := hide hL1
                                  have HL2 := hide hL2
                                  have HL3 := hide hL3
                                  clear fx hrow hqj hcj hij hnn hL1 hL2 hL3
                                  go_upto_region 26 with (fail)
                                  refine wp_region_held_drew (S := fun w' => w'.cell? ⟨g, j, none⟩ = some (.int .i64 qj) ∧ w'.cell? ⟨g, i, none⟩ = some (.int .i64 qi) ∧ g < w'.heap.size) (by kernel_rfl) ?_ (fun hHeld => ?_)
                                  · exact ⟨hxj, hxi, hgl⟩
                                  refine wpAnyH_take (i := 0) (v := ?_) (by simp only [List.getElem?_toArray, List.getElem?_cons_zero]; rfl) (by kernel_rfl) (by kernel_rfl) (by kernel_rfl) (by intro _ _ _ h; exact h) (Or.inl ⟨by rfl, ?_⟩) (by assumption) ?_
                                  rotate_left
                                  · (intro w hSw; (try dsimp only at hSw); go_simp; try (with_reducible rfl))
                                  try simp only [Act.put, List.setIfInBounds_toArray, List.set_cons_zero, List.set_cons_succ]
                                  refine wpAnyH_take (i := 1) (v := ?_) (by simp only [List.getElem?_toArray, List.getElem?_cons_succ, List.getElem?_cons_zero]; rfl) (by kernel_rfl) (by kernel_rfl) (by kernel_rfl) (by intro _ _ _ h; exact h) (Or.inl ⟨by rfl, ?_⟩) (by assumption) ?_
                                  rotate_left
                                  · (intro w hSw; (try dsimp only at hSw); go_simp; try (with_reducible rfl))
                                  try simp only [Act.put, List.setIfInBounds_toArray, List.set_cons_zero, List.set_cons_succ]
                                  refine wpAnyH_take (i := 2) (v := ?_) (by simp only [List.getElem?_toArray, List.getElem?_cons_succ, List.getElem?_cons_zero]; rfl) (by kernel_rfl) (by kernel_rfl) (by kernel_rfl) (by intro _ _ _ h; exact h) (Or.inl ⟨by rfl, ?_⟩) (by assumption) ?_
                                  rotate_left
                                  · (intro w hSw; (try dsimp only at hSw); go_simp; try (with_reducible rfl))
                                  try simp only [Act.put, List.setIfInBounds_toArray, List.set_cons_zero, List.set_cons_succ]
                                  refine wpAnyH_take (i := 3) (v := ?_) (by simp only [List.getElem?_toArray, List.getElem?_cons_succ, List.getElem?_cons_zero]; rfl) (by kernel_rfl) (by kernel_rfl) (by kernel_rfl) (by intro _ _ _ h; exact h) (Or.inl ⟨by rfl, ?_⟩) (by assumption) ?_
                                  rotate_left
                                  · (intro w hSw; (try dsimp only at hSw); go_simp; try (with_reducible rfl))
                                  try simp only [Act.put, List.setIfInBounds_toArray, List.set_cons_zero, List.set_cons_succ]
                                  refine wpAnyH_take (i := 4) (v := ?_) (by simp only [List.getElem?_toArray, List.getElem?_cons_succ, List.getElem?_cons_zero]; rfl) (by kernel_rfl) (by kernel_rfl) (by kernel_rfl) (by intro _ _ _ h; exact h) (Or.inl ⟨by rfl, ?_⟩) (by assumption) ?_
                                  rotate_left
                                  · (intro w hSw; (try dsimp only at hSw); go_simp; try (with_reducible rfl))
                                  try simp only [Act.put, List.setIfInBounds_toArray, List.set_cons_zero, List.set_cons_succ]
                                  refine wpAnyH_take (i := 5) (v := ?_) (by simp only [List.getElem?_toArray, List.getElem?_cons_succ, List.getElem?_cons_zero]; rfl) (by kernel_rfl) (by kernel_rfl) (by kernel_rfl) (by intro _ _ _ h; exact h) (Or.inl ⟨by rfl, ?_⟩) (by assumption) ?_
                                  rotate_left
                                  · (intro w hSw; (try dsimp only at hSw); go_simp; try (with_reducible rfl))
                                  try simp only [Act.put, List.setIfInBounds_toArray, List.set_cons_zero, List.set_cons_succ]
                                  refine wpAnyH_take (i := 6) (v := ?_) (by simp only [List.getElem?_toArray, List.getElem?_cons_succ, List.getElem?_cons_zero]; rfl) (by kernel_rfl) (by kernel_rfl) (by kernel_rfl) (by intro _ _ _ h; exact h) (Or.inl ⟨by rfl, ?_⟩) (by assumption) ?_
                                  rotate_left
                                  · (intro w hSw; (try dsimp only at hSw); go_simp; try (with_reducible rfl))
                                  try simp only [Act.put, List.setIfInBounds_toArray, List.set_cons_zero, List.set_cons_succ]
                                  refine wpAnyH_take (i := 7) (v := ?_) (by simp only [List.getElem?_toArray, List.getElem?_cons_succ, List.getElem?_cons_zero]; rfl) (by kernel_rfl) (by kernel_rfl) (by kernel_rfl) (by intro _ _ _ h; exact h) (Or.inl ⟨by rfl, ?_⟩) (by assumption) ?_
                                  rotate_left
                                  · (intro w hSw; (try dsimp only at hSw); go_simp; try (with_reducible rfl))
                                  try simp only [Act.put, List.setIfInBounds_toArray, List.set_cons_zero, List.set_cons_succ]
                                  refine wpAnyH_take (i := 8) (v := ?_) (by simp only [List.getElem?_toArray, List.getElem?_cons_succ, List.getElem?_cons_zero]; rfl) (by kernel_rfl) (by kernel_rfl) (by kernel_rfl) (by intro _ _ _ h; exact h) (Or.inl ⟨by rfl, ?_⟩) (by assumption) ?_
                                  rotate_left
                                  · (intro w hSw; (try dsimp only at hSw); go_simp; try (with_reducible rfl))
                                  try simp only [Act.put, List.setIfInBounds_toArray, List.set_cons_zero, List.set_cons_succ]
                                  refine wpAnyH_ready (rs := [9]) (by kernel_rfl) (by simp) ?_
                                  refine AllReadyH.cons rfl (fun K hK => ?_) AllReadyH.nil
                                  · go_simp
                                    (go_at_call 30; (refine HL1.out.mono ?_); rintro e w6 ⟨rfl, fx6, f6⟩)
                                    have hf6 := (Fr.refl No wr).drew.trans f6
                                    have HROW6 := hide (owns_fr HROWJ.out hf6 fun _ _ h => h)
                                    have hxj6 := (hf6.cell hgl fun h => h).trans hxj
                                    have hxi6 := (hf6.cell hgl fun h => h).trans hxi
                                    have hxk6 := (hf6.cell hgl fun h => h).trans hxk
                                    have hgl6 := Nat.lt_of_lt_of_le hgl hf6.size
                                    have HFX6 := hide fx6
                                    clear fx6 f6 hf6
                                    try go_simp
                                    refine hK.out _ _ ?_ (fun hHeld2 => ?_)
                                    · exact ⟨hxj6, hxi6, hgl6⟩
                                    clear hK K hHeld
                                    have hHeld := hHeld2
                                    clear hHeld2
                                    try simp only [Act.put, List.setIfInBounds_toArray, List.set_cons_zero, List.set_cons_succ]
                                    refine wpAnyH_take (i := 10) (v := ?_) (by simp only [List.getElem?_toArray, List.getElem?_cons_succ, List.getElem?_cons_zero]; rfl) (by kernel_rfl) (by kernel_rfl) (by kernel_rfl) (by intro _ _ _ h; exact h) (Or.inl ⟨by rfl, ?_⟩) (by assumption) ?_
                                    rotate_left
                                    · (intro w hSw; (try dsimp only at hSw); go_simp; try (with_reducible rfl))
                                    try simp only [Act.put, List.setIfInBounds_toArray, List.set_cons_zero, List.set_cons_succ]
                                    refine wpAnyH_take (i := 11) (v := ?_) (by simp only [List.getElem?_toArray, List.getElem?_cons_succ, List.getElem?_cons_zero]; rfl) (by kernel_rfl) (by kernel_rfl) (by kernel_rfl) (by intro _ _ _ h; exact h) (Or.inl ⟨by rfl, ?_⟩) (by assumption) ?_
                                    rotate_left
                                    · (intro w hSw; (try dsimp only at hSw); go_simp; try (with_reducible rfl))
                                    try simp only [Act.put, List.setIfInBounds_toArray, List.set_cons_zero, List.set_cons_succ]
                                    refine wpAnyH_take (i := 12) (v := ?_) (by simp only [List.getElem?_toArray, List.getElem?_cons_succ, List.getElem?_cons_zero]; rfl) (by kernel_rfl) (by kernel_rfl) (by kernel_rfl) (by intro _ _ _ h; exact h) (Or.inl ⟨by rfl, ?_⟩) (by assumption) ?_
                                    rotate_left
                                    · (intro w hSw; (try dsimp only at hSw); go_simp; try (with_reducible rfl))
                                    try simp only [Act.put, List.setIfInBounds_toArray, List.set_cons_zero, List.set_cons_succ]
                                    refine wpAnyH_take (i := 13) (v := ?_) (by simp only [List.getElem?_toArray, List.getElem?_cons_succ, List.getElem?_cons_zero]; rfl) (by kernel_rfl) (by kernel_rfl) (by kernel_rfl) (by intro _ _ _ h; exact h) (Or.inl ⟨by rfl, ?_⟩) (by assumption) ?_
                                    rotate_left
                                    · (intro w hSw; (try dsimp only at hSw); go_simp; try (with_reducible rfl))
                                    try simp only [Act.put, List.setIfInBounds_toArray, List.set_cons_zero, List.set_cons_succ]
                                    refine wpAnyH_take (i := 14) (v := ?_) (by simp only [List.getElem?_toArray, List.getElem?_cons_succ, List.getElem?_cons_zero]; rfl) (by kernel_rfl) (by kernel_rfl) (by kernel_rfl) (by intro _ _ _ h; exact h) (Or.inl ⟨by rfl, ?_⟩) (by assumption) ?_
                                    rotate_left
                                    · (intro w hSw; (try dsimp only at hSw); go_simp; try (with_reducible rfl))
                                    try simp only [Act.put, List.setIfInBounds_toArray, List.set_cons_zero, List.set_cons_succ]
                                    refine wpAnyH_done (by kernel_rfl) ?_ _
                                    clear hHeld hxj hxi hxk hgl
                                    go_upto_region 27 with (fail)
                                    refine wp_region_held_drew (S := fun w' => w'.cell? ⟨g, j, none⟩ = some (.int .i64 qj) ∧ w'.cell? ⟨g, k, none⟩ = some (.int .i64 qk) ∧ g < w'.heap.size) (by kernel_rfl) ?_ (fun hHeld => ?_)
                                    · exact ⟨hxj6, hxk6, hgl6⟩
                                    refine wpAnyH_take (i := 0) (v := ?_) (by simp only [List.getElem?_toArray, List.getElem?_cons_zero]; rfl) (by kernel_rfl) (by kernel_rfl) (by kernel_rfl) (by intro _ _ _ h; exact h) (Or.inl ⟨by rfl, ?_⟩) (by assumption) ?_
                                    rotate_left
                                    · (intro w hSw; (try dsimp only at hSw); go_simp; try (with_reducible rfl))
                                    try simp only [Act.put, List.setIfInBounds_toArray, List.set_cons_zero, List.set_cons_succ]
                                    refine wpAnyH_take (i := 1) (v := ?_) (by simp only [List.getElem?_toArray, List.getElem?_cons_succ, List.getElem?_cons_zero]; rfl) (by kernel_rfl) (by kernel_rfl) (by kernel_rfl) (by intro _ _ _ h; exact h) (Or.inl ⟨by rfl, ?_⟩) (by assumption) ?_
                                    rotate_left
                                    · (intro w hSw; (try dsimp only at hSw); go_simp; try (with_reducible rfl))
                                    try simp only [Act.put, List.setIfInBounds_toArray, List.set_cons_zero, List.set_cons_succ]
                                    refine wpAnyH_take (i := 2) (v := ?_) (by simp only [List.getElem?_toArray, List.getElem?_cons_succ, List.getElem?_cons_zero]; rfl) (by kernel_rfl) (by kernel_rfl) (by kernel_rfl) (by intro _ _ _ h; exact h) (Or.inl ⟨by rfl, ?_⟩) (by assumption) ?_
                                    rotate_left
                                    · (intro w hSw; (try dsimp only at hSw); go_simp; try (with_reducible rfl))
                                    try simp only [Act.put, List.setIfInBounds_toArray, List.set_cons_zero, List.set_cons_succ]
                                    refine wpAnyH_take (i := 3) (v := ?_) (by simp only [List.getElem?_toArray, List.getElem?_cons_succ, List.getElem?_cons_zero]; rfl) (by kernel_rfl) (by kernel_rfl) (by kernel_rfl) (by intro _ _ _ h; exact h) (Or.inl ⟨by rfl, ?_⟩) (by assumption) ?_
                                    rotate_left
                                    · (intro w hSw; (try dsimp only at hSw); go_simp; try (with_reducible rfl))
                                    try simp only [Act.put, List.setIfInBounds_toArray, List.set_cons_zero, List.set_cons_succ]
                                    refine wpAnyH_take (i := 4) (v := ?_) (by simp only [List.getElem?_toArray, List.getElem?_cons_succ, List.getElem?_cons_zero]; rfl) (by kernel_rfl) (by kernel_rfl) (by kernel_rfl) (by intro _ _ _ h; exact h) (Or.inl ⟨by rfl, ?_⟩) (by assumption) ?_
                                    rotate_left
                                    · (intro w hSw; (try dsimp only at hSw); go_simp; try (with_reducible rfl))
                                    try simp only [Act.put, List.setIfInBounds_toArray, List.set_cons_zero, List.set_cons_succ]
                                    refine wpAnyH_take (i := 5) (v := ?_) (by simp only [List.getElem?_toArray, List.getElem?_cons_succ, List.getElem?_cons_zero]; rfl) (by kernel_rfl) (by kernel_rfl) (by kernel_rfl) (by intro _ _ _ h; exact h) (Or.inl ⟨by rfl, ?_⟩) (by assumption) ?_
                                    rotate_left
                                    · (intro w hSw; (try dsimp only at hSw); go_simp; try (with_reducible rfl))
                                    try simp only [Act.put, List.setIfInBounds_toArray, List.set_cons_zero, List.set_cons_succ]
                                    refine wpAnyH_take (i := 6) (v := ?_) (by simp only [List.getElem?_toArray, List.getElem?_cons_succ, List.getElem?_cons_zero]; rfl) (by kernel_rfl) (by kernel_rfl) (by kernel_rfl) (by intro _ _ _ h; exact h) (Or.inl ⟨by rfl, ?_⟩) (by assumption) ?_
                                    rotate_left
                                    · (intro w hSw; (try dsimp only at hSw); go_simp; try (with_reducible rfl))
                                    try simp only [Act.put, List.setIfInBounds_toArray, List.set_cons_zero, List.set_cons_succ]
                                    refine wpAnyH_take (i := 7) (v := ?_) (by simp only [List.getElem?_toArray, List.getElem?_cons_succ, List.getElem?_cons_zero]; rfl) (by kernel_rfl) (by kernel_rfl) (by kernel_rfl) (by intro _ _ _ h; exact h) (Or.inl ⟨by rfl, ?_⟩) (by assumption) ?_
                                    rotate_left
                                    · (intro w hSw; (try dsimp only at hSw); go_simp; try (with_reducible rfl))
                                    try simp only [Act.put, List.setIfInBounds_toArray, List.set_cons_zero, List.set_cons_succ]
                                    refine wpAnyH_take (i := 8) (v := ?_) (by simp only [List.getElem?_toArray, List.getElem?_cons_succ, List.getElem?_cons_zero]; rfl) (by kernel_rfl) (by kernel_rfl) (by kernel_rfl) (by intro _ _ _ h; exact h) (Or.inl ⟨by rfl, ?_⟩) (by assumption) ?_
                                    rotate_left
                                    · (intro w hSw; (try dsimp only at hSw); go_simp; try (with_reducible rfl))
                                    try simp only [Act.put, List.setIfInBounds_toArray, List.set_cons_zero, List.set_cons_succ]
                                    refine wpAnyH_ready (rs := [9]) (by kernel_rfl) (by simp) ?_
                                    refine AllReadyH.cons rfl (fun K hK => ?_) AllReadyH.nil
                                    · go_simp
                                      (go_at_call 30; (refine (HL2.out _ HFX6.out.drew').mono ?_); rintro e w7 ⟨rfl, fx7, f7⟩)
                                      have hf67 := (Fr.refl No w6).drew.trans f7
                                      have HROW7 := hide (owns_fr HROW6.out hf67 fun _ _ h => h)
                                      have HF67 := hide hf67
                                      have HFX7 := hide fx7
                                      clear fx7 f7 hf67
                                      try go_simp
                                      refine hK.out _ _ ?_ (fun hHeld2 => ?_)
                                      · exact ⟨(HF67.out.cell hgl6 fun h => h).trans hxj6, (HF67.out.cell hgl6 fun h => h).trans hxk6, Nat.lt_of_lt_of_le hgl6 HF67.out.size⟩
                                      clear hK K hHeld
                                      have hHeld := hHeld2
                                      clear hHeld2
                                      try simp only [Act.put, List.setIfInBounds_toArray, List.set_cons_zero, List.set_cons_succ]
                                      refine wpAnyH_take (i := 10) (v := ?_) (by simp only [List.getElem?_toArray, List.getElem?_cons_succ, List.getElem?_cons_zero]; rfl) (by kernel_rfl) (by kernel_rfl) (by kernel_rfl) (by intro _ _ _ h; exact h) (Or.inl ⟨by rfl, ?_⟩) (by assumption) ?_
                                      rotate_left
                                      · (intro w hSw; (try dsimp only at hSw); go_simp; try (with_reducible rfl))
                                      try simp only [Act.put, List.setIfInBounds_toArray, List.set_cons_zero, List.set_cons_succ]
                                      refine wpAnyH_take (i := 11) (v := ?_) (by simp only [List.getElem?_toArray, List.getElem?_cons_succ, List.getElem?_cons_zero]; rfl) (by kernel_rfl) (by kernel_rfl) (by kernel_rfl) (by intro _ _ _ h; exact h) (Or.inl ⟨by rfl, ?_⟩) (by assumption) ?_
                                      rotate_left
                                      · (intro w hSw; (try dsimp only at hSw); go_simp; try (with_reducible rfl))
                                      try simp only [Act.put, List.setIfInBounds_toArray, List.set_cons_zero, List.set_cons_succ]
                                      refine wpAnyH_take (i := 12) (v := ?_) (by simp only [List.getElem?_toArray, List.getElem?_cons_succ, List.getElem?_cons_zero]; rfl) (by kernel_rfl) (by kernel_rfl) (by kernel_rfl) (by intro _ _ _ h; exact h) (Or.inl ⟨by rfl, ?_⟩) (by assumption) ?_
                                      rotate_left
                                      · (intro w hSw; (try dsimp only at hSw); go_simp; try (with_reducible rfl))
                                      try simp only [Act.put, List.setIfInBounds_toArray, List.set_cons_zero, List.set_cons_succ]
                                      refine wpAnyH_take (i := 13) (v := ?_) (by simp only [List.getElem?_toArray, List.getElem?_cons_succ, List.getElem?_cons_zero]; rfl) (by kernel_rfl) (by kernel_rfl) (by kernel_rfl) (by intro _ _ _ h; exact h) (Or.inl ⟨by rfl, ?_⟩) (by assumption) ?_
                                      rotate_left
                                      · (intro w hSw; (try dsimp only at hSw); go_simp; try (with_reducible rfl))
                                      try simp only [Act.put, List.setIfInBounds_toArray, List.set_cons_zero, List.set_cons_succ]
                                      refine wpAnyH_take (i := 14) (v := ?_) (by simp only [List.getElem?_toArray, List.getElem?_cons_succ, List.getElem?_cons_zero]; rfl) (by kernel_rfl) (by kernel_rfl) (by kernel_rfl) (by intro _ _ _ h; exact h) (Or.inl ⟨by rfl, ?_⟩) (by assumption) ?_
                                      rotate_left
                                      · (intro w hSw; (try dsimp only at hSw); go_simp; try (with_reducible rfl))
                                      try simp only [Act.put, List.setIfInBounds_toArray, List.set_cons_zero, List.set_cons_succ]
                                      refine wpAnyH_done (by kernel_rfl) ?_ _
                                      clear hHeld
                                      have hxj7 := (HF67.out.cell hgl6 fun h => h).trans hxj6
                                      have hgl7 := Nat.lt_of_lt_of_le hgl6 HF67.out.size
                                      have HL3' := hide (HL3.out _ HFX7.out)
                                      go_wp2_with fail
                                      refine HL3'.out.mono ?_
                                      rintro e w8 ⟨rfl, fx8, f8⟩
                                      have hrow8 := owns_fr HROW7.out f8 fun _ _ h => h
                                      have HROW8 := hide hrow8
                                      have HFX8 := hide fx8
                                      clear fx8 f8 hrow8 HL3'
                                      cases bc <;> cases bd
                                      all_goals
                                        go_wp2_with fail
                                        go_roundw
                                        case rel => exact ⟨j + 1, HLJ.out, by go_num, HFX8.out, HROW8.out⟩
                                        case measure =>
                                          have := HLJ.out
                                          simp [intOf] <;> omega
                                · obtain rfl : L.length = j := by omega
                                  have HFXJ := hide fx
                                  have HROWJ := hide hrow
                                  clear fx hrow hlj hj
                                  go_wp2_with fail
                                  go_roundw
                                  case rel => exact ⟨k + 1, _, _, HLK.out, by go_num, by have := HNK.out; omega, HFXJ.out, HLIM.out, HROWJ.out⟩
                                  case measure =>
                                    have := HLK.out
                                    simp [intOf] <;> omega
                    · obtain rfl : L.length = k := by omega
                      have HFXK := hide fx
                      have HLIK := hide hli
                      have HROWK := hide hrow
                      clear fx hli hrow hn2 hlk hk
                      go_wp2_with fail
                      go_roundw
                      case rel => exact ⟨i + 1, n2, m2, HLT.out, by go_num, by have := HNK.out; have := HNI.out; have := HLP.out; omega, HFXK.out, HLIK.out, HROWK.out⟩
                      case measure =>
                        have := HLT.out
                        simp [intOf] <;> omega
              · obtain rfl : L.length = i := by omega
                clear fx hli hrow hn hlt hi
                go_wp2_with fail
                refine (HAW.out wr).mono ?_
                rintro e w2 ⟨rfl, f2⟩
                have HF2 := hide (HF0.out.trans (HFXI.out.fr.trans f2))
                clear f2
                go_wp2
                go_ret
                exact ⟨rfl, HF2.out⟩

end Go.Proofs.Ytnddfiohofnbaaa

/- Texts joined: Wo13, Wo15, Wo16. -/
import Derived.Test.YtnddfiohofnbaaaJn10
import Derived.Test.YtnddfiohofnbaaaJn11
/- Worlds: Make, of a thing of the kind 6. -/
namespace Go.Proofs.Ytnddfiohofnbaaa
open Go.RowKit

set_option maxRecDepth 100000 in
set_option maxHeartbeats 8000000 in
theorem make6 {m : Wm} {lo : Nat} {W : World} (h : m.Ok lo W) (hlo : lo ≤ W.heap.size) (home : Nat) (hs : home < m.made.length) (h512 : m.made[home] < 512) (hlen : m.th.length < 100000) (ofr : Int) {x : Nat × Th} (hg : m.get ofr = some x) (hk5 : x.2.kind = 5) (hxh : x.2.home = (home : Int)) (hno : ∀ x ∈ m.th, ¬ (x.2.kind = 6 ∧ x.2.ofr = ofr)) :
    Calls Try.prog 39 #[.pointer (some ⟨m.wb, 0, none⟩), .agg (th16 6 (home : Int) 0 0 ⟨#[]⟩ none 0 0 0 0 0 ofr 0 0 false)] W (MakeRes m 6 home T.zero.v 0 0 ofr 0 0 false home lo W) := by
  have ht := fun W' : World => (T.zero_ow W' 0 W'.heap.size).inn
  have hzv : T.zero.v.may = true := by rw [T.zero_v, zero_may]
  have hF := fun W' (f : Fr No W W') => form6 (h.no f) home ofr hs
  have hN := fun W' (f : Fr No W W') => names_w (h.no f) 6 (home : Int) 0 0 ⟨#[]⟩ none 0 [] 0 0 0 ofr 0 0 false W'.heap.size (ht W') (Nat.le_refl _) (by show T.zero.v.refs.length ≤ _; rw [T.zero_v, zero_refs]; simp)
  have hO := fun W' (f : Fr No W W') => ownWhat_w 6 (home : Int) 0 0 ⟨#[]⟩ none 0 [] 0 0 0 ofr 0 0 false W' W'.heap.size (ht W') (Nat.le_refl _) hzv
  have hz0 : m.are (T.mk 0 0 ⟨#[]⟩ none 0 [] 0).v.refs = true := by show m.are T.zero.v.refs = true; rw [T.zero_v, zero_refs]; rfl
  rw [hz0] at hN
  simp only [List.length_nil] at hN hO
  have hT := fun W' (f : Fr No W W') => fits6 (h.no f) (home : Int) 0 0 ⟨#[]⟩ none 0 0 0 0 0 ofr 0 0 false hg hk5 hxh hno
  have hI := fun W' (f : Fr No W W') => Is_w (h.no f) ofr
  have hgi : (m.get ofr).isSome = true := by rw [hg]; rfl
  rw [hgi] at hI
  have hb0 := Blk.new W 83 (th16 6 (home : Int) 0 0 ⟨#[]⟩ none 0 0 0 0 0 ofr 0 0 false)
  have hf0 := (Fr.refl No W).alloc (.cells (th16 6 (home : Int) 0 0 ⟨#[]⟩ none 0 0 0 0 0 ofr 0 0 false) 83)
  have HOK := hide h
  have HF := hide hF
  have HN := hide hN
  have HO := hide hO
  have HT := hide hT
  have HI := hide hI
  have HB := hide hb0
  have HF0 := hide hf0
  unfold th16 at HF HN HO HT HB HF0 hb0 ⊢
  obtain ⟨d0, d1, d2, d3, d4, d5, d6, d7, d8, d9, d10, d11, d12, d13, d14, d15⟩ := hb0.cells16
  have dq := hb0.lt
  clear hF hN hO hT hb0 hf0 h hI hgi hg hk5 hxh ht hzv hz0 hno
  go_enter Try.func39, Try.ntmps39
  go_wp2_with fail
  generalize World.alloc W _ = W0 at *
  refine (none_w (HOK.out.no HF0.out)).mono ?_
  rintro e w' ⟨rfl, rfl⟩
  go_wp2_with fail
  refine (HF.out w' HF0.out).mono ?_
  rintro e w1 ⟨rfl, ff⟩
  have hb := HB.out.fr ff fun h => h
  replace HB := hide hb
  replace HF0 := hide (HF0.out.trans ff)
  clear d0 d1 d2 d3 d4 d5 d6 d7 d8 d9 d10 d11 d12 d13 d14 d15 dq ff
  obtain ⟨d0, d1, d2, d3, d4, d5, d6, d7, d8, d9, d10, d11, d12, d13, d14, d15⟩ := hb.cells16
  have dq := hb.lt
  clear hb
  go_wp2_with fail
  refine (HN.out w1 HF0.out).mono ?_
  rintro e w2 ⟨rfl, ff⟩
  have hb := HB.out.fr ff fun h => h
  replace HB := hide hb
  replace HF0 := hide (HF0.out.trans ff)
  clear d0 d1 d2 d3 d4 d5 d6 d7 d8 d9 d10 d11 d12 d13 d14 d15 dq ff
  obtain ⟨d0, d1, d2, d3, d4, d5, d6, d7, d8, d9, d10, d11, d12, d13, d14, d15⟩ := hb.cells16
  have dq := hb.lt
  clear hb
  go_wp2_with fail
  refine (asks6 w2).mono ?_
  rintro e w3 ⟨rfl, rfl⟩
  go_wp2_with fail
  refine (HI.out w3 HF0.out).mono ?_
  rintro e w4 ⟨rfl, rfl⟩
  go_wp2_with fail
  refine (by5 6 (by simp) w4).mono ?_
  rintro e w5 ⟨rfl, rfl⟩
  go_wp2_with fail
  refine (HT.out w5 HF0.out).mono ?_
  rintro e w6 ⟨rfl, ff⟩
  have hb := HB.out.fr ff fun h => h
  replace HB := hide hb
  replace HF0 := hide (HF0.out.trans ff)
  clear d0 d1 d2 d3 d4 d5 d6 d7 d8 d9 d10 d11 d12 d13 d14 d15 dq ff
  obtain ⟨d0, d1, d2, d3, d4, d5, d6, d7, d8, d9, d10, d11, d12, d13, d14, d15⟩ := hb.cells16
  have dq := hb.lt
  clear hb
  go_wp2_with fail
  have hok6 := HOK.out.no HF0.out
  have hz : 0 < m.made.length := by omega
  obtain ⟨gD, c, hA2, hg0, hg1⟩ := hok6.made.form hz
  simp only [Value.slice.injEq, true_and] at hA2
  have hcell : w6.cell? ⟨gD, home, none⟩ = some (.int .i64 (m.made[home] : Int)) := by
    have := World.ownsRow.cells hok6.made (g := gD) (by rw [hA2.1]; rfl) home (.int .i64 (m.made[home] : Int)) (by simp [hs])
    rwa [add_at, Nat.zero_add] at this
  have x5 : w6.cell? ⟨m.wb, 5, none⟩ = some (.slice m.D m.made.length m.dc) := by
    have := hok6.blk.cell 5
    simpa [Wm.cells] using this
  rw [hA2.1] at x5
  have xq := hok6.blk.lt
  have hlt5 : decide ((m.made[home] : Int) ≥ 512) = false := by simp; omega
  generalize hmd : m.made[home] = mv at *
  clear hok6 hz hA2
  go_region
  all_goals
    go_simp
    go_wp2_with fail
    have HF7 := hide HF0.out.drew
    refine (HO.out w6.drew HF7.out).mono ?_
    rintro e w8 ⟨⟨k9, n9, s9, A9, cap9, l9, r9⟩, rfl, hv9, hsh9, f9⟩
    have hb := HB.out.fr (((Fr.refl No w6).drew).trans f9) fun h => h
    have hz6 := HF0.out.size
    have hly := lay_w ((HOK.out.no HF7.out).no f9) (by have := f9.size; have := HF7.out.size; omega) 6 k9 n9 s9 A9 cap9 l9 r9 0 0 ofr 0 0 false home hs (by rw [hmd]; exact h512) (by decide) hlen (hsh9.more (by have := HF7.out.size; omega) (Nat.le_refl _))
    have hval : (Th.val ⟨6, (home : Int), T.mk k9 n9 s9 A9 cap9 l9 r9, 0, 0, ofr, 0, 0, false⟩) = .agg (th16 6 (home : Int) k9 n9 s9 A9 l9.length cap9 r9 0 0 ofr 0 0 false) := rfl
    rw [hval]
    have hbl : ∀ b ∈ (T.mk k9 n9 s9 A9 cap9 l9 r9).blocks, W.heap.size ≤ b := fun b hb => by have := (T.In.blocks _ hsh9.inn b hb).1; have := HF7.out.size; omega
    have HLY := hide hly
    have HV9 := hide hv9
    have HBL := hide hbl
    have HF9 := hide (HF7.out.trans f9)
    have hd0 : w8.cell? ⟨W.heap.size, 0, none⟩ = some (.int .u8 6) := hb.cell 0
    have HB8 := hide hb
    unfold th16 at HLY ⊢
    clear d0 d1 d2 d3 d4 d5 d6 d7 d8 d9 d10 d11 d12 d13 d14 d15 dq hcell x5 xq hlt5 hv9 hsh9 f9 hly hval hbl hb hz6 hd0
    go_wp2_with fail
    refine HLY.out.mono ?_
    rintro e w9 ⟨rfl, hok9, f10⟩
    have hnb : ¬ m.B W.heap.size := fun hb => by have := (HOK.out.lt _ hb).2; omega
    have hb9 := HB8.out.fr f10 hnb
    have hd0 : w9.cell? ⟨W.heap.size, 0, none⟩ = some (.int .u8 6) := hb9.cell 0
    have hq0 := hb9.lt
    have HOK9 := hide hok9
    have HF10 := hide (HF9.out.no.trans f10)
    have hg8 := HF9.out.size
    have HG8 := hide hg8
    clear hok9 f10 hnb hb9 hg8
    go_wp2_with fail
    go_ret2
    exact ⟨rfl, _, _, HV9.out, HG8.out, HBL.out, HOK9.out, HF10.out⟩

end Go.Proofs.Ytnddfiohofnbaaa

/- seal.Pair. -/
namespace Go.Proofs.Ytnddfiohofnbaaa
open Go.RowKit

section
variable {m : Wm} {lo : Nat} {W : World}

theorem add_old {g s i B : Nat} {x : Th} (hg : B ≤ g) (hv : ∀ b ∈ x.v.blocks, B ≤ b) (hi : (m.add g x s).B i) (hlt : i < B) : m.B i := by
  rcases hi with hi | hi | hi | hi | ⟨y, hy, hi⟩
  · exact .inl hi
  · exact .inr (.inl hi)
  · exact .inr (.inr (.inl hi))
  · refine .inr (.inr (.inr (.inl ?_)))
    simpa [Wm.add] using hi
  · rcases List.mem_append.1 hy with hy | hy
    · exact .inr (.inr (.inr (.inr ⟨y, hy, hi⟩)))
    · simp only [List.mem_singleton] at hy
      subst hy
      rcases hi with hi | hi
      · simp only at hi; omega
      · have := hv i hi; omega

theorem add_len (g s : Nat) (x : Th) : (m.add g x s).th.length = m.th.length + 1 := by simp [Wm.add]
theorem add_made (g s : Nat) (x : Th) : (m.add g x s).made.length = m.made.length := by simp [Wm.add]
theorem add_at_made {g s : Nat} {x : Th} (hs : s < m.made.length) : (m.add g x s).made[s]'(by rw [add_made]; exact hs) = m.made[s] + 1 := by
  simp [Wm.add, List.getD_eq_getElem?_getD, hs]
theorem add_get_new (g s : Nat) (x : Th) : (m.add g x s).get ((m.th.length : Int) + 1) = some (g, x) := by
  unfold Wm.get Wm.at_
  rw [add_len, if_pos (by omega)]
  simp [Wm.add]
theorem add_get_old {g s : Nat} {x : Th} {r : Int} {y : Nat × Th} (h : m.get r = some y) : (m.add g x s).get r = some y := by
  unfold Wm.get Wm.at_ at h ⊢
  rw [add_len]
  split at h
  · rename_i hr
    rw [if_pos (by omega)]
    simp only [Option.bind_some] at h ⊢
    show (m.th ++ [(g, x)])[(r - 1).toNat]? = some y
    rw [List.getElem?_append_left (by omega)]
    exact h
  · cases h

/-- What Pair leaves. -/
def PairRes (m : Wm) (home lo : Nat) (W : World) (e : Ending) (w' : World) : Prop :=
  e = .returned (.tuple #[.int .i64 ((m.th.length : Int) + 1), .int .i64 ((m.th.length : Int) + 1 + 1), .int .i64 0]) ∧ ∃ (g1 g2 : Nat) (t1 t2 : T), t1.v = V.zero ∧ t2.v = V.zero ∧
    ((m.add g1 ⟨5, home, t1, 0, 0, 0, 0, 0, false⟩ home).add g2 ⟨6, home, t2, 0, 0, (m.th.length : Int) + 1, 0, 0, false⟩ home).Ok lo w' ∧ Fr m.B W w' ∧
    ∀ i, ((m.add g1 ⟨5, home, t1, 0, 0, 0, 0, 0, false⟩ home).add g2 ⟨6, home, t2, 0, 0, (m.th.length : Int) + 1, 0, 0, false⟩ home).B i → i < W.heap.size → m.B i

set_option maxRecDepth 100000 in
set_option maxHeartbeats 4000000 in
theorem Pair_ok (h : m.Ok lo W) (hlo : lo ≤ W.heap.size) (home : Nat) (hs : home < m.made.length) (h512 : m.made[home] + 2 ≤ 512) (hlen : m.th.length + 2 < 100000) (hof : ∀ x ∈ m.th, x.2.ofr ≤ (m.th.length : Int)) :
    Calls Try.prog 11 #[.pointer (some ⟨m.wb, 0, none⟩), .int .i64 (home : Int)] W (PairRes m home lo W) := by
  have HTh := hide (there_w h)
  have HS := hide (Sides_w h)
  have HM := hide (Made_w h hs)
  have hmk := make5 h hlo home hs (by omega) (by omega)
  unfold th16 at hmk
  have HMK := hide hmk
  have h0 : decide ((home : Int) < 0) = false := by simp
  have h1 : decide ((home : Int) ≥ (m.made.length : Int)) = false := by simp; omega
  have hw : IntKind.i64.wrap ((m.made[home] : Int) + 2) = (m.made[home] : Int) + 2 := IntWalk.i64_in _ (by omega)
  have h2 : decide (512 < (m.made[home] : Int) + 2) = false := by simp; omega
  clear hmk
  go_enter Try.func11, Try.ntmps11
  go_wp2_with fail
  refine HTh.out.mono ?_
  rintro e w' ⟨rfl, rfl⟩
  go_wp2_with fail
  refine HS.out.mono ?_
  rintro e w' ⟨rfl, rfl⟩
  go_wp2_with fail
  refine HM.out.mono ?_
  rintro e w' ⟨rfl, rfl⟩
  go_wp2_with fail
  refine HMK.out.mono ?_
  rintro e w1 ⟨rfl, g1, t1, hv1, hg1, hb1, hok1, f1⟩
  have hmk2 := make6 hok1 (Nat.le_trans hlo f1.size) home (by rw [add_made]; exact hs) (by rw [add_at_made hs]; omega) (by rw [add_len]; omega) ((m.th.length : Int) + 1) (add_get_new _ _ _) rfl rfl (fun y hy hh => by
    rcases List.mem_append.1 hy with hy | hy
    · have := hof y hy
      omega
    · simp only [List.mem_singleton] at hy
      subst hy
      have := hh.1
      simp at this)
  have hwb : (m.add g1 ⟨5, home, t1, 0, 0, 0, 0, 0, false⟩ home).wb = m.wb := rfl
  rw [hwb] at hmk2
  unfold th16 MakeRes at hmk2
  rw [add_len] at hmk2
  have HMK2 := hide hmk2
  clear hmk2 h0 h1 h2 hw HMK HM HS HTh
  go_wp2_with fail
  refine HMK2.out.mono ?_
  rintro e w2 ⟨rfl, g2, t2, hv2, hg2, hb2, hok2, f2⟩
  have hfr : Fr m.B w' w2 := f1.trans' f2 fun i hi hb => add_old hg1 hb1 hb hi
  have hold : ∀ i, ((m.add g1 ⟨5, home, t1, 0, 0, 0, 0, 0, false⟩ home).add g2 ⟨6, home, t2, 0, 0, (m.th.length : Int) + 1, 0, 0, false⟩ home).B i → i < w'.heap.size → m.B i := fun i hi hlt =>
    add_old hg1 hb1 (add_old hg2 hb2 hi (Nat.lt_of_lt_of_le hlt f1.size)) hlt
  have HFR := hide hfr
  have HOLD := hide hold
  have HOK2 := hide hok2
  have HV1 := hide hv1
  have HV2 := hide hv2
  clear hfr hold hok2 hv1 hv2 hg1 hb1 hg2 hb2 hok1 f1 f2 hwb hof
  have hcast : ((m.th.length + 1 : Nat) : Int) + 1 = (m.th.length : Int) + 1 + 1 := by omega
  go_wp2_with fail
  refine bodyPost_ret (v := .tuple #[.int .i64 ((m.th.length : Int) + 1), .int .i64 ((m.th.length : Int) + 1 + 1), .int .i64 0]) (by simp [results, Try.results11, go_sem, *]) rfl ?_
  exact ⟨rfl, g1, g2, t1, t2, HV1.out.trans T.zero_v, HV2.out.trans T.zero_v, HOK2.out, HFR.out, HOLD.out⟩

set_option maxRecDepth 100000 in
/-- There is no room for two more. -/
theorem Pair_limit (h : m.Ok lo W) (home : Nat) (hs : home < m.made.length) (h512 : 512 < m.made[home] + 2) :
    Calls Try.prog 11 #[.pointer (some ⟨m.wb, 0, none⟩), .int .i64 (home : Int)] W fun e w' => e = .returned (.tuple #[.int .i64 0, .int .i64 0, .int .i64 8]) ∧ w' = W := by
  have HTh := hide (there_w h)
  have HS := hide (Sides_w h)
  have HM := hide (Made_w h hs)
  have hle := h.mades _ (List.getElem_mem hs)
  have h0 : decide ((home : Int) < 0) = false := by simp
  have h1 : decide ((home : Int) ≥ (m.made.length : Int)) = false := by simp; omega
  have hw : IntKind.i64.wrap ((m.made[home] : Int) + 2) = (m.made[home] : Int) + 2 := IntWalk.i64_in _ (by omega)
  have h2 : decide (512 < (m.made[home] : Int) + 2) = true := by simp; omega
  clear h hle
  go_enter Try.func11, Try.ntmps11
  go_wp2_with fail
  refine HTh.out.mono ?_
  rintro e w' ⟨rfl, rfl⟩
  go_wp2_with fail
  refine HS.out.mono ?_
  rintro e w' ⟨rfl, rfl⟩
  go_wp2_with fail
  refine HM.out.mono ?_
  rintro e w' ⟨rfl, rfl⟩
  go_wp2_with fail
  refine bodyPost_ret (v := .tuple #[.int .i64 0, .int .i64 0, .int .i64 8]) (by simp [results, Try.results11, go_sem, *]) rfl ?_
  exact ⟨rfl, rfl⟩
end

end Go.Proofs.Ytnddfiohofnbaaa

/- seal.refs, seal.Seal. -/
namespace Go.Proofs.Ytnddfiohofnbaaa
open Go.RowKit

section
variable {m : Wm} {lo : Nat} {W : World}

/-- The references of a value are things. -/
theorem srefs_yes (h : m.Ok lo W) (t : T) (hi : Nat) (ht : t.In W 0 hi) (hhi : hi ≤ W.heap.size) (hln : t.v.refs.length ≤ 140737488351232) (hare : m.are t.v.refs = true) :
    Calls Try.prog 42 #[.pointer (some ⟨m.wb, 0, none⟩), t.val] W fun e w' => e = .returned (.int .i64 0) ∧ Fr No W w' := by
  have hR := fun W' (f : Fr No W W') => Refs_any t W' 0 hi (ht.no f hhi) (Nat.le_trans hhi f.size)
  obtain ⟨k, n, s, A, cap, l, r⟩ := t
  rw [T.val_mk] at *
  generalize (T.mk k n s A cap l r).v.refs = L at *
  have HOK := hide h
  have HR := hide hR
  have HA := hide hare
  have hf0 := (Fr.refl No W).alloc (.cells #[.int .u8 k, .int .i64 n, .string s, .slice A l.length cap, .int .i64 r] 37)
  have HF0 := hide hf0
  clear h hR hare ht hhi hf0
  go_enter Try.func42, Try.ntmps42
  go_wp2_with fail
  generalize World.alloc W _ = W0 at *
  refine (HR.out W0 HF0.out).mono ?_
  rintro e w1 ⟨v, rfl, hrow, f1⟩
  obtain ⟨A1, c1, rfl⟩ := owns_form hrow
  have HROW := hide hrow
  have HF1 := hide (HF0.out.trans f1)
  clear hrow f1
  go_wp2_with fail
  go_loopw [10] (fun i wr => ∃ j : Nat, j ≤ L.length ∧ i = .int .i64 j ∧ wr = w1) (fun i _ => L.length - (intOf i).toNat)
  case atStart => exact ⟨0, Nat.zero_le _, rfl, rfl⟩
  case round =>
    obtain ⟨j, hj, rfl, rfl⟩ := hrel
    by_cases hlt : j < L.length
    · obtain ⟨b, rfl, hb1, e0⟩ := row_at HROW.out hlt
      have hI := Is_w (HOK.out.no HF1.out) L[j]
      have hy : (m.get L[j]).isSome = true := List.all_eq_true.1 HA.out _ (List.getElem_mem hlt)
      rw [hy] at hI
      have HI := hide hI
      generalize L[j] = u at *
      clear hI hy
      go_wp2_with fail
      refine HI.out.mono ?_
      rintro e w2 ⟨rfl, rfl⟩
      go_wp2
      go_roundw
      case rel => exact ⟨j + 1, hlt, by go_num, trivial⟩
      case measure => simp [intOf]; omega
    · obtain rfl : L.length = j := by omega
      go_wp2
      go_ret
      exact ⟨rfl, HF1.out⟩

/-- What Seal leaves. -/
def SealRes (m : Wm) (home r : Int) (v : V) (s lo : Nat) (W : World) (e : Ending) (w' : World) : Prop :=
  e = .returned (.tuple #[.int .i64 ((m.th.length : Int) + 1), .int .i64 0]) ∧ ∃ (g : Nat) (t' : T), t'.v = v ∧ (m.add g ⟨7, home, t', 0, 0, r, 0, 0, false⟩ s).Ok lo w' ∧ Fr m.B W w' ∧ ∀ i, (m.add g ⟨7, home, t', 0, 0, r, 0, 0, false⟩ s).B i → i < W.heap.size → m.B i

set_option maxRecDepth 100000 in
set_option maxHeartbeats 4000000 in
theorem Seal_ok (h : m.Ok lo W) (hlo : lo ≤ W.heap.size) (home : Nat) (hs : home < m.made.length) (h512 : m.made[home] < 512) (hlen : m.th.length < 100000) {sr : Int} {x : Nat × Th} (hg : m.get sr = some x) (hk5 : x.2.kind = 5) (hxh : x.2.home = (home : Int))
    (t : T) (hi : Nat) (ht : t.In W 0 hi) (hhi : hi ≤ W.heap.size) (hm : t.v.may = true) (hln : t.v.refs.length ≤ 140737488351232) (hare : m.are t.v.refs = true) :
    Calls Try.prog 13 #[.pointer (some ⟨m.wb, 0, none⟩), .int .i64 sr, t.val] W (SealRes m home sr t.v home lo W) := by
  have hM := fun W' (f : Fr No W W') => may_any t W' 0 hi (ht.no f hhi) (Nat.le_trans hhi f.size)
  have hR := fun W' (f : Fr No W W') => srefs_yes (h.no f) t hi (ht.no f hhi) (Nat.le_trans hhi f.size) hln hare
  have hI := fun W' (f : Fr No W W') => Is_w (h.no f) sr
  have hK := fun W' (f : Fr No W W') => Kind_w (h.no f) sr
  have hH := fun W' (f : Fr No W W') => Home_w (h.no f) hg (by rw [hk5]; decide)
  have hgi : (m.get sr).isSome = true := by rw [hg]; rfl
  have hgk : m.kind sr = 5 := by unfold Wm.kind; rw [hg, ← hk5]; rfl
  rw [hgi] at hI
  rw [hgk] at hK
  rw [hxh] at hH
  rw [hm] at hM
  obtain ⟨k, n, s, A, cap, l, r⟩ := t
  have hmk := fun W' (f : Fr No W W') => make7 (h.no f) (Nat.le_trans hlo f.size) home k n s A cap l r hs h512 hlen hi (ht.no f hhi) (Nat.le_trans hhi f.size) hm hln hare sr hg hk5 hxh
  unfold th16 at hmk
  rw [T.val_mk] at *
  generalize (T.mk k n s A cap l r).v = u at *
  have HTh := hide fun W' (f : Fr No W W') => there_w (h.no f)
  have HM := hide hM
  have HR := hide hR
  have HI := hide hI
  have HK := hide hK
  have HH := hide hH
  have HMK := hide hmk
  have hb0 := Blk.new W 37 #[.int .u8 k, .int .i64 n, .string s, .slice A l.length cap, .int .i64 r]
  have hf0 := (Fr.refl No W).alloc (.cells #[.int .u8 k, .int .i64 n, .string s, .slice A l.length cap, .int .i64 r] 37)
  obtain ⟨e0, e1, e2, e3, e4, ef⟩ := hb0.cells5
  have eq_ := hb0.lt
  have HB := hide hb0
  have HF := hide hf0
  clear hM hR hI hK hH hmk hb0 hf0 hgi hgk h ht hhi hm hln hare hg hk5 hxh
  go_enter Try.func13, Try.ntmps13
  go_wp2_with fail
  generalize World.alloc W _ = W0 at *
  refine (HTh.out W0 HF.out).mono ?_
  rintro e w' ⟨rfl, rfl⟩
  go_wp2_with fail
  refine (HM.out w' HF.out).mono ?_
  rintro e w1 ⟨rfl, ff⟩
  have hb := HB.out.fr ff fun h => h
  replace HB := hide hb
  replace HF := hide (HF.out.trans ff)
  clear e0 e1 e2 e3 e4 ef eq_ ff
  obtain ⟨e0, e1, e2, e3, e4, ef⟩ := hb.cells5
  have eq_ := hb.lt
  clear hb
  go_wp2_with fail
  refine (HI.out w1 HF.out).mono ?_
  rintro e w2 ⟨rfl, rfl⟩
  go_wp2_with fail
  refine (HR.out w2 HF.out).mono ?_
  rintro e w3 ⟨rfl, ff⟩
  have hb := HB.out.fr ff fun h => h
  replace HB := hide hb
  replace HF := hide (HF.out.trans ff)
  clear e0 e1 e2 e3 e4 ef eq_ ff
  obtain ⟨e0, e1, e2, e3, e4, ef⟩ := hb.cells5
  have eq_ := hb.lt
  clear hb
  go_wp2_with fail
  refine (HK.out w3 HF.out).mono ?_
  rintro e w4 ⟨rfl, rfl⟩
  go_wp2_with fail
  refine (HH.out w4 HF.out).mono ?_
  rintro e w5 ⟨rfl, rfl⟩
  go_wp2_with fail
  refine (HMK.out w5 HF.out).mono ?_
  rintro e w6 ⟨rfl, g, t', hv, hg, hbl, hok, fr⟩
  have hsz := HF.out.size
  have hold : ∀ i, (m.add g ⟨7, (home : Int), t', 0, 0, sr, 0, 0, false⟩ home).B i → i < W.heap.size → m.B i := fun i hi hlt => add_old (B := W.heap.size) (by omega) (fun b hb => by have := hbl b hb; omega) hi hlt
  have HOLD := hide hold
  have HOK6 := hide hok
  have HV := hide hv
  have HFR := hide (HF.out.no.trans fr)
  clear hold hok hv fr hbl hg hsz e0 e1 e2 e3 e4 ef eq_
  go_wp2_with fail
  go_ret2
  exact ⟨rfl, g, t', HV.out, HOK6.out, HFR.out, HOLD.out⟩
end

end Go.Proofs.Ytnddfiohofnbaaa

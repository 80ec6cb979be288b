/- Texts joined: P15, P18, J9, I0, J11, P19, J12. -/
import Derived.Test.YtihjmipmjogpoaaJn12
import Derived.Deep.QuietTactic
import Derived.BigQuiet
import Derived.Deep.AppendLies
import Derived.Deep.Upon
import Derived.Deep.RegionHeld3
/- Chapter 2: the law's own image: the references that some are turned into. -/
namespace Go.Proofs.Ytihjmipmjogpoaa
open Go.RowKit

theorem nm_next {fs ts : List Int} {k : Nat} {r x : Int} (h : fs[k]? = some x) (hne : x ≠ r) : nmOf (fs.drop k) (ts.drop k) r = nmOf (fs.drop (k + 1)) (ts.drop (k + 1)) r := by
  obtain ⟨hk, hx⟩ := List.getElem?_eq_some_iff.1 h
  rw [List.drop_eq_getElem_cons hk, hx]
  rcases Nat.lt_or_ge k ts.length with h2 | h2
  · rw [List.drop_eq_getElem_cons h2]
    simp only [nmOf]
    rw [if_neg hne]
  · rw [List.drop_of_length_le h2, List.drop_of_length_le (l := ts) (by omega)]
    simp only [nmOf]
    cases fs.drop (k + 1) <;> rfl

theorem nm_here {fs ts : List Int} {k : Nat} {r : Int} (h : fs[k]? = some r) (hs : (nmOf (fs.drop k) (ts.drop k) r).isSome = true) : ∃ t, ts[k]? = some t ∧ nmOf (fs.drop k) (ts.drop k) r = some t := by
  obtain ⟨hk, hx⟩ := List.getElem?_eq_some_iff.1 h
  rw [List.drop_eq_getElem_cons hk, hx] at hs ⊢
  rcases Nat.lt_or_ge k ts.length with h2 | h2
  · rw [List.drop_eq_getElem_cons h2] at hs ⊢
    refine ⟨ts[k], List.getElem?_eq_getElem h2, ?_⟩
    simp [nmOf]
  · rw [List.drop_of_length_le h2] at hs
    simp [nmOf] at hs

def ImageP (L : List Int) (w : World) (e : Ending) (w' : World) : Prop := ∃ v, e = .returned (.tuple #[v, .bool true]) ∧ w'.ownsRow w.heap.size 25 1 v L.length (refCells L) ∧ Fr No w w'

set_option maxRecDepth 100000 in
set_option maxHeartbeats 8000000 in
theorem image_any (Al Af At : Option Addr) (cl cf ct : Nat) (l fs ts : List Int) (w : World) (ll hl lf hf lt ht : Nat) (pl : Ints w ll hl Al cl l) (hhl : hl ≤ w.heap.size) (pf : Ints w lf hf Af cf fs) (hhf : hf ≤ w.heap.size) (pt : Ints w lt ht At ct ts) (hht : ht ≤ w.heap.size)
    (hall : ∀ r ∈ l, (nmOf fs ts r).isSome = true) : Calls Try.prog 74 #[.slice Al l.length cl, .slice Af fs.length cf, .slice At ts.length ct] w (ImageP (l.map fun r => (nmOf fs ts r).getD 0) w) := by
  have hll := pl.len
  have hlf := pf.len
  have hlt := pt.len
  obtain ⟨i0, hi0, hz0, hz1, hz2⟩ := info_parts ref_info
  have HALL := hide hall
  clear hall
  go_enter Try.func74, Try.ntmps74
  go_wp2_with fail
  go_loopw [8, 9, 10] (fun v i _ wr => ∃ (j : Nat) (A3 : Option Addr) (c3 : Nat), j ≤ l.length ∧ i = .int .i64 j ∧ v = .slice A3 j c3 ∧ wr.ownsRow w.heap.size 25 1 v j (refCells ((l.take j).map fun r => (nmOf fs ts r).getD 0)) ∧ Fr No w wr) (fun _ i _ _ => l.length - (intOf i).toNat)
  case atStart => exact ⟨0, none, 0, Nat.zero_le _, rfl, rfl, World.ownsRow_nil _ _ _ _, Fr.refl _ _⟩
  case round =>
    obtain ⟨j, A3, c3, hj, rfl, rfl, own, fr⟩ := hrel
    have hsz := fr.size
    by_cases hjl : j < l.length
    · obtain ⟨wo, rfl⟩ : ∃ wo : World, wo = wr := ⟨_, rfl⟩
      have htk : l.take (j + 1) = l.take j ++ [l[j]] := List.take_succ_eq_append_getElem hjl
      have hs := HALL.out _ (List.getElem_mem hjl)
      obtain ⟨bl, ol, rfl, hbl0, hbl1, hcl⟩ := (pl.no fr hhl).elem hjl
      have hrl := pl.rng _ (List.getElem_mem hjl)
      generalize l[j] = r at *
      have HTK := hide htk
      have HS := hide hs
      have HO := hide own
      have HF := hide fr
      clear htk hs own fr
      go_wp2_with fail
      go_loopw [10] (fun i wr => ∃ k : Nat, k ≤ fs.length ∧ i = .int .i64 k ∧ Fr No wo wr ∧ nmOf fs ts r = nmOf (fs.drop k) (ts.drop k) r) (fun i _ => fs.length - (intOf i).toNat)
      case atStart => exact ⟨0, Nat.zero_le _, rfl, Fr.refl _ _, rfl⟩
      case round =>
        obtain ⟨k, hk, rfl, frk, hnm⟩ := hrel
        have hkl : k < fs.length := by
          rcases Nat.lt_or_ge k fs.length with h | h
          · exact h
          · have := HS.out
            rw [hnm, List.drop_of_length_le h] at this
            simp [nmOf] at this
        have frw := HF.out.trans frk
        have hsk := frk.size
        obtain ⟨bf, of, rfl, hbf0, hbf1, hcf⟩ := (pf.no frw hhf).elem hkl
        have hcl' := (frk.cell (b := bl) (o := ol + j) (s := none) (by omega) (fun h => h)).trans hcl
        have g0 : bf < wr.heap.size := by omega
        have g1 : bl < wr.heap.size := by omega
        have hget : fs[k]? = some fs[k] := List.getElem?_eq_getElem hkl
        generalize fs[k] = x at *
        have HN := hide hnm
        have HK := hide frk
        have HW := hide frw
        have HG := hide hget
        clear hnm frk frw hget
        by_cases hxr : x = r
        · subst hxr
          have hs2 := HS.out
          rw [HN.out] at hs2
          obtain ⟨t, ht1, ht2⟩ := nm_here HG.out hs2
          obtain ⟨hkt, htt⟩ := List.getElem?_eq_some_iff.1 ht1
          obtain ⟨bt, ot, rfl, hbt0, hbt1, hct⟩ := (pt.no HW.out hht).elem hkt
          have hrt := pt.rng _ (List.getElem_mem hkt)
          rw [htt] at hct hrt
          have g2 : bt < wr.heap.size := by omega
          have hval : (nmOf fs ts x).getD 0 = t := by rw [HN.out, ht2]; rfl
          have HV := hide hval
          have h1 : ((k : Int) == (fs.length : Int)) = false := by simp; omega
          have h2 : ¬ ts.length ≤ k := by omega
          have h3 : decide (ts.length ≤ k) = false := by simpa using h2
          have own2 := owns_fr HO.out HK.out fun _ _ h => h
          clear hval ht1 ht2 htt hs2
          go_wp2_with fail
          go_quiet (fail)
          have hownA := fun n => World.ownsRow.alloc (w := wr.drewN n) own2 (.cells #[.int .i64 t] 25)
          go_wp2_with (at_builtin; refine wpList_append_lies _ (by rfl) _ _ _ (by rfl) w.heap.size 25 i0 _ 1 8 Try.underlying100 hi0 hz0 hz1 hz2 (by rfl) (by omega) (.slice A3 j c3) j (refCells ((l.take j).map fun r => (nmOf fs ts r).getD 0)) (by rfl) (hownA _) ⟨wr.heap.size, 0, none⟩ 1 1 [.int .i64 t] (by rfl) (by rfl) (World.news_of_block (Blk.new' (wr.drewN _) 25 _ rfl)) (by simp [Value.oneCell']) (by omega) (by unfold maxLen; omega) (by omega) (by simp; omega) (wr.heap.size + 1) (by simp) ?_; intro g cp w3 hown3 hgrow hat hlt3; have HO3 := hide hown3; have HG3 := hide hgrow; clear hown3 hgrow hat)
          go_roundw
          case rel =>
            refine ⟨j + 1, some ⟨g, 0, none⟩, cp, hjl, by go_num, rfl, ?_, ?_⟩
            · have h := HO3.out
              rw [HTK.out, List.map_append, refCells, List.map_append, List.map_singleton, List.map_singleton, HV.out]
              exact h
            · have hol := owns_lt own2
              exact ((HW.out.drewN _).alloc (.cells #[.int .i64 t] 25)).trans' (fr_grown HG3.out) fun i hi h => by
                have h' : some i = (Value.slice A3 j c3).ownBlock := h
                have := hol i h'.symm
                omega
          case measure => simp [intOf]; omega
        · have hne : (x != r) = true := by simpa using hxr
          go_wp2_with fail
          go_quiet (fail)
          go_wp2
          go_roundw
          case rel => exact ⟨k + 1, hkl, by go_num, HK.out.drewN _, by rw [HN.out]; exact nm_next HG.out hxr⟩
          case measure => simp [intOf]; omega
    · obtain rfl : l.length = j := by omega
      have hP : ImageP (l.map fun r => (nmOf fs ts r).getD 0) w (.returned (.tuple #[.slice A3 l.length c3, .bool true])) wr := by
        rw [List.take_of_length_le (Nat.le_refl _)] at own
        exact ⟨_, rfl, by rw [List.length_map]; exact own, fr⟩
      have HP := hide hP
      clear hP own fr pl pf pt
      go_wp2
      go_ret2
      exact HP.out

end Go.Proofs.Ytihjmipmjogpoaa

/- Chapter 2: a copy of a row of references. -/
namespace Go.Proofs.Ytihjmipmjogpoaa
open Go.RowKit

theorem refCells_one (L : List Int) : ∀ u ∈ refCells L, u.oneCell' = true := by
  intro u hu
  obtain ⟨x, _, rfl⟩ := List.mem_map.1 hu
  rfl

set_option maxRecDepth 100000 in
/-- append([]Ref(nil), from...). -/
theorem run_copy_refs {A : Option Addr} {cap : Nat} {L : List Int} (w : World) (lo hi : Nat) (h : Ints w lo hi A cap L) (hl : L.length ≤ 1000000) (ty : TypeId) :
    ∃ v w', (Builtin.append_ #[100, 100] ty #[.slice none 0 0, .slice A L.length cap]).run Try.prog w = .ok v w' ∧ w'.ownsRow w.heap.size 25 1 v L.length (refCells L) ∧ Fr No w w' := by
  obtain ⟨i0, hi0, hz0, hz1, hz2⟩ := info_parts ref_info
  by_cases h0 : L = []
  · subst h0
    refine ⟨.slice none 0 0, w, ?_, World.ownsRow_nil _ _ _ _, Fr.refl _ _⟩
    cases A with
    | none => exact run_append_nothing (P := Try.prog) w 100 100 ty 25 i0 Try.underlying100 hi0 none 0 0 (Nat.le_refl _) _ (Src.ofNil w Try.underlying100 cap)
    | some a => exact run_append_nothing (P := Try.prog) w 100 100 ty 25 i0 Try.underlying100 hi0 none 0 0 (Nat.le_refl _) _ (Src.ofSlice w Try.underlying100 a 0 cap [] (by simp) (by simp) (by simp))
  · obtain ⟨b, o, rfl, hb0, hb1, hc⟩ := h.at_ h0
    obtain ⟨g, c, w', hrun, hown, hgr, hat, hlt⟩ := run_append_lies (P := Try.prog) w 100 ty w.heap.size 25 i0 _ 1 8 Try.underlying100 hi0 hz0 hz1 hz2 rfl (by omega) (.slice none 0 0) 0 [] (World.ownsRow_nil _ _ _ _) ⟨b, o, none⟩ L.length cap (refCells L) (by simp [refCells]) (fun j u hu => by
      simp only [refCells, List.getElem?_map, Option.map_eq_some_iff] at hu
      obtain ⟨x, hx, rfl⟩ := hu
      rw [add_at]
      exact hc j x hx) (refCells_one L) (List.length_pos_iff.2 h0) (by unfold maxLen; omega) (by omega) (Nat.le_refl _) _ rfl
    refine ⟨_, w', hrun, by simpa using hown, (Fr.refl No w).trans' (fr_grown hgr) (fun i hi h => by simp [Value.ownBlock] at h)⟩

set_option maxRecDepth 100000 in
/-- .. for the walk. -/
theorem wpList_copy_refs {ops : Array Oper} {rest : List Oper} {o : Oper} {a : Act} {Q : Exit → Act → World → Prop} (w : World) (hgd : o.guard = none) (s x : Operand)
    (ho : o.op = .call { callee := .builtin .append, args := #[s, x], argTypes := #[100, 100] }) (hv : a.eval s = .slice none 0 0)
    (A : Option Addr) (cap : Nat) (L : List Int) (hx : a.eval x = .slice A L.length cap) (lo hi : Nat) (h : Ints w lo hi A cap L) (hl : L.length ≤ 1000000)
    (hK : ∀ v' w', w'.ownsRow w.heap.size 25 1 v' L.length (refCells L) → Fr No w w' → wpList Try.prog ops Q rest (a.put o.dst v') w') : wpList Try.prog ops Q (o :: rest) a w := by
  refine wpList_plain hgd fun K hK' => ?_
  obtain ⟨v', w', hrun, h1, h2⟩ := run_copy_refs w lo hi h hl o.type
  unfold Oper.wp
  simp [execOp, ho, resolve, invoke, builtin, hv, hx, hrun, Result.andThen]
  exact hK' _ _ (hK v' w' h1 h2)

/-- A row of one's own, seen up to its last. -/
theorem ints_of_front {w : World} {base g cap : Nat} {L : List Int} {y : Int} (h : w.ownsRow base 25 1 (.slice (some ⟨g, 0, none⟩) (L.length + 1) cap) (L.length + 1) (refCells L ++ [.int .i64 y])) (hl : L.length ≤ 1000000) (hr : ∀ x ∈ L, -9223372036854775808 ≤ x ∧ x ≤ 9223372036854775807) :
    Ints w base w.heap.size (some ⟨g, 0, none⟩) cap L ∧ w.cell? ⟨g, L.length, none⟩ = some (.int .i64 y) ∧ (∀ i x, L[i]? = some x → w.cell? ⟨g, i, none⟩ = some (.int .i64 x)) ∧ base ≤ g ∧ g < w.heap.size ∧ L.length + 1 ≤ cap := by
  have hlt := owns_lt h g rfl
  have hle := owns_le h
  have hrl : (refCells L).length = L.length := by simp [refCells]
  have hc : ∀ i x, L[i]? = some x → w.cell? ⟨g, i, none⟩ = some (.int .i64 x) := fun i x hx => by
    have hi := (List.getElem?_eq_some_iff.1 hx).1
    have := World.ownsRow.cells h (g := g) rfl i (.int .i64 x) (by rw [List.getElem?_append_left (by omega)]; simp [refCells, hx])
    rwa [add_at, Nat.zero_add] at this
  refine ⟨⟨by omega, by omega, fun _ => ⟨g, 0, rfl, hlt.1, hlt.2, fun i x hx => by rw [Nat.zero_add]; exact hc i x hx⟩, hr⟩, ?_, hc, hlt.1, hlt.2, hle⟩
  have := World.ownsRow.cells h (g := g) rfl L.length (.int .i64 y) (by rw [List.getElem?_append_right (by omega), hrl, Nat.sub_self]; rfl)
  rwa [add_at, Nat.zero_add] at this

end Go.Proofs.Ytihjmipmjogpoaa

/- Chapter 2: a copy of a row of numbers. -/
namespace Go.Proofs.Ytihjmipmjogpoaa
open Go.RowKit

set_option maxRecDepth 100000 in
/-- append([]int(nil), from...). -/
theorem run_copy_ints {A : Option Addr} {cap : Nat} {L : List Int} (w : World) (lo hi : Nat) (h : Ints w lo hi A cap L) (hl : L.length ≤ 1000000) (ty : TypeId) :
    ∃ v w', (Builtin.append_ #[77, 77] ty #[.slice none 0 0, .slice A L.length cap]).run Try.prog w = .ok v w' ∧ w'.ownsRow w.heap.size 3 1 v L.length (refCells L) ∧ Fr No w w' := by
  obtain ⟨i0, hi0, hz0, hz1, hz2⟩ := info_parts int_info
  by_cases h0 : L = []
  · subst h0
    refine ⟨.slice none 0 0, w, ?_, World.ownsRow_nil _ _ _ _, Fr.refl _ _⟩
    cases A with
    | none => exact run_append_nothing (P := Try.prog) w 77 77 ty 3 i0 Try.underlying77 hi0 none 0 0 (Nat.le_refl _) _ (Src.ofNil w Try.underlying77 cap)
    | some a => exact run_append_nothing (P := Try.prog) w 77 77 ty 3 i0 Try.underlying77 hi0 none 0 0 (Nat.le_refl _) _ (Src.ofSlice w Try.underlying77 a 0 cap [] (by simp) (by simp) (by simp))
  · obtain ⟨b, o, rfl, hb0, hb1, hc⟩ := h.at_ h0
    obtain ⟨g, c, w', hrun, hown, hgr, hat, hlt⟩ := run_append_lies (P := Try.prog) w 77 ty w.heap.size 3 i0 _ 1 8 Try.underlying77 hi0 hz0 hz1 hz2 rfl (by omega) (.slice none 0 0) 0 [] (World.ownsRow_nil _ _ _ _) ⟨b, o, none⟩ L.length cap (refCells L) (by simp [refCells]) (fun j u hu => by
      simp only [refCells, List.getElem?_map, Option.map_eq_some_iff] at hu
      obtain ⟨x, hx, rfl⟩ := hu
      rw [add_at]
      exact hc j x hx) (refCells_one L) (List.length_pos_iff.2 h0) (by unfold maxLen; omega) (by omega) (Nat.le_refl _) _ rfl
    refine ⟨_, w', hrun, by simpa using hown, (Fr.refl No w).trans' (fr_grown hgr) (fun i hi h => by simp [Value.ownBlock] at h)⟩

set_option maxRecDepth 100000 in
/-- .. for the walk. -/
theorem wpList_copy_ints {ops : Array Oper} {rest : List Oper} {o : Oper} {a : Act} {Q : Exit → Act → World → Prop} (w : World) (hgd : o.guard = none) (s x : Operand)
    (ho : o.op = .call { callee := .builtin .append, args := #[s, x], argTypes := #[77, 77] }) (hv : a.eval s = .slice none 0 0)
    (A : Option Addr) (cap : Nat) (L : List Int) (hx : a.eval x = .slice A L.length cap) (lo hi : Nat) (h : Ints w lo hi A cap L) (hl : L.length ≤ 1000000)
    (hK : ∀ v' w', w'.ownsRow w.heap.size 3 1 v' L.length (refCells L) → Fr No w w' → wpList Try.prog ops Q rest (a.put o.dst v') w') : wpList Try.prog ops Q (o :: rest) a w := by
  refine wpList_plain hgd fun K hK' => ?_
  obtain ⟨v', w', hrun, h1, h2⟩ := run_copy_ints w lo hi h hl o.type
  unfold Oper.wp
  simp [execOp, ho, resolve, invoke, builtin, hv, hx, hrun, Result.andThen]
  exact hK' _ _ (hK v' w' h1 h2)

/-- A row of one's own, seen up to its last. -/
theorem ints_of_front3 {w : World} {base g cap : Nat} {L : List Int} {y : Int} (h : w.ownsRow base 3 1 (.slice (some ⟨g, 0, none⟩) (L.length + 1) cap) (L.length + 1) (refCells L ++ [.int .i64 y])) (hl : L.length ≤ 1000000) (hr : ∀ x ∈ L, -9223372036854775808 ≤ x ∧ x ≤ 9223372036854775807) :
    Ints w base w.heap.size (some ⟨g, 0, none⟩) cap L ∧ w.cell? ⟨g, L.length, none⟩ = some (.int .i64 y) ∧ (∀ i x, L[i]? = some x → w.cell? ⟨g, i, none⟩ = some (.int .i64 x)) ∧ base ≤ g ∧ g < w.heap.size ∧ L.length + 1 ≤ cap := by
  have hlt := owns_lt h g rfl
  have hle := owns_le h
  have hrl : (refCells L).length = L.length := by simp [refCells]
  have hc : ∀ i x, L[i]? = some x → w.cell? ⟨g, i, none⟩ = some (.int .i64 x) := fun i x hx => by
    have hi := (List.getElem?_eq_some_iff.1 hx).1
    have := World.ownsRow.cells h (g := g) rfl i (.int .i64 x) (by rw [List.getElem?_append_left (by omega)]; simp [refCells, hx])
    rwa [add_at, Nat.zero_add] at this
  refine ⟨⟨by omega, by omega, fun _ => ⟨g, 0, rfl, hlt.1, hlt.2, fun i x hx => by rw [Nat.zero_add]; exact hc i x hx⟩, hr⟩, ?_, hc, hlt.1, hlt.2, hle⟩
  have := World.ownsRow.cells h (g := g) rfl L.length (.int .i64 y) (by rw [List.getElem?_append_right (by omega), hrl, Nat.sub_self]; rfl)
  rwa [add_at, Nat.zero_add] at this

end Go.Proofs.Ytihjmipmjogpoaa

/- A region that draws its order, by what holds whichever operations have come up: each operation is walked once. -/
namespace Go.Proofs.Ytihjmipmjogpoaa

section
variable {P : Program} {ops : Array Oper} {Q : Exit → Act → World → Prop} {md : Region.Mode}

/-- One more has come up. -/
def upd (f : Nat → Bool) (i : Nat) : Nat → Bool := fun j => j == i || f j

def unl (l : List Bool) : Nat := (l.filter fun b => !b).length

theorem unl_set : ∀ (l : List Bool) (i : Nat), l[i]? = some false → unl (l.set i true) + 1 = unl l
  | [], _, h => by simp at h
  | b :: l, 0, h => by simp at h; subst h; simp [unl]
  | b :: l, i + 1, h => by
    have := unl_set l i (by simpa using h)
    cases b <;> simp [unl] at this ⊢ <;> omega

theorem unl_zero : ∀ (l : List Bool) (i : Nat), unl l = 0 → l[i]? = some false → False
  | [], _, _, h => by simp at h
  | b :: l, 0, hz, h => by simp at h; subst h; simp [unl] at hz
  | b :: l, i + 1, hz, h => by
    refine unl_zero l i ?_ (by simpa using h)
    cases b <;> simp [unl] at hz ⊢
    exact hz

/-- Where each operation waits for earlier ones alone, and nothing may come up, all have. -/
theorem ready_all {listed : Array Bool} (hfw : (List.range ops.size).all (fun i => ((ops[i]?).map fun o => o.after.all fun e => decide (e.on < i)).getD true) = true) (h : Region.ready md ops listed = []) (hs : listed.size = ops.size) :
    ∀ i, i < ops.size → listed.getD i false = true := by
  intro i
  induction i using Nat.strongRecOn with
  | ind i ih =>
    intro hi
    cases hl : listed.getD i false with
    | true => rfl
    | false =>
      exfalso
      have hi2 : i < listed.size := by omega
      have hm : i ∈ Region.ready md ops listed := by
        rw [mem_ready]
        refine ⟨?_, ops[i], Array.getElem?_eq_getElem hi, fun e he _ => ?_⟩
        · simp only [Array.getD, hi2, dif_pos] at hl ⊢
          exact hl
        · have h1 := List.all_eq_true.1 hfw i (List.mem_range.2 hi)
          rw [Array.getElem?_eq_getElem hi] at h1
          simp only [Option.map_some, Option.getD_some, Array.all_eq_true_iff_forall_mem] at h1
          have h2 := of_decide_eq_true (h1 e he)
          exact ih e.on h2 (by omega)
      rw [h] at hm
      cases hm

theorem wpAny_inv (I : (Nat → Bool) → Act → World → Prop) (hfw : (List.range ops.size).all (fun i => ((ops[i]?).map fun o => o.after.all fun e => decide (e.on < i)).getD true) = true)
    (hstep : ∀ (i : Nat) (o : Oper) (f : Nat → Bool) (a : Act) (w : World), ops[i]? = some o → f i = false → (∀ e ∈ o.after, Region.binds md e = true → f e.on = true) → I f a w →
      ∀ K' : Act → World → Prop, Shut (∀ a w, I (upd f i) a w → K' a w) → if Region.wanted o (yielded ops a.tmps) = true then Oper.wp P o a w K' Q else K' (a.put o.dst undef) w)
    (hend : ∀ (f : Nat → Bool) (a : Act) (w : World), (∀ i, i < ops.size → f i = true) → I f a w → Q .normal a w) :
    ∀ (fuel : Nat) (listed : Array Bool) (a : Act) (w : World), listed.size = ops.size → unl listed.toList ≤ fuel → I (fun j => listed.getD j false) a w → wpAny P md ops Q fuel listed a w := by
  have hfin : ∀ (listed : Array Bool) (a : Act) (w : World), listed.size = ops.size → I (fun j => listed.getD j false) a w → Region.ready md ops listed = [] → Q .normal a w := fun listed a w hs hI hr =>
    hend _ a w (ready_all hfw hr hs) hI
  intro fuel
  induction fuel with
  | zero =>
    intro listed a w hs hu hI
    have hr : Region.ready md ops listed = [] := by
      refine List.eq_nil_iff_forall_not_mem.2 fun j hj => ?_
      obtain ⟨h1, o, ho, -⟩ := mem_ready.1 hj
      have hj2 := (Array.getElem?_eq_some_iff.1 ho).1
      refine unl_zero listed.toList j (by omega) ?_
      have hj3 : j < listed.size := by omega
      simp only [Array.getD, hj3, dif_pos] at h1
      rw [Array.getElem?_toList, Array.getElem?_eq_getElem hj3]
      exact congrArg some h1
    exact ⟨hr, hfin listed a w hs hI hr⟩
  | succ fuel ih =>
    intro listed a w hs hu hI
    refine ⟨hfin listed a w hs hI, fun i hi => ?_⟩
    obtain ⟨h1, o, ho, hd⟩ := mem_ready.1 hi
    have hi2 := (Array.getElem?_eq_some_iff.1 ho).1
    have hi3 : i < listed.size := by omega
    have hfalse : listed[i]? = some false := by
      simp only [Array.getD, hi3, dif_pos] at h1
      rw [Array.getElem?_eq_getElem hi3]
      exact congrArg some h1
    have hf : listed.getD i false = false := by
      simp only [Array.getD, hi3, dif_pos] at h1 ⊢
      exact h1
    refine wpOp_step ho fun K' hK => hstep i o _ a w ho hf (fun e he hb => hd e he hb) hI K' fun a' w' hI' => hK a' w' ?_
    refine ih (listed.setIfInBounds i true) a' w' (by simpa using hs) ?_ ?_
    · have := unl_set listed.toList i (by rw [Array.getElem?_toList]; exact hfalse)
      rw [Array.toList_setIfInBounds]
      omega
    · have he : (fun j => (listed.setIfInBounds i true).getD j false) = upd (fun j => listed.getD j false) i := by
        funext j
        simp only [upd, Array.getD_eq_getD_getElem?, Array.getElem?_setIfInBounds]
        by_cases hij : i = j
        · subst hij; simp [hi3]
        · have : ¬ j = i := fun h => hij h.symm
          simp [hij, this]
      rw [he]
      exact hI'

/-- The region. -/
theorem wp_region_inv {id : Nat} {a0 : Act} {w0 : World} (I : Act → (Nat → Bool) → Act → World → Prop) (hm : P.follows .mixedOrders = true) (hfw : (List.range ops.size).all (fun i => ((ops[i]?).map fun o => o.after.all fun e => decide (e.on < i)).getD true) = true)
    (hst : I a0 (fun _ => false) a0 w0.drew)
    (hstep : ∀ (i : Nat) (o : Oper) (f : Nat → Bool) (a : Act) (w : World), ops[i]? = some o → f i = false → (∀ e ∈ o.after, Region.binds .any e = true → f e.on = true) → I a0 f a w →
      ∀ K' : Act → World → Prop, Shut (∀ a w, I a0 (upd f i) a w → K' a w) → if Region.wanted o (yielded ops a.tmps) = true then Oper.wp P o a w K' Q else K' (a.put o.dst undef) w)
    (hend : ∀ (f : Nat → Bool) (a : Act) (w : World), (∀ i, i < ops.size → f i = true) → I a0 f a w → Q .normal a w) : (Code.region id ops true).wp P Q a0 w0 := by
  refine wp_region_any hm (wpAny_inv (I a0) hfw hstep hend _ _ _ _ (by simp) ?_ ?_)
  · have : ∀ n, unl (List.replicate n false) = n := fun n => by
      induction n with
      | zero => rfl
      | succ n ih => simp only [unl, List.replicate_succ] at ih ⊢; simp
    rw [Array.toList_replicate, this]
    exact Nat.le_refl _
  · have he : (fun j => (Array.replicate ops.size false).getD j false) = fun _ => false := by
      funext j
      simp only [Array.getD_eq_getD_getElem?, Array.getElem?_replicate]
      split <;> rfl
    rw [he]
    exact hst
end

end Go.Proofs.Ytihjmipmjogpoaa

/- Chapter 2: two values lent in one statement: where the statement stands, whichever operations have come up. -/
namespace Go.Proofs.Ytihjmipmjogpoaa
open Go.RowKit

/-- A block of five cells. -/
def Five5 (w : World) (g : Nat) : Prop := ∃ c0 c1 c2 c3 c4, Blk w g 27 #[c0, c1, c2, c3, c4]

theorem Five5.fr {S : Nat → Prop} {w w' : World} {g : Nat} (h : Five5 w g) (f : Fr S w w') (hs : ¬ S g) : Five5 w' g := by
  obtain ⟨c0, c1, c2, c3, c4, hb⟩ := h
  exact ⟨c0, c1, c2, c3, c4, hb.fr f hs⟩

/-- Lent, in a world behind w3. -/
structure LB (w3 w : World) (t : T) : Prop where
  inn : t.In w w3.heap.size w.heap.size
  mrk : t.Mk w

theorem LB.fr {S : Nat → Prop} {w3 w w' : World} {t : T} (h : LB w3 w t) (f : Fr S w w') (hs : ∀ b ∈ t.blocks, ¬ S b) : LB w3 w' t :=
  ⟨T.In.more (Nat.le_refl _) f.size _ (In.fr_blocks f (Nat.le_refl _) _ hs h.inn), T.Mk.fr f (Nat.le_refl _) _ h.inn hs h.mrk⟩

structure J2 (w3 : World) (v x : T) (f : Nat → Bool) (x7 x8 x31 x32 x33 x34 : Value) (t4 t5 : T) (g7 g8 : Nat) (w : World) : Prop where
  fr : Fr No w3 w
  l31 : f 0 = true → x31 = v.val
  l33 : f 2 = true → x33 = x.val
  c4 : f 1 = true → x32 = t4.val ∧ t4.v = v.v ∧ LB w3 w t4
  c5 : f 3 = true → x34 = t5.val ∧ t5.v = x.v ∧ LB w3 w t5
  a7 : f 4 = true → x7 = .pointer (some ⟨g7, 0, none⟩) ∧ w3.heap.size ≤ g7 ∧ Five5 w g7
  a8 : f 5 = true → x8 = .pointer (some ⟨g8, 0, none⟩) ∧ w3.heap.size ≤ g8 ∧ Five5 w g8
  s7 : f 6 = true → f 4 = true ∧ f 1 = true ∧ Blk w g7 27 t4.cells.toArray
  s8 : f 7 = true → f 5 = true ∧ f 3 = true ∧ Blk w g8 27 t5.cells.toArray
  n74 : f 4 = true → f 1 = true → g7 ∉ t4.blocks
  n75 : f 4 = true → f 3 = true → g7 ∉ t5.blocks
  n84 : f 5 = true → f 1 = true → g8 ∉ t4.blocks
  n85 : f 5 = true → f 3 = true → g8 ∉ t5.blocks
  n78 : f 4 = true → f 5 = true → g7 ≠ g8

theorem J2.begin {w3 : World} {v x : T} {x7 x8 x31 x32 x33 x34 : Value} : J2 w3 v x (fun _ => false) x7 x8 x31 x32 x33 x34 v x 0 0 w3.drew :=
  ⟨(Fr.refl No w3).drew, nofun, nofun, nofun, nofun, nofun, nofun, nofun, nofun, nofun, nofun, nofun, nofun, nofun⟩

theorem Five5.lt {w : World} {g : Nat} (h : Five5 w g) : g < w.heap.size := by
  obtain ⟨c0, c1, c2, c3, c4, hb⟩ := h
  exact hb.lt

section
variable {w3 w : World} {v x : T} {f : Nat → Bool} {x7 x8 x31 x32 x33 x34 : Value} {t4 t5 : T} {g7 g8 : Nat}

theorem J2.load31 (h : J2 w3 v x f x7 x8 x31 x32 x33 x34 t4 t5 g7 g8 w) : J2 w3 v x (upd f 0) x7 x8 v.val x32 x33 x34 t4 t5 g7 g8 w :=
  ⟨h.fr, fun _ => rfl, h.l33, h.c4, h.c5, h.a7, h.a8, h.s7, h.s8, h.n74, h.n75, h.n84, h.n85, h.n78⟩

theorem J2.load33 (h : J2 w3 v x f x7 x8 x31 x32 x33 x34 t4 t5 g7 g8 w) : J2 w3 v x (upd f 2) x7 x8 x31 x32 x.val x34 t4 t5 g7 g8 w :=
  ⟨h.fr, h.l31, fun _ => rfl, h.c4, h.c5, h.a7, h.a8, h.s7, h.s8, h.n74, h.n75, h.n84, h.n85, h.n78⟩

theorem J2.call4 (h : J2 w3 v x f x7 x8 x31 x32 x33 x34 t4 t5 g7 g8 w) (hf : f 1 = false) {t' : T} {w' : World} (hv : t'.v = v.v) (hin : t'.In w' w.heap.size w'.heap.size) (hmk : t'.Mk w') (fr : Fr No w w') :
    J2 w3 v x (upd f 1) x7 x8 x31 t'.val x33 x34 t' t5 g7 g8 w' := by
  have hs := h.fr.size
  have h6 : f 6 = true → False := fun h' => by have := (h.s7 h').2.1; rw [hf] at this; cases this
  refine ⟨h.fr.trans fr, h.l31, h.l33, fun _ => ⟨rfl, hv, T.In.more hs (Nat.le_refl _) _ hin, hmk⟩, fun h' => ⟨(h.c5 h').1, (h.c5 h').2.1, (h.c5 h').2.2.fr fr fun _ _ h => h⟩, fun h' => ⟨(h.a7 h').1, (h.a7 h').2.1, (h.a7 h').2.2.fr fr fun h => h⟩, fun h' => ⟨(h.a8 h').1, (h.a8 h').2.1, (h.a8 h').2.2.fr fr fun h => h⟩,
    fun h' => (h6 h').elim, fun h' => ⟨(h.s8 h').1, (h.s8 h').2.1, (h.s8 h').2.2.fr fr fun h => h⟩, fun h' _ hb => ?_, h.n75, fun h' _ hb => ?_, h.n85, h.n78⟩
  · have := (h.a7 h').2.2.lt
    have := T.In.blocks _ hin _ hb
    omega
  · have := (h.a8 h').2.2.lt
    have := T.In.blocks _ hin _ hb
    omega

theorem J2.call5 (h : J2 w3 v x f x7 x8 x31 x32 x33 x34 t4 t5 g7 g8 w) (hf : f 3 = false) {t' : T} {w' : World} (hv : t'.v = x.v) (hin : t'.In w' w.heap.size w'.heap.size) (hmk : t'.Mk w') (fr : Fr No w w') :
    J2 w3 v x (upd f 3) x7 x8 x31 x32 x33 t'.val t4 t' g7 g8 w' := by
  have hs := h.fr.size
  have h7 : f 7 = true → False := fun h' => by have := (h.s8 h').2.1; rw [hf] at this; cases this
  refine ⟨h.fr.trans fr, h.l31, h.l33, fun h' => ⟨(h.c4 h').1, (h.c4 h').2.1, (h.c4 h').2.2.fr fr fun _ _ h => h⟩, fun _ => ⟨rfl, hv, T.In.more hs (Nat.le_refl _) _ hin, hmk⟩, fun h' => ⟨(h.a7 h').1, (h.a7 h').2.1, (h.a7 h').2.2.fr fr fun h => h⟩, fun h' => ⟨(h.a8 h').1, (h.a8 h').2.1, (h.a8 h').2.2.fr fr fun h => h⟩,
    fun h' => ⟨(h.s7 h').1, (h.s7 h').2.1, (h.s7 h').2.2.fr fr fun h => h⟩, fun h' => (h7 h').elim, h.n74, fun h' _ hb => ?_, h.n84, fun h' _ hb => ?_, h.n78⟩
  · have := (h.a7 h').2.2.lt
    have := T.In.blocks _ hin _ hb
    omega
  · have := (h.a8 h').2.2.lt
    have := T.In.blocks _ hin _ hb
    omega

theorem J2.alloc7 (h : J2 w3 v x f x7 x8 x31 x32 x33 x34 t4 t5 g7 g8 w) (hf : f 4 = false) (c0 c1 c2 c3 c4 : Value) :
    J2 w3 v x (upd f 4) (.pointer (some ⟨w.heap.size, 0, none⟩)) x8 x31 x32 x33 x34 t4 t5 w.heap.size g8 (w.alloc (.cells #[c0, c1, c2, c3, c4] 27)) := by
  have hs := h.fr.size
  have fr := (Fr.refl No w).alloc (.cells #[c0, c1, c2, c3, c4] 27)
  have h6 : f 6 = true → False := fun h' => by have := (h.s7 h').1; rw [hf] at this; cases this
  refine ⟨h.fr.trans fr, h.l31, h.l33, fun h' => ⟨(h.c4 h').1, (h.c4 h').2.1, (h.c4 h').2.2.fr fr fun _ _ h => h⟩, fun h' => ⟨(h.c5 h').1, (h.c5 h').2.1, (h.c5 h').2.2.fr fr fun _ _ h => h⟩, fun _ => ⟨rfl, hs, _, _, _, _, _, Blk.new w 27 _⟩, fun h' => ⟨(h.a8 h').1, (h.a8 h').2.1, (h.a8 h').2.2.fr fr fun h => h⟩,
    fun h' => (h6 h').elim, fun h' => ⟨(h.s8 h').1, (h.s8 h').2.1, (h.s8 h').2.2.fr fr fun h => h⟩, fun _ h' hb => ?_, fun _ h' hb => ?_, h.n84, h.n85, fun _ h' e => ?_⟩
  · have := T.In.blocks _ (h.c4 h').2.2.inn _ hb; omega
  · have := T.In.blocks _ (h.c5 h').2.2.inn _ hb; omega
  · have := (h.a8 h').2.2.lt; omega

theorem J2.alloc8 (h : J2 w3 v x f x7 x8 x31 x32 x33 x34 t4 t5 g7 g8 w) (hf : f 5 = false) (c0 c1 c2 c3 c4 : Value) :
    J2 w3 v x (upd f 5) x7 (.pointer (some ⟨w.heap.size, 0, none⟩)) x31 x32 x33 x34 t4 t5 g7 w.heap.size (w.alloc (.cells #[c0, c1, c2, c3, c4] 27)) := by
  have hs := h.fr.size
  have fr := (Fr.refl No w).alloc (.cells #[c0, c1, c2, c3, c4] 27)
  have h7 : f 7 = true → False := fun h' => by have := (h.s8 h').1; rw [hf] at this; cases this
  refine ⟨h.fr.trans fr, h.l31, h.l33, fun h' => ⟨(h.c4 h').1, (h.c4 h').2.1, (h.c4 h').2.2.fr fr fun _ _ h => h⟩, fun h' => ⟨(h.c5 h').1, (h.c5 h').2.1, (h.c5 h').2.2.fr fr fun _ _ h => h⟩, fun h' => ⟨(h.a7 h').1, (h.a7 h').2.1, (h.a7 h').2.2.fr fr fun h => h⟩, fun _ => ⟨rfl, hs, _, _, _, _, _, Blk.new w 27 _⟩,
    fun h' => ⟨(h.s7 h').1, (h.s7 h').2.1, (h.s7 h').2.2.fr fr fun h => h⟩, fun h' => (h7 h').elim, h.n74, h.n75, fun _ h' hb => ?_, fun _ h' hb => ?_, fun h' _ e => ?_⟩
  · have := T.In.blocks _ (h.c4 h').2.2.inn _ hb; omega
  · have := T.In.blocks _ (h.c5 h').2.2.inn _ hb; omega
  · have := (h.a7 h').2.2.lt; omega

theorem J2.store7 {k n : Int} {s : ByteArray} {A : Option Addr} {cap : Nat} {l : List T} {r : Int} (h : J2 w3 v x f x7 x8 x31 x32 x33 x34 (T.mk k n s A cap l r) t5 g7 g8 w) (h4 : f 4 = true) (h1 : f 1 = true) :
    J2 w3 v x (upd f 6) x7 x8 x31 x32 x33 x34 (T.mk k n s A cap l r) t5 g7 g8 (five w g7 0 k n s A l.length cap r) := by
  have fr := five_fr w g7 0 k n s A l.length cap r
  obtain ⟨e7, h37, c0, c1, c2, c3, c4, hb⟩ := h.a7 h4
  have hb' := (sets5v w g7 27 c0 c1 c2 c3 c4 (.int .u8 k) (.int .i64 n) (.string s) (.slice A l.length cap) (.int .i64 r) hb).1
  have hne : ∀ {t : T}, g7 ∉ t.blocks → ∀ b ∈ t.blocks, ¬ b = g7 := fun h b hb e => h (e ▸ hb)
  refine ⟨h.fr.trans' fr fun i hi e => by have e' : i = g7 := e; omega, h.l31, h.l33, fun h' => ⟨(h.c4 h').1, (h.c4 h').2.1, (h.c4 h').2.2.fr fr (hne (h.n74 h4 h'))⟩, fun h' => ⟨(h.c5 h').1, (h.c5 h').2.1, (h.c5 h').2.2.fr fr (hne (h.n75 h4 h'))⟩,
    fun _ => ⟨e7, h37, _, _, _, _, _, hb'⟩, fun h' => ⟨(h.a8 h').1, (h.a8 h').2.1, (h.a8 h').2.2.fr fr fun e => h.n78 h4 h' e.symm⟩, fun _ => ⟨h4, h1, hb'⟩,
    fun h' => ⟨(h.s8 h').1, (h.s8 h').2.1, (h.s8 h').2.2.fr fr fun e => h.n78 h4 (h.s8 h').1 e.symm⟩, h.n74, h.n75, h.n84, h.n85, h.n78⟩

theorem J2.store8 {k n : Int} {s : ByteArray} {A : Option Addr} {cap : Nat} {l : List T} {r : Int} (h : J2 w3 v x f x7 x8 x31 x32 x33 x34 t4 (T.mk k n s A cap l r) g7 g8 w) (h5 : f 5 = true) (h3 : f 3 = true) :
    J2 w3 v x (upd f 7) x7 x8 x31 x32 x33 x34 t4 (T.mk k n s A cap l r) g7 g8 (five w g8 0 k n s A l.length cap r) := by
  have fr := five_fr w g8 0 k n s A l.length cap r
  obtain ⟨e8, h38, c0, c1, c2, c3, c4, hb⟩ := h.a8 h5
  have hb' := (sets5v w g8 27 c0 c1 c2 c3 c4 (.int .u8 k) (.int .i64 n) (.string s) (.slice A l.length cap) (.int .i64 r) hb).1
  have hne : ∀ {t : T}, g8 ∉ t.blocks → ∀ b ∈ t.blocks, ¬ b = g8 := fun h b hb e => h (e ▸ hb)
  refine ⟨h.fr.trans' fr fun i hi e => by have e' : i = g8 := e; omega, h.l31, h.l33, fun h' => ⟨(h.c4 h').1, (h.c4 h').2.1, (h.c4 h').2.2.fr fr (hne (h.n84 h5 h'))⟩, fun h' => ⟨(h.c5 h').1, (h.c5 h').2.1, (h.c5 h').2.2.fr fr (hne (h.n85 h5 h'))⟩,
    fun h' => ⟨(h.a7 h').1, (h.a7 h').2.1, (h.a7 h').2.2.fr fr (h.n78 h' h5)⟩, fun _ => ⟨e8, h38, _, _, _, _, _, hb'⟩,
    fun h' => ⟨(h.s7 h').1, (h.s7 h').2.1, (h.s7 h').2.2.fr fr (h.n78 (h.s7 h').1 h5)⟩, fun _ => ⟨h5, h3, hb'⟩, h.n74, h.n75, h.n84, h.n85, h.n78⟩
end

end Go.Proofs.Ytihjmipmjogpoaa

/- Chapter 2: what Rename answers may be. -/
namespace Go.Proofs.Ytihjmipmjogpoaa
open Go.RowKit

theorem vzero_may : V.zero.may = true := by simp [V.zero, V.may, V.fits, V.ok_mk, V.size_mk, V.dep_mk, fok, toL0]

theorem renV_may (v : V) (fs ts : List Int) : (renV v fs ts).1.may = true := by
  rcases renV_err v fs ts with h | h | h
  · obtain ⟨h1, _, _, h4, h5, h6⟩ := renV_ok h
    rw [h6]
    exact ren_may h1 (nm_pos h4 h5)
  all_goals
    unfold renV at h ⊢
    split at h
    · split at h
      · cases h
      · rename_i h1 h2
        rw [if_pos h1, if_neg h2]
        exact vzero_may
    · rename_i h1
      rw [if_neg h1]
      exact vzero_may

end Go.Proofs.Ytihjmipmjogpoaa

/- Chapter 2: a region that calls and lays the answer in a box; what At and With answer may be. -/
namespace Go.Proofs.Ytihjmipmjogpoaa
open Go.RowKit

/-- What a region leaves that lays an answer into a fresh box. -/
structure Rc (wa wx : World) (x : V) (g : Nat) (tt : T) : Prop where
  b : Blk wx g 27 tt.cells.toArray
  v : tt.v = x
  sh : tt.Sh wx wa.heap.size wx.heap.size
  g0 : wa.heap.size ≤ g
  gn : g ∉ tt.blocks
  f : Fr No wa wx

def RcP (wa : World) (x : V) (e : Int) (p q : Value) (wx : World) : Prop :=
  ∃ g tt, p = .pointer (some ⟨g, 0, none⟩) ∧ q = .int .i64 e ∧ Rc wa wx x g tt

theorem rc_new {w8 w9 : World} {k n : Int} {s : ByteArray} {A : Option Addr} {c : Nat} {l : List T} {r : Int} {x : V} {er : Int} (f9 : Fr No w8.drew w9) (hv : (T.mk k n s A c l r).v = x) (sh : (T.mk k n s A c l r).Sh w9 w8.drew.heap.size w9.heap.size) :
    RcP w8 x er (.pointer (some ⟨w9.heap.size, 0, none⟩)) (.int .i64 er) (w9.alloc (.cells #[.int .u8 k, .int .i64 n, .string s, .slice A l.length c, .int .i64 r] 27)) := by
  have f9' : Fr No w8 w9 := (Fr.refl No w8).drew.trans f9
  refine ⟨_, T.mk k n s A c l r, rfl, rfl, Blk.new w9 27 _, hv, (sh.no ((Fr.refl No w9).alloc _)).more (Nat.le_refl _) (by simp), f9'.size, fun h => ?_, f9'.alloc _⟩
  have := T.In.blocks _ sh.inn _ h
  omega

theorem rc_old {w8 w9 : World} {k n : Int} {s : ByteArray} {A : Option Addr} {c : Nat} {l : List T} {r : Int} {x : V} {er : Int} (f9 : Fr No (w8.alloc (.cells #[.int .u8 0, .int .i64 0, .string ⟨#[]⟩, .slice none 0 0, .int .i64 0] 27)).drew w9) (hv : (T.mk k n s A c l r).v = x) (sh : (T.mk k n s A c l r).Sh w9 (w8.alloc (.cells #[.int .u8 0, .int .i64 0, .string ⟨#[]⟩, .slice none 0 0, .int .i64 0] 27)).drew.heap.size w9.heap.size) :
    RcP w8 x er (.pointer (some ⟨w8.heap.size, 0, none⟩)) (.int .i64 er) (((((w9.setCell ⟨w8.heap.size, 0, none⟩ (.int .u8 k)).setCell ⟨w8.heap.size, 1, none⟩ (.int .i64 n)).setCell ⟨w8.heap.size, 2, none⟩ (.string s)).setCell ⟨w8.heap.size, 3, none⟩ (.slice A l.length c)).setCell ⟨w8.heap.size, 4, none⟩ (.int .i64 r)) := by
  have bz9 : Blk w9 w8.heap.size 27 #[.int .u8 0, .int .i64 0, .string ⟨#[]⟩, .slice none 0 0, .int .i64 0] := Blk.fr (a := (w8.alloc (.cells #[.int .u8 0, .int .i64 0, .string ⟨#[]⟩, .slice none 0 0, .int .i64 0] 27)).drew) (Blk.new w8 27 #[.int .u8 0, .int .i64 0, .string ⟨#[]⟩, .slice none 0 0, .int .i64 0]) f9 fun h => h
  have f9' : Fr No w8 w9 := ((Fr.refl No w8).alloc (.cells #[.int .u8 0, .int .i64 0, .string ⟨#[]⟩, .slice none 0 0, .int .i64 0] 27)).drew.trans f9
  have hb := ((((bz9.set_ 0 (.int .u8 k)).set_ 1 (.int .i64 n)).set_ 2 (.string s)).set_ 3 (.slice A l.length c)).set_ 4 (.int .i64 r)
  have hn : w8.heap.size ∉ (T.mk k n s A c l r).blocks := fun h => by
    have := T.In.blocks _ sh.inn _ h
    simp at this
    omega
  have hst : Fr (fun i => i = w8.heap.size) w9 (((((w9.setCell ⟨w8.heap.size, 0, none⟩ (.int .u8 k)).setCell ⟨w8.heap.size, 1, none⟩ (.int .i64 n)).setCell ⟨w8.heap.size, 2, none⟩ (.string s)).setCell ⟨w8.heap.size, 3, none⟩ (.slice A l.length c)).setCell ⟨w8.heap.size, 4, none⟩ (.int .i64 r)) :=
    (Fr.refl (fun i => i = w8.heap.size) w9).five (g := w8.heap.size) (fun _ => rfl) 0 _ _ _ _ _
  exact ⟨_, T.mk k n s A c l r, rfl, rfl, hb, hv, (sh.fr hst (fun b hb h => hn (h ▸ hb))).more (by simp) hst.size, Nat.le_refl _, hn, f9'.trans' hst fun i hi h => by omega⟩

/-- What a region leaves that lays an answer into an old box. -/
structure Rd (wa wx : World) (x : V) (g : Nat) (tt : T) : Prop where
  b : Blk wx g 27 tt.cells.toArray
  v : tt.v = x
  sh : tt.Sh wx wa.heap.size wx.heap.size
  f : Fr (fun i => i = g) wa wx

theorem rd_old {wa w9 : World} {g : Nat} {c0 c1 c2 c3 c4 : Value} {k n : Int} {s : ByteArray} {A : Option Addr} {c : Nat} {l : List T} {r : Int} {x : V} (hb : Blk wa g 27 #[c0, c1, c2, c3, c4]) (f9 : Fr No wa.drew w9) (hv : (T.mk k n s A c l r).v = x) (sh : (T.mk k n s A c l r).Sh w9 wa.drew.heap.size w9.heap.size) :
    Rd wa (five w9 g 0 k n s A l.length c r) x g (T.mk k n s A c l r) := by
  have f9' : Fr No wa w9 := (Fr.refl No wa).drew.trans f9
  have hst := five_fr w9 g 0 k n s A l.length c r
  have hg := hb.lt
  refine ⟨(sets5v w9 g 27 c0 c1 c2 c3 c4 _ _ _ _ _ (hb.fr f9' fun h => h)).1, hv, ((sh.fr hst fun b hb h => ?_)).more (Nat.le_refl _) hst.size, (f9'.no (S := fun i => i = g)).trans hst⟩
  have h' : b = g := h
  have := T.In.blocks _ sh.inn _ hb
  simp at this
  omega

theorem at_may (p : List Int) : ∀ v y, vAt p v = some y → v.may = true → y.may = true := by
  induction p with
  | nil => intro v y h hm; simp [vAt] at h; subst h; exact hm
  | cons i p ih =>
    intro v y h hm
    rw [vAt_cons] at h
    split at h
    · cases h
    · obtain ⟨x, hx, h2⟩ := Option.bind_eq_some_iff.1 h
      refine ih x y h2 ?_
      obtain ⟨k, n, s, l, r⟩ := v
      have hmem : x ∈ l := List.mem_of_getElem? hx
      simp only [V.may, V.fits, Bool.and_eq_true, decide_eq_true_eq, V.ok_mk, V.size_mk, V.dep_mk] at hm ⊢
      obtain ⟨⟨⟨h0, h1⟩, h3⟩, h4⟩ := hm
      have hok := List.all_eq_true.1 h1 x hmem
      have hsz : x.size ≤ (l.map V.size).sum := by
        clear h0 h1 h3 h4 hx h
        induction l with
        | nil => cases hmem
        | cons z l ih2 =>
          simp only [List.map_cons, List.sum_cons]
          rcases List.mem_cons.1 hmem with rfl | hm
          · omega
          · have := ih2 hm; omega
      have hk : k = 3 := by
        apply Classical.byContradiction
        intro hk
        have := fok_len hk h0
        rw [List.eq_nil_of_length_eq_zero this] at hmem
        cases hmem
      subst hk
      have hd : x.dep ≤ top (l.map V.dep) := le_top (List.mem_map_of_mem hmem)
      simp at h4
      exact ⟨⟨hok, by omega⟩, by omega⟩

theorem atOf_may (v : V) (p : List Int) : (atOf v p).1.may = true := by
  unfold atOf
  split
  · rename_i h
    cases hy : vAt p v with
    | none => exact vzero_may
    | some y => exact at_may p v y hy h
  · exact vzero_may

theorem withOf_may (v x : V) (p : List Int) : (withOf v x p).1.may = true := by
  unfold withOf
  split
  · split
    · split
      · assumption
      · exact vzero_may
    · exact vzero_may
  · exact vzero_may

end Go.Proofs.Ytihjmipmjogpoaa

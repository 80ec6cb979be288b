/- Texts joined: Of1, D6, Of2, Fm2, Fm3, Ap2, Of3. -/
import Derived.Test.YtlejelbefmkakaaGreatJn1
import Derived.Test.YtlejelbefmkakaaGreatJn18
import Derived.Test.YtlejelbefmkakaaGreatJn34
import Derived.Test.YtlejelbefmkakaaGreatJn35
import Derived.Deep.RegionHeld3
import Derived.Shelf.SlSortCmp.Whole1
import Derived.Deep.Quiet
import Derived.BigQuiet
import Derived.TacticsIn
import Derived.RangeFuncCalls
import Derived.RangeFuncNested
import Derived.OrdersIn
import Derived.Sort.OwnSortedInts
import Derived.Deep.AppendLies
import Derived.RangeFuncBound
import Derived.OwnWalkIn
import Derived.TacticsInMore
import Derived.LoopNIn
import Derived.LoopIn
namespace Go.Proofs.YtlejelbefmkakaaGreat
open Go.RowKit
noncomputable def Gm.ablN (m : Gm) (r : Int) : Nat := if (m.get r).isSome then m.abl r else 0
def cmpN (a b : Nat) : Int := if a < b then -1 else if b < a then 1 else 0
theorem Gm.ablN_of {m : Gm} {r : Int} {a : Nat} (h : m.Abl r a) : m.ablN r = a := by
 obtain ⟨x, hx⟩ := h.is
 unfold Gm.ablN
 rw [hx, Gm.abl_eq h]
 rfl
theorem AbleD_any {m : Gm} {lo : Nat} {W : World} (h : m.Ok lo W) (hall : ∀ r x, m.get r = some x → ∃ a, m.Abl r a) (r : Int) : Calls Tryz.prog 79 #[.pointer (some ⟨m.wb, 0, none⟩), .int .i64 r] W fun e w' => e = .returned (.int .u8 (m.ablN r : Int)) ∧ Fdr W w' := by
 cases hg : m.get r with
 | none =>
  have e : m.ablN r = 0 := by unfold Gm.ablN; rw [hg]; rfl
  rw [e]
  refine (AbleD_no h hg).mono ?_
  rintro e w' ⟨rfl, rfl⟩
  exact ⟨rfl, Fdr.refl _⟩
 | some x =>
  obtain ⟨a, ha⟩ := hall r x hg
  rw [Gm.ablN_of ha]
  exact AbleD_w h ha
theorem isNaN_w (a : Int) (W : World) : Calls Tryz.prog 197 #[.int .u8 a] W fun e w' => e = .returned (.bool false) ∧ w' = W := by
 have e : (a != a) = false := by simp
 go_enter Tryz.func197, Tryz.ntmps197
 go_wp2
 go_ret
 exact ⟨rfl, rfl⟩
theorem cmpAble_w (a b : Nat) (W : World) : Calls Tryz.prog 145 #[.int .u8 (a : Int), .int .u8 (b : Int)] W fun e w' => e = .returned (.int .i64 (cmpN a b)) ∧ w' = W := by
 have hA := fun W' => isNaN_w (a : Int) W'
 have hB := fun W' => isNaN_w (b : Int) W'
 unfold cmpN
 by_cases h1 : a < b
 · rw [if_pos h1]
   go_enter Tryz.func145, Tryz.ntmps145
   go_wp2_with fail
   refine (hA _).mono ?_
   rintro e w' ⟨rfl, rfl⟩
   go_wp2_with fail
   refine (hB _).mono ?_
   rintro e w' ⟨rfl, rfl⟩
   go_wp2
   go_ret
   exact ⟨rfl, rfl⟩
 · rw [if_neg h1]
   by_cases h2 : b < a
   · rw [if_pos h2]
     go_enter Tryz.func145, Tryz.ntmps145
     go_wp2_with fail
     refine (hA _).mono ?_
     rintro e w' ⟨rfl, rfl⟩
     go_wp2_with fail
     refine (hB _).mono ?_
     rintro e w' ⟨rfl, rfl⟩
     go_wp2
     go_ret
     exact ⟨rfl, rfl⟩
   · rw [if_neg h2]
     go_enter Tryz.func145, Tryz.ntmps145
     go_wp2_with fail
     refine (hA _).mono ?_
     rintro e w' ⟨rfl, rfl⟩
     go_wp2_with fail
     refine (hB _).mono ?_
     rintro e w' ⟨rfl, rfl⟩
     go_wp2
     go_ret
     exact ⟨rfl, rfl⟩
set_option maxRecDepth 100000 in
set_option maxHeartbeats 4000000 in
theorem Of1_w {m : Gm} {lo : Nat} {W : World} (h : m.Ok lo W) (hall : ∀ r x, m.get r = some x → ∃ a, m.Abl r a) {b : Nat} (hb : Blk W b 31 #[.pointer (some ⟨m.wb, 0, none⟩)]) (x y : Int) :
 Calls Tryz.prog 144 #[.int .i64 x, .int .i64 y, .pointer (some ⟨b, 0, none⟩)] W fun e w' => e = .returned (.int .i64 (cmpN (m.ablN x) (m.ablN y))) ∧ Fdr W w' := by
 have HA := hide fun W' (f : Fdr W W') (r : Int) => AbleD_any (h.no f.fr) hall r
 have HC := hide fun (a b : Nat) W' => cmpAble_w a b W'
 have c0 : W.cell? ⟨b, 0, none⟩ = some (.pointer (some ⟨m.wb, 0, none⟩)) := hb.cell 0
 have q0 := hb.lt
 have HB := hide fun (w' : World) (f : Fdr W w') => (show w'.cell? ⟨b, 0, none⟩ = some (.pointer (some ⟨m.wb, 0, none⟩)) ∧ b < w'.heap.size from ⟨(hb.fr f.fr fun h => h).cell 0, Nat.lt_of_lt_of_le hb.lt f.fr.size⟩)
 clear h hall hb
 go_enter Tryz.func144, Tryz.ntmps144
 go_wp2_with fail
 go_region_held3 (fun w' => (w'.cell? ⟨b, 0, none⟩ = some (.pointer (some ⟨m.wb, 0, none⟩)) ∧ b < w'.heap.size) ∧ Fdr W w')
  (first | exact ⟨⟨c0, q0⟩, (Fdr.refl W).drew⟩ | (have hq : Fdr W _ := (‹_ ∧ Fdr W _›).2.trans ‹Fdr _ _›; exact ⟨HB.out _ hq, hq⟩) | assumption)
  (first
   | (go_at_call 79; have hs0 := (‹_ ∧ Fdr W _›).2; ((with_reducible refine (HA.out _ hs0 _).mono ?_); rintro e w2 ⟨rfl, fr1⟩))
   | (go_at_call 145; ((with_reducible refine (HC.out _ _ _).mono ?_); rintro e w3 ⟨rfl, rfl⟩)))
 all_goals
  go_wp2
  go_ret
  exact ⟨rfl, (‹_ ∧ Fdr W _›).2⟩
theorem Root_f {m : Gm} {lo n : Nat} {W : World} (h : FW m lo n W) {r : Int} {x : Nat × Tg} (hg : m.get r = some x) : Calls Tryz.prog 71 #[.pointer (some ⟨m.wb, 0, none⟩), .int .i64 r] W fun e w' => e = .returned (.tuple #[.int .i64 (m.root r), .int .i64 0]) ∧ Fr No W w' := by
 have hf := (Fr.refl No W).alloc (.cells #[.int .i64 r] 22)
 have b1 := Blk.new W 22 #[.int .i64 r]
 have hth := fthere1_g (h.ok.no hf) (b1.cell 0) b1.lt
 have e0 : m.isE r = 0 := by unfold Gm.isE; rw [hg]; rfl
 rw [e0] at hth
 have HTH := hide hth
 have HR := hide fun w' (f : Fr No W w') => root_g (h.ok.no f) h.what hg
 have HF0 := hide hf
 clear hf b1 hth e0 h hg
 generalize m.root r = t at *
 go_enter Tryz.func71, Tryz.ntmps71
 go_wp2_with fail
 generalize World.alloc W _ = W0 at *
 refine HTH.out.mono ?_
 rintro e w1 ⟨rfl, rfl⟩
 go_wp2_with fail
 refine (HR.out w1 HF0.out).mono ?_
 rintro e w2 ⟨rfl, f2⟩
 have HF2 := hide (HF0.out.trans f2)
 clear f2
 go_wp2
 go_ret2
 exact ⟨rfl, HF2.out⟩
end Go.Proofs.YtlejelbefmkakaaGreat

namespace Go.Proofs.YtlejelbefmkakaaGreat
open Go.RowKit
section
variable {P : Program} {ops : Array Oper} {Q : Exit → Act → World → Prop} {n : Nat} {C : World → Prop}
theorem upon_round {o : Oper} {a : Act} {K : Act → World → Prop} {r : Result Next} (l : Nat) (h : o.upon P a K Q r) : o.uponIn (Fence.wide.inRound l) n P a K Q r := by
 have hd : ∀ p : Prop, ((Fence.wide.inRound l).depth.isSome = true → p) := fun p h => by simp [Fence.wide] at h
 cases r with
 | ok x w' =>
  cases x with
  | value v => exact h
  | skip => exact h
  | defer d => exact h
  | enter f args => exact ⟨hd _, CallsIn.inRound l (callsIn_wide.2 h)⟩
  | row row args => exact ⟨hd _, fun c cs _ => let ⟨v, w', r, s⟩ := h c cs; ⟨v, w', r, stepsIn_wide.2 s⟩⟩
  | _ => exact h.elim
 | halt x w' =>
  cases x with
  | panic v => exact h
  | _ => exact h.elim
theorem wpIn_round_of_wp {o : Oper} {a : Act} {w : World} {K : Act → World → Prop} (l : Nat) (hnd : ∀ c, o.op ≠ .defer c) (h : o.wp P a w K Q) : o.wpIn (Fence.wide.inRound l) n P a w K Q := by
 refine ⟨fun _ _ => trivial, ?_⟩
 rw [Fence.inRound_round, Oper.semAt_some l _ _ hnd]
 exact upon_round l h
def noDefer (ops : Array Oper) : Bool := ops.all fun o => match o.op with | .defer _ => false | _ => true
theorem noDefer_spec (h : noDefer ops = true) {i : Nat} {o : Oper} (ho : ops[i]? = some o) : ∀ c, o.op ≠ .defer c := by
 intro c hc
 obtain ⟨hi, rfl⟩ := Array.getElem?_eq_some_iff.1 ho
 have h' := Array.all_eq_true.1 h i hi
 rw [hc] at h'
 cases h'
theorem wpOpIn_round {i : Nat} {a : Act} {K : Act → Prop} {K' : Act → World → Prop} {w : World} (l : Nat) (hnd : noDefer ops = true) (hC : C w) (h : ∀ a w', C w' → K a → K' a w') (hh : qOp P ops C i K a) : wpOpIn (Fence.wide.inRound l) n P ops Q i K' a w := by
 unfold qOp at hh
 unfold wpOpIn
 split
 · rename_i ho; simp only [ho] at hh; exact h _ _ hC hh
 · rename_i o ho
   simp only [ho] at hh
   split
   · rename_i hw; simp only [hw, if_true] at hh; exact wpIn_round_of_wp l (noDefer_spec hnd ho) (Oper.wp_of_quiet hC h hh)
   · rename_i hw; simp only [hw] at hh; exact ⟨fun _ _ => trivial, h _ _ hC hh⟩
theorem wpAnyIn_round {K : Act → Prop} (l : Nat) (hnd : noDefer ops = true) (hQ : ∀ a w, C w → K a → Q .normal a w) : ∀ (fuel : Nat) (listed : Array Bool) (a : Act) (w : World), C w →
 wpAnyQ P .any ops C K fuel listed a → wpAnyIn (Fence.wide.inRound l) n P .any ops Q fuel listed a w
 | 0, _, _, _, hw, h => ⟨h.1, hQ _ _ hw h.2⟩
 | fuel + 1, _, _, _, hw, h => ⟨fun h0 => hQ _ _ hw (h.1 h0), fun i hi => wpOpIn_round l hnd hw (fun a' w' hw' => wpAnyIn_round l hnd hQ fuel _ a' w' hw') (h.2 i hi)⟩
theorem wpIn_region_quiet_round {id : Nat} {a : Act} {w : World} {ol : List Oper} (C : World → Prop) {l : Nat} (hm : P.follows .mixedOrders = true) (hB : Region.lexB .any ol.toArray = true) (hnd : noDefer ol.toArray = true) (hC : C w.drew)
 (h : wpQuiet P ol.toArray C (fun a' => ∀ w', C w' → Q .normal a' w') ol a) : (Code.region id ol.toArray true).wpIn (Fence.wide.inRound l) n P Q a w := by
 simp only [Region.lexB, Bool.and_eq_true] at hB
 refine wpIn_region_any hm (wpAnyIn_round (C := C) (K := fun a' => ∀ w', C w' → Q .normal a' w') l hnd (fun _ w' hw' h => h w' hw') _ _ _ _ hC ?_)
 have := wpAnyQ_lex (C := C) (md := .any) hB.1 ol.toArray.toList 0 (Array.replicate ol.toArray.size false) a (by simp) (by simpa using hB.2) (by simpa using h)
 simpa using this
end
end Go.Proofs.YtlejelbefmkakaaGreat

namespace Go.Proofs.YtlejelbefmkakaaGreat
open Go.RowKit Go.Sort
attribute [local go_sem] Oper.semAt_some
def SortFn : Prop := ∀ (cf : Int → Int → Int), SWO (Go.Proofs.ltOf cf) → ∀ (g : Nat) (cb : Array Value) (blk cap : Nat) (d : Array Int) (w : World), (∀ args w, (callFunc g args).run Tryz.prog w = .ok (.enter g args) w) → Go.Proofs.CmpLays1 Tryz.prog g cb (Value.int .i64) cf blk 0 d.size w →
 Holds (Value.int .i64) w blk 0 d → blk < w.heap.size → d.size < 4611686018427387904 →
 Calls Tryz.prog 143 #[.slice (some ⟨blk, 0, none⟩) d.size cap, .func (.func g) #[] cb] w fun e w' => e = .returned (.tuple #[]) ∧ ∃ d' n os, PermIn 0 d.size d d' ∧ SortedIn (Go.Proofs.ltOf cf) 0 d.size d' ∧ w' = grow (putRow (Value.int .i64) (Sort.ahead w n) blk 0 d') os
def Gm.fsel (m : Gm) (t : Int) (l : List (Int × Int)) : List Int := (l.filter fun x => x.2 == 14 && m.root x.1 == t).map Prod.fst
theorem Gm.fsel_snoc (m : Gm) (t : Int) (l : List (Int × Int)) (x : Int × Int) : m.fsel t (l ++ [x]) = m.fsel t l ++ if x.2 = 14 ∧ m.root x.1 = t then [x.1] else [] := by
 unfold Gm.fsel
 rw [List.filter_append, List.map_append]
 congr 1
 by_cases h : x.2 = 14 ∧ m.root x.1 = t
 · simp [h]
 · rw [if_neg h]
   have : (x.2 == 14 && m.root x.1 == t) = false := by
    rw [Bool.eq_false_iff]
    intro h'
    simp only [Bool.and_eq_true, beq_iff_eq] at h'
    exact h h'
   simp [this]
structure FcI (m : Gm) (t : Int) (w0 : World) (gl : Nat) (pre : List (Int × Int)) (M : Nat → Prop) (W : World) : Prop where
 fr : Fr (fun i => i = gl) w0 W
 row : ∃ A c, Blk W gl 54 #[.slice A (m.fsel t pre).length c] ∧ W.ownsRow w0.heap.size 22 1 (.slice A (m.fsel t pre).length c) (m.fsel t pre).length (refRow (m.fsel t pre)) ∧ ∀ i, M i ↔ (i = gl ∨ (Value.slice A (m.fsel t pre).length c).ownBlock = some i)
section
variable {m : Gm} {t : Int} {w0 W W' : World} {gl : Nat} {pre : List (Int × Int)} {M : Nat → Prop} {S : Nat → Prop}
theorem FcI.stay (hg : gl < w0.heap.size) (h : FcI m t w0 gl pre M W) (f : Fr S W W') (hs : ∀ i, i < W.heap.size → S i → w0.heap.size ≤ i ∧ ¬ M i) : FcI m t w0 gl pre M W' := by
 obtain ⟨A, c, hb, ho, hM⟩ := h.row
 have hsz := h.fr.size
 exact ⟨h.fr.trans' f fun i hi hS => by have := (hs i (by omega) hS).1; omega, A, c, hb.fr f fun hS => by have := (hs gl (by omega) hS).1; omega, owns_fr ho f fun q hq hS => (hs q (owns_lt ho q hq).2 hS).2 ((hM q).2 (.inr hq)), hM⟩
theorem FcI.lt (hg : gl < w0.heap.size) (h : FcI m t w0 gl pre M W) : ∀ i, M i → i < W.heap.size := by
 obtain ⟨A, c, hb, ho, hM⟩ := h.row
 have hsz := h.fr.size
 intro i hi
 rcases (hM i).1 hi with rfl | h'
 · omega
 · exact (owns_lt ho i h').2
theorem FcI.skip (h : FcI m t w0 gl pre M W) {x : Int × Int} (hx : ¬ (x.2 = 14 ∧ m.root x.1 = t)) : FcI m t w0 gl (pre ++ [x]) M W := by
 have e : m.fsel t (pre ++ [x]) = m.fsel t pre := by rw [Gm.fsel_snoc, if_neg hx, List.append_nil]
 exact ⟨h.fr, by rw [e]; exact h.row⟩
theorem FcI.push (hg : gl < w0.heap.size) {A : Option Addr} {c : Nat} (hf : Fr (fun i => i = gl) w0 W) (hb : Blk W gl 54 #[.slice A (m.fsel t pre).length c]) (ho : W.ownsRow w0.heap.size 22 1 (.slice A (m.fsel t pre).length c) (m.fsel t pre).length (refRow (m.fsel t pre))) (hM : ∀ i, M i ↔ (i = gl ∨ (Value.slice A (m.fsel t pre).length c).ownBlock = some i))
 {x : Int × Int} (hx : x.2 = 14 ∧ m.root x.1 = t) {o : Obj} {w1 : World} {g2 c2 : Nat} (hown : w1.ownsRow w0.heap.size 22 1 (.slice (some ⟨g2, 0, none⟩) ((m.fsel t pre).length + 1) c2) ((m.fsel t pre).length + 1) (refRow (m.fsel t pre) ++ [.int .i64 x.1])) (hgr : (W.alloc o).grownBy w1 (Value.slice A (m.fsel t pre).length c).ownBlock) (hat : (Value.slice A (m.fsel t pre).length c).ownBlock = some g2 ∨ g2 = (W.alloc o).heap.size) :
 ∃ M' : Nat → Prop, Fr M W (w1.setCell ⟨gl, 0, none⟩ (.slice (some ⟨g2, 0, none⟩) ((m.fsel t pre).length + 1) c2)) ∧ (∀ i, M' i → i < W.heap.size → M i) ∧ FcI m t w0 gl (pre ++ [x]) M' (w1.setCell ⟨gl, 0, none⟩ (.slice (some ⟨g2, 0, none⟩) ((m.fsel t pre).length + 1) c2)) := by
 have e : m.fsel t (pre ++ [x]) = m.fsel t pre ++ [x.1] := by rw [Gm.fsel_snoc, if_pos hx]
 have el : (m.fsel t pre ++ [x.1]).length = (m.fsel t pre).length + 1 := by simp
 have er : refRow (m.fsel t pre ++ [x.1]) = refRow (m.fsel t pre) ++ [.int .i64 x.1] := by simp [refRow]
 have f1 : Fr (fun i => (Value.slice A (m.fsel t pre).length c).ownBlock = some i) W w1 := ((Fr.refl (fun i => (Value.slice A (m.fsel t pre).length c).ownBlock = some i) W).alloc o).trans' (fr_grownG hgr) fun i _ h => h.symm
 have f2 : Fr (fun i => i = gl) w1 (w1.setCell ⟨gl, 0, none⟩ (.slice (some ⟨g2, 0, none⟩) ((m.fsel t pre).length + 1) c2)) := (Fr.refl (fun i => i = gl) w1).set (fun _ => rfl) _
 have hb1 := hb.fr f1 fun e => owns_blk_ne ho hb (by decide) e rfl
 have hb2 := hb1.set_ 0 (.slice (some ⟨g2, 0, none⟩) ((m.fsel t pre).length + 1) c2)
 refine ⟨fun i => i = gl ∨ i = g2, ?_, fun i hi hlt => ?_, ⟨(hf.trans' f1 fun i hi e => by have := (owns_lt ho i e).1; omega).trans' f2 fun i _ e => e, ?_⟩⟩
 · exact ((f1.mono (S' := M) fun i _ e => (hM i).2 (.inr e))).trans' f2 fun i _ e => (hM i).2 (.inl e)
 · rcases hi with rfl | rfl
   · exact (hM _).2 (.inl rfl)
   · rcases hat with h' | h'
     · exact (hM _).2 (.inr h')
     · have : (W.alloc o).heap.size = W.heap.size + 1 := by simp
       omega
 · rw [e, el, er]
   refine ⟨_, _, by simpa using hb2, owns_fr hown f2 fun q hq e => owns_blk_ne hown hb1 (by decide) hq e, fun i => ?_⟩
   simp only [Value.ownBlock, Option.some.injEq]
   exact or_congr_right eq_comm
end
def FOfP (m : Gm) (t : Int) (W : World) (e : Ending) (w' : World) : Prop :=
 ∃ (v : Value) (F : List Int), e = .returned (.tuple #[v, .int .i64 0]) ∧ w'.ownsRow W.heap.size 22 1 v (t :: F).length (refRow (t :: F)) ∧ F.Perm (m.fsel t m.rk) ∧ (∀ i j, i < j → j < F.length → ∀ x y, F[i]? = some x → F[j]? = some y → ¬ m.ablN y < m.ablN x) ∧ Fr No W w'
theorem swo_abl (m : Gm) : SWO (Go.Proofs.ltOf fun x y => cmpN (m.ablN x) (m.ablN y)) := by
 have h : ∀ x y, Go.Proofs.ltOf (fun x y => cmpN (m.ablN x) (m.ablN y)) x y = decide (m.ablN x < m.ablN y) := fun x y => by
  unfold Go.Proofs.ltOf cmpN
  by_cases h1 : m.ablN x < m.ablN y
  · simp [h1]
  · by_cases h2 : m.ablN y < m.ablN x <;> simp [h1, h2]
 refine ⟨fun x => by rw [h]; simp, fun x y z h1 h2 => ?_, fun x y z h1 h2 => ?_⟩
 · rw [h] at *; simp at *; omega
 · rw [h] at *; simp at *; omega
end Go.Proofs.YtlejelbefmkakaaGreat

namespace Go.Proofs.YtlejelbefmkakaaGreat
open Go.RowKit
theorem cntTo_le (a : Nat) : ∀ k, cntTo a k ≤ 2 ^ k
 | 0 => by simp [cntTo]
 | k + 1 => by
  have := cntTo_le a k
  rw [cntTo_succ, Nat.pow_succ]
  split <;> omega
def Made1 (m m' : Gm) (t q : Int) : Prop := m' = m ∨ ∃ g s, m' = m.addF g t s ∧ q = m.last + 1
structure ManyI (m0 m : Gm) (t : Int) (a j : Nat) (l : List (Int × Int)) : Prop where
 par : m.par = m0.par
 cut : m.cut = m0.cut
 made : m.made = m0.made
 last : m0.last ≤ m.last
 th : ∃ nw, m.th = m0.th ++ nw ∧ ∀ x ∈ nw, m0.last < x.1 ∧ x.2.2.kind = 14 ∧ x.2.2.ofr = t ∧ x.1 ∈ l.map Prod.fst
 keys : ∀ q ∈ l.map Prod.fst, ∃ u ∈ subs a, Is1 m q t u
 all : ∀ s, s < j → ∃ q ∈ l.map Prod.fst, Is1 m q t (s &&& a)
 cnt : ∀ x ∈ l, 1 ≤ x.2 ∧ x.2 ≤ j
 nodup : (l.map Prod.fst).Nodup
section
variable {m0 m m' : Gm} {t q : Int} {a j : Nat} {l : List (Int × Int)}
theorem ManyI.start (m0 : Gm) (t : Int) (a : Nat) : ManyI m0 m0 t a 0 [] :=
 ⟨rfl, rfl, rfl, Int.le_refl _, ⟨[], by simp, by simp⟩, by simp, by simp, by simp, by simp⟩
theorem iput_cnt {k v : Int} (hv : 1 ≤ v ∧ v ≤ k) (h : ∀ x ∈ l, 1 ≤ x.2 ∧ x.2 ≤ k) : ∀ x ∈ iput l q v, 1 ≤ x.2 ∧ x.2 ≤ k := by
 intro x hx
 unfold iput at hx
 split at hx
 · obtain ⟨y, hy, rfl⟩ := List.mem_map.1 hx
   split
   · exact hv
   · exact h y hy
 · rcases List.mem_append.1 hx with hx | hx
   · exact h x hx
   · simp only [List.mem_singleton] at hx
     subst hx
     exact hv
theorem ManyI.step (h : ManyI m0 m t a j l) (ha : a < 64) (he : m.Ext m') (hm : Made1 m m' t q) (hi : Is1 m' q t (j &&& a)) : ManyI m0 m' t a (j + 1) (iput l q ((iget l q).getD 0 + 1)) := by
 have hmem : ∀ p ∈ l.map Prod.fst, p ∈ (iput l q ((iget l q).getD 0 + 1)).map Prod.fst := fun p hp => iput_mem.2 (.inr hp)
 have hq : q ∈ (iput l q ((iget l q).getD 0 + 1)).map Prod.fst := iput_mem.2 (.inl rfl)
 have hold : (0 : Int) ≤ (iget l q).getD 0 ∧ (iget l q).getD 0 ≤ j := by
  cases hg : iget l q with
  | none => simp
  | some v =>
   have := h.cnt _ (iget_some hg)
   simp only at this
   simp only [Option.getD_some]
   omega
 have hrest : (∀ p ∈ (iput l q ((iget l q).getD 0 + 1)).map Prod.fst, ∃ u ∈ subs a, Is1 m' p t u) ∧ (∀ s, s < j + 1 → ∃ p ∈ (iput l q ((iget l q).getD 0 + 1)).map Prod.fst, Is1 m' p t (s &&& a)) ∧ (∀ x ∈ iput l q ((iget l q).getD 0 + 1), 1 ≤ x.2 ∧ x.2 ≤ ((j + 1 : Nat) : Int)) := by
  refine ⟨fun p hp => ?_, fun s hs => ?_, iput_cnt (by omega) fun x hx => by have := h.cnt x hx; omega⟩
  · rcases iput_mem.1 hp with rfl | hp
    · exact ⟨_, mem_subs.2 ⟨Nat.lt_of_le_of_lt Nat.and_le_right ha, and_sub j a⟩, hi⟩
    · obtain ⟨u, hu, h1⟩ := h.keys p hp
      exact ⟨u, hu, h1.ext he⟩
  · by_cases hsj : s = j
    · subst hsj
      exact ⟨q, hq, hi⟩
    · obtain ⟨p, hp, h1⟩ := h.all s (by omega)
      exact ⟨p, hmem p hp, h1.ext he⟩
 obtain ⟨r1, r2, r3⟩ := hrest
 obtain ⟨nw, hnw, hnx⟩ := h.th
 rcases hm with rfl | ⟨g, s, rfl, hql⟩
 · exact ⟨h.par, h.cut, h.made, h.last, ⟨nw, hnw, fun x hx => by obtain ⟨a1, a2, a3, a4⟩ := hnx x hx; exact ⟨a1, a2, a3, hmem _ a4⟩⟩, r1, r2, r3, iput_nodup h.nodup⟩
 · refine ⟨h.par, h.cut, h.made, ?_, ⟨nw ++ [(m.last + 1, g, Tg.fac t s)], ?_, fun x hx => ?_⟩, r1, r2, r3, iput_nodup h.nodup⟩
   · have := h.last
     show m0.last ≤ m.last + 1
     omega
   · show m.th ++ _ = _
     rw [hnw, List.append_assoc]
   · rcases List.mem_append.1 hx with hx | hx
     · obtain ⟨a1, a2, a3, a4⟩ := hnx x hx
       exact ⟨a1, a2, a3, hmem _ a4⟩
     · simp only [List.mem_singleton] at hx
       subst hx
       have := h.last
       exact ⟨by show m0.last < m.last + 1; omega, rfl, rfl, by show m.last + 1 ∈ _; rw [← hql]; exact hq⟩
theorem ManyI.count (h : ManyI m0 m t a 64 l) (ha : a < 64) (hone : ∀ p q u, Is1 m p t u → Is1 m q t u → p = q) : l.length = cntTo a 6 := by
 have h1 := (cnt_subs ⟨a, ha⟩).1
 simp only at h1
 have hl : (l.map Prod.fst).length = l.length := List.length_map _
 rw [← h1, ← hl]
 refine count_sets h.nodup (subs_nodup a) h.keys (fun u hu => ?_) hone fun q u v hu hv => hu.abl.uniq hv.abl
 obtain ⟨h2, h3⟩ := mem_subs.1 hu
 have := h.all u h2
 rwa [h3] at this
theorem ManyI.met (h : ManyI m0 m t a 64 l) (_ha : a < 64) (hone : ∀ p q u, Is1 m p t u → Is1 m q t u → p = q) {u : Nat} (hq : Is1 m q t u) (hu : u ∈ subs a) : ∃ v, iget l q = some v ∧ 1 ≤ v := by
 obtain ⟨h2, h3⟩ := mem_subs.1 hu
 obtain ⟨p, hp, h1⟩ := h.all u h2
 rw [h3] at h1
 obtain rfl := hone p q u h1 hq
 obtain ⟨x, hx, rfl⟩ := List.mem_map.1 hp
 exact ⟨x.2, iget_of h.nodup hx, (h.cnt x hx).1⟩
end
theorem of_is {m : Gm} {t : Int} {a : Nat} {F : List Int} (hfs : m.Fs) (hk : (m.th.map Prod.fst).Nodup) {y : Nat × Tg} (hy : m.get t = some y) (hyk : y.2.kind ≠ 14) (ha : m.Abl t a) (hF : F.Perm (m.fsel t m.rk)) :
 (∀ q ∈ t :: F, ∃ u ∈ subs a, Is1 m q t u) ∧ (t :: F).Nodup ∧ ∀ q u, Is1 m q t u → q ∈ t :: F := by
 have hsel : ∀ q, q ∈ m.fsel t m.rk ↔ (∃ x, m.get q = some x ∧ x.2.kind = 14) ∧ m.root q = t := fun q => by
  unfold Gm.fsel Gm.rk
  simp only [List.mem_map, List.mem_filter, Bool.and_eq_true, beq_iff_eq]
  constructor
  · rintro ⟨z, ⟨⟨r, hr, rfl⟩, h1, h2⟩, rfl⟩
    obtain ⟨j, hj⟩ := List.mem_iff_getElem?.1 hr
    obtain ⟨x, hx⟩ := Gm.refs_get hk hj
    refine ⟨⟨x, hx, ?_⟩, h2⟩
    simp only [Gm.kind, hx] at h1
    exact h1
  · rintro ⟨⟨x, hx, h1⟩, h2⟩
    refine ⟨(q, m.kind q), ⟨⟨q, ?_, rfl⟩, ?_, h2⟩, rfl⟩
    · unfold Gm.refs
      exact (List.mergeSort_perm _ _).mem_iff.2 (List.mem_map.2 ⟨_, Gm.get_mem hx, rfl⟩)
    · simp only [Gm.kind, hx]
      exact h1
 have hroot : m.root t = t := Gm.root_of hy hyk
 have hsub : ∀ q x, m.get q = some x → m.root q = t → ∃ u ∈ subs a, Is1 m q t u := fun q x hx hr => by
  obtain ⟨u, hu⟩ := hfs.abl q x hx
  have h1 := hfs.able_root hx hu (by rw [hr]; exact ha)
  exact ⟨u, mem_subs.2 ⟨hu.lt, h1⟩, ⟨x, hx⟩, hr, hu⟩
 refine ⟨fun q hq => ?_, ?_, fun q u hq => ?_⟩
 · rcases List.mem_cons.1 hq with rfl | hq
   · exact hsub _ y hy hroot
   · obtain ⟨⟨x, hx, -⟩, hr⟩ := (hsel q).1 (hF.mem_iff.1 hq)
     exact hsub q x hx hr
 · rw [List.nodup_cons]
   refine ⟨fun hm => ?_, hF.nodup_iff.2 ?_⟩
   · obtain ⟨⟨x, hx, h1⟩, -⟩ := (hsel t).1 (hF.mem_iff.1 hm)
     rw [hy] at hx
     injection hx with hx
     subst hx
     exact hyk h1
   · unfold Gm.fsel
     refine nodup_map_on (List.Pairwise.filter _ ?_) fun x hx z hz e => ?_
     · unfold Gm.rk
       refine nodup_map_on ?_ fun x _ z _ e => by simp only [Prod.mk.injEq] at e; exact e.1
       unfold Gm.refs
       exact (List.mergeSort_perm _ _).nodup_iff.2 hk
     · have h1 := (List.mem_filter.1 hx).1
       have h2 := (List.mem_filter.1 hz).1
       unfold Gm.rk at h1 h2
       obtain ⟨r1, -, rfl⟩ := List.mem_map.1 h1
       obtain ⟨r2, -, rfl⟩ := List.mem_map.1 h2
       simp only at e
       rw [e]
 · obtain ⟨x, hx⟩ := hq.is
   by_cases hk : x.2.kind = 14
   · exact List.mem_cons_of_mem _ (hF.mem_iff.2 ((hsel q).2 ⟨⟨x, hx, hk⟩, hq.root⟩))
   · have := Gm.root_of hx hk
     rw [hq.root] at this
     rw [this]
     exact List.mem_cons_self
theorem of_count {m : Gm} {t : Int} {a : Nat} {F : List Int} (hfs : m.Fs) (hk : (m.th.map Prod.fst).Nodup) {y : Nat × Tg} (hy : m.get t = some y) (hyk : y.2.kind ≠ 14) (ha : m.Abl t a) (hF : F.Perm (m.fsel t m.rk)) {m0 : Gm} {l : List (Int × Int)} (h : ManyI m0 m t a 64 l) (hone : ∀ p q u, Is1 m p t u → Is1 m q t u → p = q) : (t :: F).length = cntTo a 6 := by
 obtain ⟨h1, h2, h3⟩ := of_is hfs hk hy hyk ha hF
 have h4 := (cnt_subs ⟨a, ha.lt⟩).1
 simp only at h4
 rw [← h4]
 refine count_sets h2 (subs_nodup a) h1 (fun u hu => ?_) hone fun q u v hu hv => hu.abl.uniq hv.abl
 obtain ⟨h5, h6⟩ := mem_subs.1 hu
 obtain ⟨q, hq, hi⟩ := h.all u h5
 rw [h6] at hi
 exact ⟨q, h3 q u hi, hi⟩
theorem of_rises {m : Gm} {t : Int} {a : Nat} {F : List Int} (h1 : ∀ q ∈ t :: F, ∃ u ∈ subs a, Is1 m q t u) (h2 : (t :: F).Nodup) (hone : ∀ p q u, Is1 m p t u → Is1 m q t u → p = q) (hs : ∀ i j, i < j → j < F.length → ∀ x y, F[i]? = some x → F[j]? = some y → ¬ m.ablN y < m.ablN x) {i : Nat} (hi : i + 1 < F.length) : m.ablN (F[i]'(by omega)) < m.ablN F[i + 1] := by
 have h3 := hs i (i + 1) (by omega) hi _ _ (List.getElem?_eq_getElem (by omega)) (List.getElem?_eq_getElem hi)
 rcases Nat.lt_or_ge (m.ablN (F[i]'(by omega))) (m.ablN F[i + 1]) with h | h
 · exact h
 · exfalso
   obtain ⟨u, -, hu⟩ := h1 _ (List.mem_cons_of_mem t (List.getElem_mem (l := F) (n := i) (by omega)))
   obtain ⟨v, -, hv⟩ := h1 _ (List.mem_cons_of_mem t (List.getElem_mem (l := F) (n := i + 1) hi))
   rw [Gm.ablN_of hu.abl, Gm.ablN_of hv.abl] at h h3
   obtain rfl : u = v := by omega
   have := hone _ _ _ hu hv
   have := (List.getElem_inj (h₀ := by omega) (h₁ := hi) (List.nodup_cons.1 h2).2).1 this
   omega
end Go.Proofs.YtlejelbefmkakaaGreat

namespace Go.Proofs.YtlejelbefmkakaaGreat
open Go.RowKit
theorem Gm.refs_sorted (m : Gm) : m.refs.Pairwise (fun a b => decide (a ≤ b) = true) := by
 unfold Gm.refs
 exact List.pairwise_mergeSort (fun a b c h1 h2 => by simp at *; omega) (fun a b => by simp; omega) _
def keptB (l : List (Int × Int)) (last : Int) (x : Int × Tg) : Bool := (iget l x.1).getD 0 == 0 || decide (x.1 ≤ last)
section
variable {m0 m : Gm} {t : Int} {a : Nat} {l : List (Int × Int)} {L0 L1 : List (Int × Tg)}
theorem not_kept (h : ManyI m0 m t a 64 l) (_hk : (m.th.map Prod.fst).Nodup) (hn0 : ∀ x ∈ m0.th, x.1 ≤ m0.last) (h1 : Told m L1 m.refs.length) {x : Int × Tg} (hx : x ∈ L1) (hb : keptB l m0.last x = false) : x.2.kind = 14 ∧ x.2.ofr = t := by
 obtain ⟨y, hy, hp⟩ := h1.pl x hx
 obtain ⟨nw, hnw, hnx⟩ := h.th
 have hm := Gm.get_mem hy
 rw [hnw] at hm
 unfold keptB at hb
 simp only [Bool.or_eq_false_iff, decide_eq_false_iff_not] at hb
 rcases List.mem_append.1 hm with hm | hm
 · exact absurd (hn0 _ hm) hb.2
 · obtain ⟨-, k1, k2, -⟩ := hnx _ hm
   have e1 : x.2.kind = y.2.kind := congrArg TgV.kind hp
   have e2 : x.2.ofr = y.2.ofr := congrArg TgV.ofr hp
   exact ⟨e1.trans k1, e2.trans k2⟩
theorem kept_nums (h : ManyI m0 m t a 64 l) (hn0 : ∀ x ∈ m0.th, x.1 ≤ m0.last) (h1 : Told m L1 m.refs.length) : (L1.filter (keptB l m0.last)).map Prod.fst = m0.refs := by
 have hn : L1.map Prod.fst = m.refs := by rw [h1.nums, List.take_length]
 have e : (L1.filter (keptB l m0.last)).map Prod.fst = m.refs.filter fun r => (iget l r).getD 0 == 0 || decide (r ≤ m0.last) := by
  rw [← hn, List.filter_map]
  rfl
 rw [e]
 obtain ⟨nw, hnw, hnx⟩ := h.th
 refine List.Perm.eq_of_pairwise (le := fun a b => decide (a ≤ b) = true) (fun a b _ _ h1 h2 => by simp at h1 h2; omega) (m.refs_sorted.filter _) m0.refs_sorted ?_
 have p1 : m.refs.Perm (m.th.map Prod.fst) := List.mergeSort_perm _ _
 have p0 : m0.refs.Perm (m0.th.map Prod.fst) := List.mergeSort_perm _ _
 refine (p1.filter _).trans (List.Perm.trans ?_ p0.symm)
 rw [hnw, List.map_append, List.filter_append]
 have f1 : ((m0.th.map Prod.fst).filter fun r => (iget l r).getD 0 == 0 || decide (r ≤ m0.last)) = m0.th.map Prod.fst := by
  refine List.filter_eq_self.2 fun r hr => ?_
  obtain ⟨x, hx, rfl⟩ := List.mem_map.1 hr
  simp [hn0 x hx]
 have f2 : ((nw.map Prod.fst).filter fun r => (iget l r).getD 0 == 0 || decide (r ≤ m0.last)) = [] := by
  refine List.filter_eq_nil_iff.2 fun r hr => ?_
  obtain ⟨x, hx, rfl⟩ := List.mem_map.1 hr
  obtain ⟨k0, -, -, k3⟩ := hnx x hx
  obtain ⟨z, hz, hz1⟩ := List.mem_map.1 k3
  have hg : iget l x.1 = some z.2 := iget_of h.nodup (by rw [← hz1]; exact hz)
  have hc := (h.cnt z hz).1
  rw [hg]
  simp only [Option.getD_some, Bool.or_eq_true, beq_iff_eq, decide_eq_true_eq]
  omega
 rw [f1, f2, List.append_nil]
theorem kept_pl (h : ManyI m0 m t a 64 l) (he : m0.Ext m) (hn0 : ∀ x ∈ m0.th, x.1 ≤ m0.last) (h0 : Told m0 L0 m0.refs.length) (h1 : Told m L1 m.refs.length) : ((L1.filter (keptB l m0.last)).map fun x => (x.1, x.2.pl)) = L0.map fun x => (x.1, x.2.pl) := by
 have e1 := kept_nums h hn0 h1
 have e0 : L0.map Prod.fst = m0.refs := by rw [h0.nums, List.take_length]
 have e : (L1.filter (keptB l m0.last)).map Prod.fst = L0.map Prod.fst := e1.trans e0.symm
 have hlen : (L1.filter (keptB l m0.last)).length = L0.length := by simpa using congrArg List.length e
 refine List.ext_getElem (by simpa using hlen) fun i h2 h3 => ?_
 simp only [List.getElem_map]
 have hi1 : i < (L1.filter (keptB l m0.last)).length := by simpa using h2
 have hi0 : i < L0.length := by simpa using h3
 have hnum : ((L1.filter (keptB l m0.last))[i]).1 = (L0[i]).1 := by
  have := congrArg (fun K => K[i]?) e
  simpa [List.getElem?_eq_getElem hi1, List.getElem?_eq_getElem hi0] using this
 obtain ⟨y1, hy1, p1⟩ := h1.pl _ (List.mem_filter.1 (List.getElem_mem hi1)).1
 obtain ⟨y0, hy0, p0⟩ := h0.pl _ (List.getElem_mem hi0)
 rw [hnum, he.2.2 _ _ hy0] at hy1
 injection hy1 with hy1
 subst hy1
 rw [hnum, p1, p0]
end
end Go.Proofs.YtlejelbefmkakaaGreat

namespace Go.Proofs.YtlejelbefmkakaaGreat
open Go.RowKit
attribute [local go_sem] Oper.semAt_some
theorem wpListIn_append_lies {F : Fence} {n : Nat} {P : Program} (w : World) {ops : Array Oper} {rest : List Oper} {o : Oper} {a : Act} {Q : Exit → Act → World → Prop}
 (hg : o.guard = none) (s x : Operand) (t : TypeId) (hop : o.op = Op.call { callee := Callee.builtin Builtin.append, args := #[s, x], argTypes := #[t, t] })
 (base : Nat) (e : TypeId) (i : TypeInfo) (z : Value) (size bytes : Nat) (h1 : P.underlying t = some (.slice e)) (h2 : P.info? e = some i) (h3 : i.zero = some z) (h4 : i.size = size) (h5 : i.bytes = bytes) (h6 : z.cells.size = size) (h7 : 0 < size)
 (v : Value) (k : Nat) (xs : List Value) (hs : a.eval s = v) (hown : w.ownsRow base e size v k xs) (ad : Addr) (m c : Nat) (news : List Value) (hx : a.eval x = .slice (some ad) m c) (hn : news.length = m * size)
 (hc : ∀ j u, news[j]? = some u → w.cell? (ad.add j) = some u) (h1c : ∀ u ∈ news, u.oneCell' = true) (hm : 0 < m) (b1 : k + m ≤ maxLen) (b2 : (k + m) * bytes ≤ 140737488355328) (b3 : base ≤ w.heap.size) (H : Nat) (hH : w.heap.size = H)
 (hK : ∀ g cap w', w'.ownsRow base e size (.slice (some ⟨g, 0, none⟩) (k + m) cap) (k + m) (xs ++ news) → w.grownBy w' v.ownBlock → (v.ownBlock = some g ∨ g = H) → g < w'.heap.size → wpListIn F n P ops Q rest (a.put o.dst (.slice (some ⟨g, 0, none⟩) (k + m) cap)) w') :
 wpListIn F n P ops Q (o :: rest) a w := by
 refine wpListIn_plain hg fun K hK' => ?_
 obtain ⟨g, cap, w', hrun, r1, r2, r3, r4⟩ := run_append_lies (P := P) w t o.type base e i z size bytes h1 h2 h3 h4 h5 h6 h7 v k xs hown ad m c news hn hc h1c hm b1 b2 b3 H hH
 unfold Oper.wpIn
 refine ⟨?_, ?_⟩
 · simp [Oper.about, hop, resolve, Target.leads, Sem.run_pure]
 · rw [Oper.semAt_plain F _ _ (by rw [hop]; intro c hc'; cases hc')]
   simp [execOp, hop, resolve, invoke, builtin, hs, hx, hrun, Result.andThen]
   exact hK' _ _ (hK g cap w' r1 r2 r3 r4)
theorem rk_of {lp : Nat} {M B : Nat → Prop} {W1 W2 Wx Wf : World} (h12 : Fr (fun i => i = lp) W1 W2) (hx : Fr No W2 Wx) (hf : Fr M Wx Wf) (hl : lp < W1.heap.size) (hM : ¬ M lp) : RK lp M B W1 W2 Wf := by
 have h1 := h12.size
 have h2 := hx.size
 refine ⟨(hf.block lp (by omega) hM).trans (hx.block lp (by omega) (fun h => h)), ((h12.mono (S' := fun i => M i ∨ B i ∨ i = lp) fun i _ h => .inr (.inr h)).thenNo hx).trans' hf fun i _ h => .inl h⟩
end Go.Proofs.YtlejelbefmkakaaGreat

namespace Go.Proofs.YtlejelbefmkakaaGreat
open Go.RowKit Go.Sort
attribute [local go_sem] Oper.semAt_some
theorem Gm.rk_mem {m : Gm} (hk : (m.th.map Prod.fst).Nodup) {x : Int × Int} (h : x ∈ m.rk) : ∃ z, m.get x.1 = some z ∧ x.2 = z.2.kind := by
 unfold Gm.rk at h
 obtain ⟨r, hr, rfl⟩ := List.mem_map.1 h
 obtain ⟨j, hj⟩ := List.mem_iff_getElem?.1 hr
 obtain ⟨z, hz⟩ := Gm.refs_get hk hj
 refine ⟨z, hz, ?_⟩
 unfold Gm.kind
 rw [hz]
 rfl
def OfA (a0 : Act) (x : Int × Int) (_ : Array Value) (W1 : World) (a' : Act) (Wa : World) : Prop :=
 W1 = Wa ∧ a' = (((({ a0 with defers := [] }.put (some 23) (.int .i64 x.1)).put (some 24) (.int .u8 x.2)).put (some 9) (.int .i64 x.1)).put (some 10) (.int .u8 x.2))
theorem Of_end {m : Gm} {t : Int} {W w9 w10 : World} {F : List Int} {v' : Value} {D : Nat} {o : Obj} (hFN : Fr No W w9) (hDW : W.heap.size ≤ D) (hD : w9.heap[D]? = some (.deferred (some []))) (hown : w10.ownsRow w9.heap.size 22 1 v' ([t] ++ F).length (refRow ([t] ++ F))) (hgr : (w9.alloc o).grownBy w10 (Value.slice (some ⟨w9.heap.size, 0, none⟩) 1 1).ownBlock) (hp : F.Perm (m.fsel t m.rk))
 (hs : ∀ i j, i < j → j < F.length → ∀ x y, F[i]? = some x → F[j]? = some y → ¬ m.ablN y < m.ablN x) : w10.heap[D]? = some (.deferred (some [])) ∧ FOfP m t W (.returned (.tuple #[v', .int .i64 0])) (w10.putObj D (.deferred none)) := by
 have hDl := lt_of_heap hD
 have f1 : Fr (fun i => i = w9.heap.size) w9 w10 := ((Fr.refl (fun i => i = w9.heap.size) w9).alloc o).trans' (fr_grownG hgr) fun i _ h => by
  have h' : some i = some w9.heap.size := h
  injection h'
 have hD1 : w10.heap[D]? = some (.deferred (some [])) := (f1.block D hDl fun e => by have e' : D = w9.heap.size := e; omega).trans hD
 have f2 : Fr (fun i => i = D) w10 (w10.putObj D (.deferred none)) := fr_putObj _ _ _
 refine ⟨hD1, v', F, rfl, owns_mono (owns_fr hown f2 fun q hq e => ?_) hFN.size, hp, hs, (hFN.trans' f1 fun i hi e => by
  have e' : i = w9.heap.size := e
  have := hFN.size
  omega).trans' f2 fun i hi e => by
  have e' : i = D := e
  omega⟩
 have e' : q = D := e
 subst e'
 obtain ⟨cs, hb⟩ := owns_typed hown hq
 unfold Blk at hb
 rw [hD1] at hb
 cases hb
set_option maxRecDepth 100000 in
set_option maxHeartbeats 16000000 in
theorem Of_f {m : Gm} {lo n : Nat} {W : World} (h : FW m lo n W) {r : Int} {x : Nat × Tg} (hg : m.get r = some x) (HSORT : Hid SortRefs) (HSF : Hid SortFn) :
 Calls Tryz.prog 75 #[.pointer (some ⟨m.wb, 0, none⟩), .int .i64 r] W (FOfP m (m.root r) W) := by
 have hfa := (Fr.refl No W).alloc (.cells #[.pointer (some ⟨m.wb, 0, none⟩)] 31)
 have hbw := Blk.new W 31 #[.pointer (some ⟨m.wb, 0, none⟩)]
 have HH := hide h
 have HG := hide hg
 have HFA := hide hfa
 have HBW := hide hbw
 obtain ⟨t, ht⟩ : ∃ t, m.root r = t := ⟨_, rfl⟩
 rw [ht]
 have HT := hide ht
 clear h hg hfa ht
 refine (callsIn_wide (n := 5)).1 ?_
 refine callsIn_of_wp_marks Tryz.func75 rfl trivial ?_
 simp only [Tryz.ntmps75, List.size_toArray, List.length_cons, List.length_nil, Nat.reduceAdd, Nat.reduceSub, Array.replicate_succ, Array.replicate_zero, List.push_toArray, List.append_toArray, List.nil_append, List.cons_append]
 refine wpIn_wide.2 ?_
 have c0 : (W.alloc (.cells #[.pointer (some ⟨m.wb, 0, none⟩)] 31)).cell? ⟨W.heap.size, 0, none⟩ = some (.pointer (some ⟨m.wb, 0, none⟩)) := hbw.cell 0
 have q0 := hbw.lt
 clear hbw
 go_upto_region 1 with (fail)
 generalize World.alloc W _ = W0 at *
 have hth := fthere1_g (HH.out.ok.no (HFA.out.alloc (.cells #[.int .i64 r] 22))) ((Blk.new W0 22 #[.int .i64 r]).cell 0) (Blk.new W0 22 #[.int .i64 r]).lt
 have e0 : m.isE r = 0 := by unfold Gm.isE; rw [HG.out]; rfl
 rw [e0] at hth
 have HTH := hide hth
 have HF1 := hide (HFA.out.alloc (.cells #[.int .i64 r] 22))
 have HB1 := hide (HBW.out.alloc (.cells #[.int .i64 r] 22))
 clear hth e0
 go_wp2_with fail
 clear c0 q0
 generalize World.alloc W0 _ = W1 at *
 refine HTH.out.mono ?_
 rintro e w1 ⟨rfl, rfl⟩
 have c0 : w1.cell? ⟨W.heap.size, 0, none⟩ = some (.pointer (some ⟨m.wb, 0, none⟩)) := HB1.out.cell 0
 have q0 := HB1.out.lt
 go_wp2_with fail
 have hroot := root_g (HH.out.ok.no HF1.out) HH.out.what HG.out
 rw [HT.out] at hroot
 refine hroot.mono ?_
 rintro e w2 ⟨rfl, f2⟩
 have HF2 := hide (HF1.out.trans f2)
 have HB2 := hide (HB1.out.fr f2 fun h => h)
 clear c0 q0 hroot f2 HTH
 have hb2 := HB2.out
 have c0 : w2.cell? ⟨W.heap.size, 0, none⟩ = some (.pointer (some ⟨m.wb, 0, none⟩)) := hb2.cell 0
 have q0 := hb2.lt
 clear hb2
 go_upto_region 6 with (fail)
 have HBT := hide ((Blk.new w2 22 #[.int .i64 t]).alloc (.cells #[.slice none 0 0] 54))
 have HBL := hide (Blk.new' (w2.alloc (.cells #[.int .i64 t] 22)) 54 #[.slice none 0 0] (g := w2.heap.size + 1) (by simp))
 have HF4 := hide ((HF2.out.alloc (.cells #[.int .i64 t] 22)).alloc (.cells #[.slice none 0 0] 54))
 have HB4 := hide ((HB2.out.alloc (.cells #[.int .i64 t] 22)).alloc (.cells #[.slice none 0 0] 54))
 have HW2 := hide (show W.heap.size < w2.heap.size from HB2.out.lt)
 clear c0 q0
 generalize World.alloc (World.alloc w2 _) _ = w4 at *
 generalize w2.heap.size = gt at *
 have c0 : w4.cell? ⟨W.heap.size, 0, none⟩ = some (.pointer (some ⟨m.wb, 0, none⟩)) := HB4.out.cell 0
 have q0 := HB4.out.lt
 go_wp2_with fail
 clear c0 q0
 refine (Things_any (some ⟨m.wb, 0, none⟩) w4).mono ?_
 rintro e w5 ⟨rfl, hb5, f5⟩
 have HF5 := hide (HF4.out.trans f5)
 have HB5 := hide (HB4.out.fr f5 fun h => h)
 have HBT5 := hide (HBT.out.fr f5 fun h => h)
 have HBL5 := hide (HBL.out.fr f5 fun h => h)
 have HW4 := hide (show gt + 1 < w4.heap.size from HBL.out.lt)
 have HTB := hide hb5
 have hok5 := HH.out.ok.no HF5.out
 have HOK5 := hide hok5
 have hs5 : w4.heap.size < w5.heap.size := hb5.lt
 clear f5 hb5 hok5 HBT HBL HB4 HF4
 go_wp2_with fail
 have hgl : gt + 1 < w5.heap.size := by have := HW4.out; omega
 generalize ha0 : ({ tmps := _, defers := _ } : Act) = a0
 refine wp_rangeFunc_seq (gf := 126) (lb := #[.pointer (some ⟨w4.heap.size, 0, none⟩)]) (by rw [← ha0]; rfl) (enters_fn2 Tryz.func126 (by kernel_rfl) rfl) (fun x args B W h => by obtain ⟨rfl, -⟩ := h; rfl) (iterThings HOK5.out HTB.out HSORT) (FcI m t w5 (gt + 1)) (fun _ _ _ _ => False)
  (fun pre M W W' S h f hs => h.stay hgl f hs) (fun _ _ _ _ _ _ h _ _ => h) (fun pre M W h => h.lt hgl) (fun i => i = gt + 1) ?h0 ?hM0 (OfA a0) ?assign ?body ?done (fun _ _ _ _ _ _ h _ _ _ _ => h.elim)
 case h0 => exact ⟨Fr.refl _ _, none, 0, HBL5.out, World.ownsRow_nil _ _ _ _, fun i => by simp [Value.ownBlock]⟩
 case hM0 =>
  intro i hi
  subst hi
  refine ⟨hgl, fun h => ?_⟩
  have h1 := HW2.out
  have h2 := HW4.out
  rcases h with h | h
  · have := (HH.out.ok.lt _ h).2
    omega
  · omega
 case assign =>
  rintro lp ⟨q, k⟩ args B W1 ⟨rfl, -⟩ K hK
  subst ha0
  have HK := hide hK
  clear hK
  gi_wp2
  exact HK.out _ _ (Fr.refl _ _) ⟨rfl, rfl⟩
 case body =>
  rintro lp pre ⟨q, k⟩ args B M W1 a' Wa W2 I hpre ⟨rfl, hB0⟩ hB fa ⟨rfl, rfl⟩ hl hMl hBl hwl f2
  have hmem : (q, k) ∈ m.rk := by
   obtain ⟨z, hz⟩ := hpre
   rw [← hz]
   simp
  obtain ⟨z, hz, hkz⟩ := Gm.rk_mem HOK5.out.keys hmem
  simp only at hz hkz
  have hpl : pre.length ≤ 1000000 := by
   have h1 := hpre.length_le
   have h2 : m.rk.length = m.th.length := by unfold Gm.rk; rw [List.length_map, Gm.refs_length]
   have h3 := HOK5.out.len
   rw [List.length_append] at h1
   omega
  have HPL := hide hpl
  have hs1 := I.fr.size
  have hs2 := f2.size
  have hw2 := HW2.out
  have hw4 := HW4.out
  have hFW : Fr (fun i => i = gt + 1 ∨ i = lp) w5 W2 := (I.fr.mono fun i _ h => .inl h).trans' f2 fun i _ h => .inr h
  have hok2 : m.Ok lo W2 := HOK5.out.fr hFW fun i hi e => by
   have := (HH.out.ok.lt i hi).2
   rcases e with e | e <;> omega
  have hbw2 := HB5.out.fr hFW fun e => by rcases e with e | e <;> omega
  have hbt2 := HBT5.out.fr hFW fun e => by rcases e with e | e <;> omega
  have I2 := I.stay hgl f2 fun i _ e => by
   have e' : i = lp := e
   subst e'
   exact ⟨hwl, hMl⟩
  subst ha0
  have b0 : ∀ p : ClN W2, p.w.cell? ⟨W.heap.size, 0, none⟩ = some (.pointer (some ⟨m.wb, 0, none⟩)) := fun p => (hbw2.fr p.fr fun h => h).cell 0
  have b1 : ∀ p : ClN W2, p.w.cell? ⟨gt, 0, none⟩ = some (.int .i64 t) := fun p => (hbt2.fr p.fr fun h => h).cell 0
  have b2 : ∀ p : ClN W2, W.heap.size < p.w.heap.size := fun p => Nat.lt_of_lt_of_le hbw2.lt p.fr.size
  have b3 : ∀ p : ClN W2, gt < p.w.heap.size := fun p => Nat.lt_of_lt_of_le hbt2.lt p.fr.size
  have hinst : Nonempty (ClN W2) := ⟨⟨W2, Fr.refl No W2⟩⟩
  have hr0 : ∀ p : ClN W2, Calls Tryz.prog 140 #[.pointer (some ⟨m.wb, 0, none⟩), .int .i64 q] p.w fun e w'' => e = .returned (.int .i64 (m.root q)) ∧ ∃ p' : ClN W2, w'' = p'.w := fun p => (root_g (hok2.no p.fr) HH.out.what hz).mono (by
   rintro e w'' ⟨rfl, f⟩
   exact ⟨rfl, ⟨w'', p.fr.trans f⟩, rfl⟩)
  have HR := hide hr0
  have HI2 := hide I2
  have HF2' := hide f2
  have HL := hide hl
  have HML := hide hMl
  have hs12 : W1.heap.size ≤ W2.heap.size := hs2
  have HS12 := hide hs12
  clear hpl hmem hkz hs1 hs2 hw2 hw4 hFW hok2 hbw2 hbt2 I I2 f2 hl hMl hBl hwl hB hB0 fa hpre hr0 hz hs12
  simp only [Act.put, lq4, lq5, lq6]
  obtain ⟨rq, hrq⟩ : ∃ z, m.root q = z := ⟨_, rfl⟩
  rw [hrq] at HR
  have HRQ := hide hrq
  clear hrq
  by_cases hk : k = 14
  · subst hk
    by_cases hr : rq = t
    · subst hr
      have hrr : (rq == rq) = true := by simp
      gi_wp2_with fail
      refine wpIn_region_quiet_round (fun W' => ∃ p : ClN W2, W' = p.w) (by kernel_rfl) (by kernel_rfl) (by kernel_rfl) ⟨⟨_, (Fr.refl No W2).drew⟩, rfl⟩ ?_
      repeat (go_big_quiet_step ((go_at_call 140; exact HR.out _)))
      refine wpQuiet_nil ?_
      rintro Wc ⟨⟨_, f3⟩, rfl⟩
      have I3 := HI2.out.stay hgl f3 fun i _ e => e.elim
      obtain ⟨A, c, hb, ho, hM⟩ := I3.row
      have x0 := hb.cell 0
      simp only [lq1, lq3] at x0
      have xq := hb.lt
      have hF3 := I3.fr
      have hfl : (m.fsel rq pre).length ≤ 1000000 := by
       unfold Gm.fsel
       rw [List.length_map]
       exact Nat.le_trans (List.length_filter_le _ _) HPL.out
      have HX := hide (And.intro hF3 (And.intro hb (And.intro ho hM)))
      have HF3 := hide f3
      have HFL := hide hfl
      have HOA := hide (owns_fr ho ((Fr.refl No Wc).alloc (.cells #[.int .i64 q] 22)) fun _ _ h => h)
      have hsz5 : w5.heap.size ≤ (Wc.alloc (.cells #[.int .i64 q] 22)).heap.size := Nat.le_trans hF3.size ((Fr.refl No Wc).alloc (.cells #[.int .i64 q] 22)).size
      have HSZ := hide hsz5
      have HZ := hide fun (w7 : World) (hgr : (Wc.alloc (.cells #[.int .i64 q] 22)).grownBy w7 (Value.slice A (m.fsel rq pre).length c).ownBlock) => (show w7.cell? ⟨gt + 1, 0, none⟩ = some (.slice A (m.fsel rq pre).length c) ∧ w7.frozen? ⟨gt + 1, 0, none⟩ = false ∧ gt + 1 < w7.heap.size from by
       have f1 : Fr (fun i => (Value.slice A (m.fsel rq pre).length c).ownBlock = some i) Wc w7 := ((Fr.refl (fun i => (Value.slice A (m.fsel rq pre).length c).ownBlock = some i) Wc).alloc _).trans' (fr_grownG hgr) fun i _ h => h.symm
       have hb' := hb.fr f1 fun e => owns_blk_ne ho hb (by decide) e rfl
       exact ⟨hb'.cell 0, hb'.frozen 0, hb'.lt⟩)
      obtain ⟨i0, hi0, hz0, hz1, hz2⟩ := info_parts ref_info
      clear I3 hb ho hM hF3 hfl f3 hsz5 b0 b1 b2 b3 hinst hrr HR
      generalize hnl : (m.fsel rq pre).length = nl at *
      gi_wp2_with (gi_at_builtin; refine wpListIn_append_lies _ (by rfl) _ _ 54 (by rfl) w5.heap.size 22 i0 _ 1 8 Tryz.underlying54 hi0 hz0 hz1 hz2 (by rfl) (by omega) (.slice A nl c) nl (refRow (m.fsel rq pre)) (by rfl) HOA.out ⟨Wc.heap.size, 0, none⟩ 1 1 [.int .i64 q] (by rfl) (by rfl) (World.news_of_block (Blk.new Wc _ _)) (by simp [Value.oneCell']) (by omega) (by have := HFL.out; unfold maxLen; omega) (by have := HFL.out; omega) HSZ.out _ rfl ?_; intro g2 c2 w7 hown hgr hat hlt; obtain ⟨z1, zf1, zq1⟩ := HZ.out w7 hgr; have HOW := hide hown; have HGR := hide hgr; have HAT := hide hat; clear hown hgr hat hlt x0 xq)
      subst hnl
      obtain ⟨M', hfM, hsb, hI'⟩ := FcI.push (x := (q, (14 : Int))) hgl HX.out.1 HX.out.2.1 HX.out.2.2.1 HX.out.2.2.2 ⟨rfl, HRQ.out⟩ HOW.out HGR.out HAT.out
      have h12 := HS12.out
      have h2c := HF3.out.size
      exact ⟨rk_of HF2'.out HF3.out hfM HL.out HML.out, M', fun i h1 h2 => hsb i h1 (by omega), hI'⟩
    · have hrr : (rq == t) = false := by simpa using hr
      gi_wp2_with fail
      refine wpIn_region_quiet_round (fun W' => ∃ p : ClN W2, W' = p.w) (by kernel_rfl) (by kernel_rfl) (by kernel_rfl) ⟨⟨_, (Fr.refl No W2).drew⟩, rfl⟩ ?_
      repeat (go_big_quiet_step ((go_at_call 140; exact HR.out _)))
      refine wpQuiet_nil ?_
      rintro Wc ⟨⟨_, f3⟩, rfl⟩
      have HF3 := hide f3
      have HNE := hide hr
      clear f3 b0 b1 b2 b3 hinst HR hr
      gi_wp2_with fail
      exact ⟨rk_of HF2'.out HF3.out (Fr.refl M _) HL.out HML.out, M, fun _ h _ => h, (HI2.out.stay hgl HF3.out fun i _ e => e.elim).skip fun h => HNE.out (HRQ.out.symm.trans h.2)⟩
  · have hk' : (k == 14) = false := by simpa using hk
    gi_wp2_with fail
    refine wpIn_region_quiet_round (fun W' => ∃ p : ClN W2, W' = p.w) (by kernel_rfl) (by kernel_rfl) (by kernel_rfl) ⟨⟨_, (Fr.refl No W2).drew⟩, rfl⟩ ?_
    repeat (go_big_quiet_step ((go_at_call 140; exact HR.out _)))
    refine wpQuiet_nil ?_
    rintro Wc ⟨⟨_, f3⟩, rfl⟩
    have HF3 := hide f3
    have HNX := hide (show ¬ (((q, k) : Int × Int).2 = 14 ∧ m.root ((q, k) : Int × Int).1 = t) from fun ⟨h, _⟩ => hk h)
    clear f3 b0 b1 b2 b3 hinst HR hk
    gi_wp2_with fail
    exact ⟨rk_of HF2'.out HF3.out (Fr.refl M _) HL.out HML.out, M, fun _ h _ => h, (HI2.out.stay hgl HF3.out fun i _ e => e.elim).skip HNX.out⟩
 case done =>
  rintro D W' M' I hfr hsub hge hD
  obtain ⟨A, c, hb, ho, hM⟩ := I.row
  have hF := I.fr
  have hw2 := HW2.out
  have hw4 := HW4.out
  have hs1 := hF.size
  have hok6 : m.Ok lo W' := HOK5.out.fr hF fun i hi e => by
   have e' : i = gt + 1 := e
   have := (HH.out.ok.lt i hi).2
   omega
  have hbw6 := HB5.out.fr hF fun e => by have e' : W.heap.size = gt + 1 := e; omega
  have hbt6 := HBT5.out.fr hF fun e => by have e' : gt = gt + 1 := e; omega
  have hFN : Fr No W W' := HF5.out.trans' hF fun i hi e => by have e' : i = gt + 1 := e; omega
  have x0 := hb.cell 0
  simp only [lq1, lq3] at x0
  have xq := hb.lt
  have y0 : W'.cell? ⟨gt, 0, none⟩ = some (.int .i64 t) := hbt6.cell 0
  have yq := hbt6.lt
  have HOK6 := hide hok6
  have HBW6 := hide hbw6
  have HBT6 := hide hbt6
  have HFN := hide hFN
  have HBL6 := hide hb
  have HD6 := hide hD
  have HGE := hide hge
  have HROW := hide ho
  subst ha0
  have hdw : W.heap.size < D := by omega
  have HDW := hide hdw
  rcases ho.2 with ⟨h1, h2⟩ | ⟨g, cap, cur, h1, hgb, hgh, hgc, hgm, hgs, hgx⟩
  · simp only [Value.slice.injEq] at h1
    obtain ⟨rfl, h3, rfl⟩ := h1
    have hF0 : m.fsel t m.rk = [] := List.eq_nil_of_length_eq_zero h2
    have HF00 := hide hF0
    rw [h2] at x0
    clear I hfr hsub hge hD hb ho hM hF hw2 hw4 hs1 hok6 hbw6 hbt6 hFN hF0 h2 h3 hdw
    go_wp2_with fail
    refine (sortFunc_nil _ W').mono ?_
    rintro e w9 ⟨rfl, rfl⟩
    have HONE := hide (ref_one (lo := w9.heap.size) (Blk.new w9 22 #[.int .i64 t]) (Nat.le_refl _))
    go_wp2_with (at_builtin; refine wpList_app_refs _ (by rfl) _ _ (by rfl) w9.heap.size 0 (.slice (some ⟨w9.heap.size, 0, none⟩) 1 1) (.slice none 0 0) [t] [] (by rfl) (by rfl) HONE.out (World.ownsRow_nil _ _ _ _) (by simp) (by simp) ?_; intro v' w10 hown hgr; have HOW := hide hown; have HGR := hide hgr; clear hown hgr x0 xq y0 yq)
    obtain ⟨hd, hpost⟩ := Of_end (m := m) (F := []) HFN.out (Nat.le_of_lt HDW.out) HD6.out HOW.out HGR.out (by rw [HF00.out]) (by simp)
    refine ⟨by simp, .inl ⟨_, _, rfl, run_takeDeferred hd, ?_⟩⟩
    refine ⟨.tuple #[v', .int .i64 0], by simp [results, Tryz.results75, go_sem], hpost⟩
  · simp only [Value.slice.injEq, true_and] at h1
    obtain ⟨rfl, rfl⟩ := h1
    have hsf := HSF.out (fun x y => cmpN (m.ablN x) (m.ablN y)) (swo_abl m) 144 #[.pointer (some ⟨W.heap.size, 0, none⟩)] g c (m.fsel t m.rk).toArray W' (enters_fn2 Tryz.func144 (by kernel_rfl) rfl) (fun mm os dk _ x y => by
     have f : Fr (fun i => some i = some g) W' (Go.Proofs.sortWorld (Value.int .i64) W' g 0 mm dk os) := fr_grownG (grownBy_sortedI dk)
     have hok7 := hok6.fr f fun i hi e => by
      have e' : some i = some g := e
      injection e' with e'
      have := (HH.out.ok.lt i hi).2
      omega
     have hbw7 := hbw6.fr f fun e => by
      have e' : some W.heap.size = some g := e
      injection e' with e'
      omega
     exact (Of1_w hok7 HH.out.fs.abl hbw7 x y).mono fun e w ⟨he, hf⟩ => ⟨he, hf.eq⟩) (row_holds ho).1 (row_holds ho).2 (by
     have h2 : m.rk.length = m.th.length := by unfold Gm.rk; rw [List.length_map, Gm.refs_length]
     have h3 := HH.out.ok.len
     have h4 : (m.fsel t m.rk).length ≤ m.rk.length := by unfold Gm.fsel; rw [List.length_map]; exact List.length_filter_le _ _
     simp only [List.size_toArray]
     omega)
    rw [List.size_toArray] at hsf
    have HSO := hide hsf
    have HGB := hide hgb
    have HGH := hide hgh
    have HGC := hide hgc
    have HGM := hide hgm
    have HGS := hide hgs
    clear hsf I hfr hsub hge hD hb ho hM hF hw2 hw4 hs1 hok6 hbw6 hbt6 hFN hdw hgb hgh hgc hgm hgs hgx
    go_wp2_with fail
    refine HSO.out.mono ?_
    rintro e w9 ⟨rfl, d', n', os', hperm, hsorted, rfl⟩
    have hsz : d'.size = (m.fsel t m.rk).length := by rw [hperm.1]; simp
    have hp1 : d'.toList.Perm (m.fsel t m.rk) := by
     have h1 : (d'.extract 0 (m.fsel t m.rk).length).toList = d'.toList := by rw [← hsz]; simp
     have h2 : ((m.fsel t m.rk).toArray.extract 0 (m.fsel t m.rk).length).toList = m.fsel t m.rk := by simp
     have := hperm.2.2
     rw [h1, h2] at this
     exact this
    have hps : ∀ i j, i < j → j < d'.toList.length → ∀ x y, d'.toList[i]? = some x → d'.toList[j]? = some y → ¬ m.ablN y < m.ablN x := fun i j hij hj x y hx hy hlt => by
     have hj' : j < d'.size := by simpa using hj
     have := hsorted i j (Nat.zero_le _) hij (by rw [← hsz]; exact hj')
     have e1 : d'[i]! = x := by
      rw [Array.getElem?_toList] at hx
      rw [getElem!_def, hx]
     have e2 : d'[j]! = y := by
      rw [Array.getElem?_toList] at hy
      rw [getElem!_def, hy]
     rw [e1, e2] at this
     simp only [Go.Proofs.ltOf, cmpN, hlt, if_true] at this
     simp at this
    have hrow9 := ownsRow_sortedI (n := n') (os := os') (ss := m.fsel t m.rk) (ts := d'.toList) (by simpa using hsz) HGB.out HGH.out HGC.out HGM.out HGS.out
    have hgr9 := grownBy_sortedI (w := W') (g := g) (n := n') (os := os') d'
    rw [show d'.toList.toArray = d' by simp] at hrow9
    have hf9 : Fr (fun i => some i = some g) W' (grow (putRow (Value.int .i64) (Sort.ahead W' n') g 0 d') os') := fr_grownG hgr9
    have hgne : ∀ i, i < w5.heap.size → ¬ some i = some g := fun i hi e => by
     injection e with e
     have := HGB.out
     omega
    have hD9 : (grow (putRow (Value.int .i64) (Sort.ahead W' n') g 0 d') os').heap[D]? = some (.deferred (some [])) := (hf9.block D (lt_of_heap HD6.out) fun e => by
     injection e with e
     subst e
     rw [HGH.out] at HD6
     cases HD6.out).trans HD6.out
    have HB9 := hide (HBL6.out.fr hf9 (hgne _ hgl))
    have HT9 := hide (HBT6.out.fr hf9 (hgne _ (by omega)))
    have HFN9 := hide (HFN.out.trans' hf9 fun i hi e => by
     injection e with e
     have := HGB.out
     have := HW2.out
     have := HW4.out
     omega)
    have HRW9 := hide hrow9
    have HD9 := hide hD9
    have HP9 := hide hp1
    have HS9 := hide hps
    have HSZ9 := hide hsz
    clear hrow9 hgr9 hf9 hD9 hp1 hps hperm hsorted hgne x0 xq y0 yq
    generalize grow (putRow (Value.int .i64) (Sort.ahead W' n') g 0 d') os' = w9 at *
    have x0 := HB9.out.cell 0
    simp only [lq1, lq3] at x0
    have xq := HB9.out.lt
    have y0 : w9.cell? ⟨gt, 0, none⟩ = some (.int .i64 t) := HT9.out.cell 0
    have yq := HT9.out.lt
    have HONE := hide (ref_one (lo := w9.heap.size) (Blk.new w9 22 #[.int .i64 t]) (Nat.le_refl _))
    have hr2 := owns_fr HRW9.out ((Fr.refl No w9).alloc (.cells #[.int .i64 t] 22)) fun _ _ h => h
    rw [← hsz, ← Array.length_toList] at hr2
    have HR2 := hide hr2
    have hle : ([t] : List Int).length + d'.toList.length ≤ 1000000000 := by
     have h2 : m.rk.length = m.th.length := by unfold Gm.rk; rw [List.length_map, Gm.refs_length]
     have h3 := HH.out.ok.len
     have h4 : (m.fsel t m.rk).length ≤ m.rk.length := by unfold Gm.fsel; rw [List.length_map]; exact List.length_filter_le _ _
     have hdl : d'.toList.length = (m.fsel t m.rk).length := Array.length_toList.trans hsz
     rw [hdl, List.length_cons, List.length_nil]
     omega
    rw [← hsz, ← Array.length_toList] at x0
    clear hr2 hsz
    go_wp2_with (at_builtin; refine wpList_app_refs _ (by rfl) _ _ (by rfl) w9.heap.size w5.heap.size (.slice (some ⟨w9.heap.size, 0, none⟩) 1 1) (.slice (some ⟨g, 0, none⟩) d'.toList.length c) [t] d'.toList (by rfl) (by rfl) HONE.out HR2.out hle (by simp) ?_; intro v' w10 hown hgr; have HOW := hide hown; have HGR := hide hgr; clear hown hgr x0 xq y0 yq)
    obtain ⟨hd, hpost⟩ := Of_end (m := m) (F := d'.toList) HFN9.out (Nat.le_of_lt HDW.out) HD9.out HOW.out HGR.out HP9.out HS9.out
    refine ⟨by simp, .inl ⟨_, _, rfl, run_takeDeferred hd, ?_⟩⟩
    refine ⟨.tuple #[v', .int .i64 0], by simp [results, Tryz.results75, go_sem], hpost⟩
end Go.Proofs.YtlejelbefmkakaaGreat

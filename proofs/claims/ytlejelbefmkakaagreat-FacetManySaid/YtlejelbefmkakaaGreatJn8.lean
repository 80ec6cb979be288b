/- Texts joined: Wo15, Wo16, Wo17, Wg4, Wg12, Gf3, Gf4, Gf5, Gq2, Gq3, Gq4. -/
import Derived.Test.YtlejelbefmkakaaGreatJn2
import Derived.Test.YtlejelbefmkakaaGreatJn4
import Derived.Test.YtlejelbefmkakaaGreatJn5
import Derived.Test.YtlejelbefmkakaaGreatJn7
import Derived.WalkMore
namespace Go.Proofs.YtlejelbefmkakaaGreat
open Go.RowKit
section
variable {m : Wm} {lo : Nat} {W : World}
def PairRes (m : Wm) (home lo : Nat) (W : World) (e : Ending) (w' : World) : Prop :=
 e = .returned (.tuple #[.int .i64 ((m.th.length : Int) + 1), .int .i64 ((m.th.length : Int) + 1 + 1), .int .i64 0]) ∧ ∃ (g1 g2 : Nat) (t1 t2 : T), t1.v = V.zero ∧ t2.v = V.zero ∧
  ((m.add g1 ⟨5, home, t1, 0, 0, 0, 0, 0, false⟩ home).add g2 ⟨6, home, t2, 0, 0, (m.th.length : Int) + 1, 0, 0, false⟩ home).Ok lo w' ∧ Fr m.B W w' ∧
  ∀ i, ((m.add g1 ⟨5, home, t1, 0, 0, 0, 0, 0, false⟩ home).add g2 ⟨6, home, t2, 0, 0, (m.th.length : Int) + 1, 0, 0, false⟩ home).B i → i < W.heap.size → m.B i
end
end Go.Proofs.YtlejelbefmkakaaGreat

namespace Go.Proofs.YtlejelbefmkakaaGreat
open Go.RowKit
section
variable {m : Wm} {lo : Nat} {W : World}
def SealRes (m : Wm) (home r : Int) (v : V) (s lo : Nat) (W : World) (e : Ending) (w' : World) : Prop :=
 e = .returned (.tuple #[.int .i64 ((m.th.length : Int) + 1), .int .i64 0]) ∧ ∃ (g : Nat) (t' : T), t'.v = v ∧ (m.add g ⟨7, home, t', 0, 0, r, 0, 0, false⟩ s).Ok lo w' ∧ Fr m.B W w' ∧ ∀ i, (m.add g ⟨7, home, t', 0, 0, r, 0, 0, false⟩ s).B i → i < W.heap.size → m.B i
end
end Go.Proofs.YtlejelbefmkakaaGreat

namespace Go.Proofs.YtlejelbefmkakaaGreat
open Go.RowKit
def WhatRes (x : Th) (W : World) (e : Ending) (w' : World) : Prop :=
 ∃ t' : T, e = .returned (.tuple #[Th.val ⟨x.kind, x.home, t', x.n, x.lost, x.ofr, x.byr, x.set, x.full⟩, .int .i64 0]) ∧ t'.v = x.v.v ∧ t'.Sh w' W.heap.size w'.heap.size ∧ Fr No W w'
end Go.Proofs.YtlejelbefmkakaaGreat

namespace Go.Proofs.YtlejelbefmkakaaGreat
open Go.RowKit
def Wm.put (m : Wm) (i : Nat) (x : Th) : Wm := { m with th := m.th.set i ((m.th.getD i (0, x)).1, x) }
theorem zero_of {t : T} {w : World} {lo hi : Nat} (h : t.Sh w lo hi) (hv : t.v = V.zero) : t = T.zero := by
 obtain ⟨k, n, s, A, cap, l, r⟩ := t
 obtain ⟨-, h1, -⟩ := T.sp_mk.1 h.sp
 rw [T.v_mk, V.zero] at hv
 injection hv with a b c d e
 have hl : l = [] := List.map_eq_nil_iff.1 d
 subst a b c hl e
 obtain ⟨rfl, rfl⟩ := h1 rfl
 rfl
section
variable {m : Wm} {lo : Nat} {W : World} {i g : Nat} {x x' : Th}
end
inductive Way (m : Wm) : Int → List Int → Prop where
 | none {r : Int} (h : m.get r = .none) : Way m r []
 | base {r : Int} {y : Nat × Th} (h : m.get r = some y) (hk : y.2.kind ≠ 14 ∧ y.2.kind ≠ 15 ∧ y.2.kind ≠ 16) : Way m r [r]
 | wrap {r : Int} {y : Nat × Th} {l : List Int} (h : m.get r = some y) (hk : y.2.kind = 14 ∨ y.2.kind = 15 ∨ y.2.kind = 16) (hl : Way m y.2.ofr l) : Way m r (r :: l)
end Go.Proofs.YtlejelbefmkakaaGreat

namespace Go.Proofs.YtlejelbefmkakaaGreat
open Go.RowKit
def lenOf : Value → Nat
 | .slice _ n _ => n
 | _ => 0
def wrapsB (k : Int) : Bool := decide (k = 14 ∨ k = 15 ∨ k = 16)
end Go.Proofs.YtlejelbefmkakaaGreat

namespace Go.Proofs.YtlejelbefmkakaaGreat
open Go.RowKit
inductive Gm.Hgt (m : Gm) : Int → Nat → Prop
 | base {r : Int} {x : Nat × Tg} (h : m.get r = some x) (hk : x.2.kind ≠ 14 ∧ x.2.kind ≠ 15 ∧ x.2.kind ≠ 16) : Gm.Hgt m r 0
 | wrap {r : Int} {x : Nat × Tg} {n : Nat} (h : m.get r = some x) (hk : x.2.kind = 14 ∨ x.2.kind = 15 ∨ x.2.kind = 16) (hl : Gm.Hgt m x.2.ofr n) : Gm.Hgt m r (n + 1)
theorem Gm.Hgt.uniq {m : Gm} {r : Int} {a : Nat} (h : m.Hgt r a) : ∀ {b : Nat}, m.Hgt r b → a = b := by
 induction h with
 | base h hk =>
  intro b hb
  cases hb with
  | base h' _ => rfl
  | wrap h' hk' _ => rw [h] at h'; cases h'; rcases hk' with e | e | e <;> simp [e] at hk
 | wrap h hk hl ih =>
  intro b hb
  cases hb with
  | base h' hk' => rw [h] at h'; cases h'; rcases hk with e | e | e <;> simp [e] at hk'
  | wrap h' hk' hl' => rw [h] at h'; cases h'; rw [ih hl']
theorem Gm.Abl.hgt {m : Gm} {r : Int} {a : Nat} (h : m.Abl r a) : ∃ n, m.Hgt r n := by
 induction h with
 | base h hk => exact ⟨0, .base h hk⟩
 | facet h hk hs ha ih => obtain ⟨n, hn⟩ := ih; exact ⟨n + 1, .wrap h (.inl hk) hn⟩
 | pass h hk ha ih => obtain ⟨n, hn⟩ := ih; exact ⟨n + 1, .wrap h (.inr hk) hn⟩
noncomputable def Gm.hgt (m : Gm) (r : Int) : Nat := Classical.epsilon (m.Hgt r)
theorem Gm.hgt_eq {m : Gm} {r : Int} {n : Nat} (h : m.Hgt r n) : m.hgt r = n := (Classical.epsilon_spec (⟨n, h⟩ : ∃ n, m.Hgt r n)).uniq h
theorem gbox_at {W : World} {b : Nat} {x : Tg} {t : TypeId} (h : Blk W b t x.cells.toArray) : W.cell? ⟨b, 0, none⟩ = some (.int .u8 x.kind) ∧ W.cell? ⟨b, 1, none⟩ = some (.int .i64 x.home) ∧ W.cell? ⟨b, 10, none⟩ = some (.int .i64 x.ofr) ∧ W.cell? ⟨b, 11, none⟩ = some (.int .i64 x.byr) ∧ W.cell? ⟨b, 12, none⟩ = some (.int .u8 x.set) ∧ W.cell? ⟨b, 13, none⟩ = some (.bool x.full) := by
 obtain ⟨kind, home, ⟨k, n, s, A, cap, l, r⟩, VA, vc, vs, n1, lost, ofr, byr, set, full, CA, cc, code, NA, nc, names⟩ := x
 exact ⟨h.cell 0, h.cell 1, h.cell 10, h.cell 11, h.cell 12, h.cell 13⟩
theorem gmap_cell {m : Gm} {lo : Nat} {W : World} (h : m.Ok lo W) : W.cell? ⟨m.wb, 2, none⟩ = some (.map (some m.M)) := by
 have c0 := h.blk.cell 2
 simpa only [Gm.cells, List.getElem?_toArray, List.getElem?_cons_zero, List.getElem?_cons_succ] using c0
set_option maxRecDepth 100000 in
set_option maxHeartbeats 4000000 in
theorem Able_w {m : Gm} {lo : Nat} {W : World} (h : m.Ok lo W) {r : Int} {a : Nat} (ha : m.Abl r a) : Calls Tryz.prog 79 #[.pointer (some ⟨m.wb, 0, none⟩), .int .i64 r] W fun e w' => e = .returned (.int .u8 (a : Int)) ∧ Fr No W w' := by
 have HOK := hide h
 have HA := hide ha
 clear h ha
 go_enter Tryz.func79, Tryz.ntmps79
 go_wp2_with fail
 go_step3
 go_wp2_with fail
 go_step3
 go_wp2_with fail
 go_loopw [1, 5] (fun x sv wr => ∃ (rr : Int) (s b : Nat), x = .int .i64 rr ∧ sv = .int .u8 (s : Int) ∧ s < 64 ∧ m.Abl rr b ∧ s &&& b = a ∧ Fr No W wr) (fun x _ _ => m.hgt (intOf x))
 case atStart => exact ⟨r, 63, a, rfl, rfl, by decide, HA.out, and63 HA.out.lt, Fr.refl _ _⟩
 case round =>
  obtain ⟨rr, s, b, rfl, rfl, hs, hab, hsb, f⟩ := hrel
  have hok := HOK.out.no f
  have hI := gIs_w hok rr
  have hl := gook_thing hok rr
  have x2 := gmap_cell hok
  have xq := hok.blk.lt
  have HF := hide f
  cases hab with
  | base hg hk =>
   rename_i y
   obtain ⟨d0, -, -, -, -, -⟩ := gbox_at (hok.box _ (Gm.get_mem hg))
   have dq := (hok.box _ (Gm.get_mem hg)).lt
   rw [hg] at hI hl
   simp only [Option.map_some] at hl
   have hc := fun W' => can_w y.2.kind W'
   have k14 : (y.2.kind == 14) = false := by simpa using hk.1
   have k15 : (y.2.kind == 15) = false := by simpa using hk.2.1
   have k16 : (y.2.kind == 16) = false := by simpa using hk.2.2
   have HI := hide hI
   have HC := hide hc
   have hlt := canN_lt y.2.kind
   have HLT := hide hlt
   have HSB := hide hsb
   have HS := hide hs
   generalize canN y.2.kind = cn at *
   generalize y.2.kind = kd at *
   clear hok hI hc f hk hg hlt hsb hs
   go_wp2_with fail
   refine HI.out.mono ?_
   rintro e w' ⟨rfl, rfl⟩
   go_wp2_with fail
   refine (HC.out w').mono ?_
   rintro e w1 ⟨rfl, f1⟩
   have hb := Blk.new w1 24 #[.int .u8 (s : Int), .int .u8 (cn : Int)]
   have hm := Meet2_w HS.out (Nat.lt_trans HLT.out (by decide)) (hb.cell 0) (hb.cell 1) hb.lt
   have HM := hide hm
   have HF1 := hide ((HF.out.trans f1).alloc (.cells #[.int .u8 (s : Int), .int .u8 (cn : Int)] 24))
   clear hb hm f1
   go_wp2_with fail
   refine HM.out.mono ?_
   rintro e w2 ⟨rfl, rfl⟩
   go_wp2
   rw [Exit.noGoto_ret]
   go_ret
   refine ⟨?_, HF1.out⟩
   rw [← HSB.out]
   rfl
  | facet hg hk hst ha' =>
   rename_i y t b'
   obtain ⟨d0, -, d10, -, d12, -⟩ := gbox_at (hok.box _ (Gm.get_mem hg))
   have dq := (hok.box _ (Gm.get_mem hg)).lt
   rw [hk] at d0
   rw [hst] at d12
   rw [hg] at hI hl
   simp only [Option.map_some] at hl
   have HI := hide hI
   have HOK1 := hide hok
   have HG := hide hg
   have HK := hide hk
   have HA' := hide ha'
   have HSB := hide hsb
   have HS := hide hs
   have ht : t < 256 := by
    have := (hok.st _ (Gm.get_mem hg)).inn.fit.set
    simp only at this
    rw [hst] at this
    omega
   clear hok hI f hk hg ha' hsb hs
   go_wp2_with fail
   refine HI.out.mono ?_
   rintro e w' ⟨rfl, rfl⟩
   have hb := Blk.new w' 24 #[.int .u8 (s : Int), .int .u8 (t : Int)]
   have hm := Meet2_w HS.out ht (hb.cell 0) (hb.cell 1) hb.lt
   have hf1 := (Fr.refl No w').alloc (.cells #[.int .u8 (s : Int), .int .u8 (t : Int)] 24)
   have e10 := (hf1.cell dq fun h => h).trans d10
   have eq1 := Nat.lt_of_lt_of_le dq hf1.size
   have HM := hide hm
   have HF1 := hide (HF.out.trans hf1)
   clear hb hm hf1
   go_wp2_with fail
   refine HM.out.mono ?_
   rintro e w2 ⟨rfl, rfl⟩
   go_wp2
   go_roundw
   case rel =>
    exact ⟨y.2.ofr, s &&& t, b', rfl, rfl, and_lt HS.out, HA'.out, by rw [Nat.and_assoc]; exact HSB.out, HF1.out⟩
   case measure =>
    obtain ⟨n, hn⟩ := HA'.out.hgt
    have e1 := Gm.hgt_eq hn
    have e2 := Gm.hgt_eq (Gm.Hgt.wrap HG.out (.inl HK.out) hn)
    simp [intOf, e1, e2]
  | pass hg hk ha' =>
   rename_i y
   obtain ⟨d0, -, d10, -, -, -⟩ := gbox_at (hok.box _ (Gm.get_mem hg))
   have dq := (hok.box _ (Gm.get_mem hg)).lt
   rw [hg] at hI hl
   simp only [Option.map_some] at hl
   have HI := hide hI
   have HG := hide hg
   have HK := hide hk
   have HA' := hide ha'
   have HSB := hide hsb
   have HS := hide hs
   have hmeas : m.hgt y.2.ofr < m.hgt rr := by
    obtain ⟨n, hn⟩ := ha'.hgt
    rw [Gm.hgt_eq hn, Gm.hgt_eq (Gm.Hgt.wrap hg (.inr hk) hn)]
    omega
   have HME := hide hmeas
   clear hok hI f hg ha' hsb hs hmeas
   rcases hk with hk | hk
   all_goals
    rw [hk] at d0
    clear hk
    go_wp2_with fail
    refine HI.out.mono ?_
    rintro e w' ⟨rfl, rfl⟩
    go_wp2
    go_roundw
    case rel => exact ⟨y.2.ofr, s, b, rfl, rfl, HS.out, HA'.out, HSB.out, HF.out⟩
    case measure =>
     have := HME.out
     simpa [intOf] using this
end Go.Proofs.YtlejelbefmkakaaGreat

namespace Go.Proofs.YtlejelbefmkakaaGreat
open Go.RowKit
theorem key_eq (a s b t : Int) (w : World) : (Op.equal 254 (.agg #[.int .i64 a, .int .u8 s]) (.agg #[.int .i64 b, .int .u8 t])).run Tryz.prog w = .ok (decide (a = b ∧ s = t)) w := by
 by_cases h1 : a = b
 · subst h1
   by_cases h2 : s = t
   · subst h2
     simp [Op.equal, Op.maxDepth, go_sem]
   · have e2 : (s == t) = false := by simpa using h2
     simp [Op.equal, Op.maxDepth, go_sem, h2, e2]
 · have e1 : (a == b) = false := by simpa using h1
   simp [Op.equal, Op.maxDepth, go_sem, h1, e1]
theorem fkey_check (e : Bool) (a s : Int) (w : World) : (Instr.checkKey e 10000 254 (.agg #[.int .i64 a, .int .u8 s])).run Tryz.prog w = .ok () w := by
 have : ∀ d, (Instr.checkKey e (d + 2) 254 (.agg #[.int .i64 a, .int .u8 s])).run Tryz.prog w = .ok () w := fun d => by simp [Instr.checkKey, go_sem]
 exact this 9998
theorem fask_none {a s : Int} {w : World} : ∀ {es : List MapEntry} {i : Nat}, (∀ e ∈ es, ∃ b t : Int, e.key = .agg #[.int .i64 b, .int .u8 t] ∧ ¬ (a = b ∧ s = t)) → (Instr.findAsking 254 (.agg #[.int .i64 a, .int .u8 s]) es i).run Tryz.prog w = .ok none w
 | [], _, _ => rfl
 | e :: es, i, h => by
  obtain ⟨b, t, hk, hne⟩ := h e (by simp)
  unfold Instr.findAsking
  simp only [Sem.run_bind, hk, key_eq, Result.andThen_ok, decide_eq_false hne, Bool.false_eq_true, if_false]
  exact fask_none fun e he => h e (by simp [he])
theorem fask_some {a s : Int} {w : World} : ∀ {es : List MapEntry} {i j : Nat} {e : MapEntry}, es[j]? = some e → e.key = .agg #[.int .i64 a, .int .u8 s] → (∀ k e', k < j → es[k]? = some e' → ∃ b t : Int, e'.key = .agg #[.int .i64 b, .int .u8 t] ∧ ¬ (a = b ∧ s = t)) →
 (Instr.findAsking 254 (.agg #[.int .i64 a, .int .u8 s]) es i).run Tryz.prog w = .ok (some (i + j, e.val)) w
 | [], _, j, e, h, _, _ => by simp at h
 | e0 :: es, i, 0, e, h, hk, _ => by
  simp at h; subst h
  unfold Instr.findAsking
  simp [Sem.run_bind, hk, key_eq]
 | e0 :: es, i, j + 1, e, h, hk, hb => by
  obtain ⟨b, t, hkk, hne⟩ := hb 0 e0 (by omega) rfl
  unfold Instr.findAsking
  simp only [Sem.run_bind, hkk, key_eq, Result.andThen_ok, decide_eq_false hne, Bool.false_eq_true, if_false]
  have := fask_some (w := w) (i := i + 1) (j := j) (e := e) (es := es) (by simpa using h) hk (fun k e' hk' he' => hb (k + 1) e' (by omega) (by simpa using he'))
  rw [show i + (j + 1) = i + 1 + j from by omega]
  exact this
theorem fkey_struct : ∃ fs, Tryz.prog.underlying 254 = some (.struct fs) := ⟨_, Tryz.underlying254⟩
theorem fnow {a s : Int} {fs : Array Field} : ∀ {es : List MapEntry}, Instr.findNow (.struct fs) (.agg #[.int .i64 a, .int .u8 s]) es 0 = if es = [] then some none else none
 | [] => rfl
 | e :: es => by
  unfold Instr.findNow
  simp [Instr.sameNow]
theorem ffind_none {a s : Int} {w : World} {es : List MapEntry} (h : ∀ e ∈ es, ∃ b t : Int, e.key = .agg #[.int .i64 b, .int .u8 t] ∧ ¬ (a = b ∧ s = t)) : (Instr.findKey 254 (.agg #[.int .i64 a, .int .u8 s]) es).run Tryz.prog w = .ok none w := by
 unfold Instr.findKey
 obtain ⟨fs, hfs⟩ := fkey_struct
 simp only [Sem.run_bind, run_underlying hfs, Result.andThen_ok, fnow]
 by_cases he : es = []
 · subst he; rfl
 · rw [if_neg he]
   exact fask_none h
theorem ffind_some {a s : Int} {w : World} {es : List MapEntry} {j : Nat} {e : MapEntry} (hj : es[j]? = some e) (hk : e.key = .agg #[.int .i64 a, .int .u8 s]) (hb : ∀ k e', k < j → es[k]? = some e' → ∃ b t : Int, e'.key = .agg #[.int .i64 b, .int .u8 t] ∧ ¬ (a = b ∧ s = t)) :
 (Instr.findKey 254 (.agg #[.int .i64 a, .int .u8 s]) es).run Tryz.prog w = .ok (some (j, e.val)) w := by
 unfold Instr.findKey
 obtain ⟨fs, hfs⟩ := fkey_struct
 simp only [Sem.run_bind, run_underlying hfs, Result.andThen_ok, fnow]
 have he : es ≠ [] := by rintro rfl; simp at hj
 rw [if_neg he]
 have := fask_some (w := w) (i := 0) hj hk hb
 simpa using this
def Gm.fget (m : Gm) (t s : Int) : Option Int := (m.fac.find? fun f => f.1 == t && f.2.1 == s).map fun f => f.2.2
theorem Gm.fget_none {m : Gm} {t s : Int} (h : m.fget t s = none) : ∀ x ∈ m.fac, ¬ (t = x.1 ∧ s = x.2.1) := by
 unfold Gm.fget at h
 rw [Option.map_eq_none_iff, List.find?_eq_none] at h
 rintro x hx ⟨rfl, rfl⟩
 exact h x hx (by simp)
theorem Gm.fget_some {m : Gm} {t s r : Int} (h : m.fget t s = some r) : ∃ j, m.fac[j]? = some (t, s, r) ∧ ∀ (k : Nat) (x : Int × Int × Int), k < j → m.fac[k]? = some x → ¬ (t = x.1 ∧ s = x.2.1) := by
 have h := (show (m.fac.find? fun f => f.1 == t && f.2.1 == s).map (fun f => f.2.2) = some r from h)
 obtain ⟨f, hf, rfl⟩ := Option.map_eq_some_iff.1 h
 obtain ⟨hp, l1, l2, hl, hno⟩ := List.find?_eq_some_iff_append.1 hf
 obtain ⟨a, b, c⟩ := f
 have hp2 : a = t ∧ b = s := by simpa using hp
 obtain ⟨rfl, rfl⟩ := hp2
 refine ⟨l1.length, by rw [hl]; simp, fun k x hk hx => ?_⟩
 rw [hl, List.getElem?_append_left hk] at hx
 have := hno x (List.mem_of_getElem? hx)
 rintro ⟨h1, h2⟩
 simp [h1, h2] at this
theorem fac_key {es : List MapEntry} {l : List (Int × Int × Int)} (h : FacAre es l) {k : Nat} {e : MapEntry} (he : es[k]? = some e) : ∃ x, l[k]? = some x ∧ e.key = .agg #[.int .i64 x.1, .int .u8 x.2.1] ∧ e.val = .int .i64 x.2.2 := by
 have hk : k < l.length := by rw [← h.1]; exact (List.getElem?_eq_some_iff.1 he).1
 exact ⟨l[k], List.getElem?_eq_getElem hk, h.2 k e _ he (List.getElem?_eq_getElem hk)⟩
def Gm.findV (m : Gm) (t s : Int) : Value := match m.fget t s with
 | some r => .tuple #[.int .i64 r, .bool true]
 | none => .tuple #[.int .i64 0, .bool false]
set_option maxRecDepth 100000 in
theorem look_fac {m : Gm} {lo : Nat} {W : World} (h : m.Ok lo W) (t s : Int) : (Instr.lookup 35 (.map (some m.F)) (.agg #[.int .i64 t, .int .u8 s]) true).run Tryz.prog W = .ok (m.findV t s) W := by
 obtain ⟨es, cl, hm, he, -⟩ := h.facets
 have hz : (zeroValue 22).run Tryz.prog W = .ok (.int .i64 0) W := by rfl
 unfold Gm.findV Instr.lookup
 cases hg : m.fget t s with
 | none =>
  have hn := Gm.fget_none hg
  have hf := ffind_none (w := W) (a := t) (s := s) (es := es.toList) fun e hme => by
   obtain ⟨i, hi, rfl⟩ := List.mem_iff_getElem.1 hme
   obtain ⟨x, hx, hk, -⟩ := fac_key he (List.getElem?_eq_getElem hi)
   exact ⟨_, _, hk, hn x (List.mem_of_getElem? hx)⟩
  simp [run_underlying Tryz.underlying35, get_map hm, fkey_check, hf, Result.andThen, hz]
 | some r =>
  obtain ⟨j, hj, hb⟩ := Gm.fget_some hg
  have hjl : j < es.toList.length := by rw [he.1]; exact (List.getElem?_eq_some_iff.1 hj).1
  obtain ⟨hk, hv⟩ := he.2 j _ _ (List.getElem?_eq_getElem hjl) hj
  have hf := ffind_some (w := W) (a := t) (s := s) (es := es.toList) (List.getElem?_eq_getElem hjl) hk fun k e' hkj hek => by
   obtain ⟨x, hx, hk', -⟩ := fac_key he hek
   exact ⟨_, _, hk', hb k x hkj hx⟩
  simp [run_underlying Tryz.underlying35, get_map hm, fkey_check, hf, Result.andThen]
  simpa using hv
theorem gfac_cell {m : Gm} {lo : Nat} {W : World} (h : m.Ok lo W) : W.cell? ⟨m.wb, 3, none⟩ = some (.map (some m.F)) := by
 have c0 := h.blk.cell 3
 simpa only [Gm.cells, List.getElem?_toArray, List.getElem?_cons_zero, List.getElem?_cons_succ] using c0
theorem gFind_w {m : Gm} {lo : Nat} {W : World} (h : m.Ok lo W) (t s : Int) : Calls Tryz.prog 141 #[.pointer (some ⟨m.wb, 0, none⟩), .int .i64 t, .int .u8 s] W fun e w' => e = .returned (m.findV t s) ∧ w' = W := by
 have hN := gnone_w h
 have hl := look_fac h t s
 have c0 := gfac_cell h
 have hq := h.blk.lt
 clear h
 unfold Gm.findV at hl ⊢
 cases hg : m.fget t s with
 | none =>
  rw [hg] at hl
  simp only at hl
  go_enter Tryz.func141, Tryz.ntmps141
  go_wp2_with fail
  refine hN.mono ?_
  rintro e w' ⟨rfl, rfl⟩
  go_wp2
  go_ret2
  exact ⟨rfl, rfl⟩
 | some r =>
  rw [hg] at hl
  simp only at hl
  go_enter Tryz.func141, Tryz.ntmps141
  go_wp2_with fail
  refine hN.mono ?_
  rintro e w' ⟨rfl, rfl⟩
  go_wp2
  go_ret2
  exact ⟨rfl, rfl⟩
end Go.Proofs.YtlejelbefmkakaaGreat

namespace Go.Proofs.YtlejelbefmkakaaGreat
open Go.RowKit
section
variable {m : Gm} {lo : Nat} {W : World}
theorem Gm.Ok.others (h : m.Ok lo W) : ∀ i, ((Value.slice m.P m.par.length m.pc).ownBlock = some i ∨ (Value.slice m.C m.cut.length m.cc).ownBlock = some i ∨ (Value.slice m.D m.made.length m.dc).ownBlock = some i ∨ ∃ x ∈ m.th, i = x.2.1 ∨ x.2.2.Has i) → i ≠ m.wb ∧ i ≠ m.M ∧ i ≠ m.F := by
 obtain ⟨es, cl, hm, -⟩ := h.things
 obtain ⟨ef, cf, hf, -⟩ := h.facets
 rintro i (hi | hi | hi | ⟨x, hx, rfl | hi⟩)
 · obtain ⟨cs, hb⟩ := owns_typed h.par hi
   exact ⟨Blk.ne_ hb h.blk (by decide), map_ne_blk hm hb, map_ne_blk hf hb⟩
 · obtain ⟨cs, hb⟩ := owns_typed h.cut hi
   exact ⟨Blk.ne_ hb h.blk (by decide), map_ne_blk hm hb, map_ne_blk hf hb⟩
 · obtain ⟨cs, hb⟩ := owns_typed h.made hi
   exact ⟨Blk.ne_ hb h.blk (by decide), map_ne_blk hm hb, map_ne_blk hf hb⟩
 · have hb := h.box x hx
   exact ⟨Blk.ne_ hb h.blk (by decide), map_ne_blk hm hb, map_ne_blk hf hb⟩
 · obtain ⟨e, cs, he, hb⟩ := (h.st x hx).ty hi
   refine ⟨?_, map_ne_blk hm hb, map_ne_blk hf hb⟩
   rcases he with rfl | rfl | rfl | rfl | rfl <;> exact Blk.ne_ hb h.blk (by decide)
theorem Gm.Ok.wbs (h : m.Ok lo W) : m.wb ≠ m.M ∧ m.wb ≠ m.F := by
 obtain ⟨es, cl, hm, -⟩ := h.things
 obtain ⟨ef, cf, hf, -⟩ := h.facets
 exact ⟨map_ne_blk hm h.blk, map_ne_blk hf h.blk⟩
theorem stm_push {es : Array MapEntry} {cl : Nat} {k v : Value} (h : Stm es.toList cl) : Stm (es.push { key := k, val := v, born := cl }).toList (cl + 1) := by
 refine ⟨fun y hy => ?_, ?_⟩
 · simp only [Array.toList_push, List.mem_append, List.mem_singleton] at hy
   rcases hy with hy | rfl
   · have := h.1 y hy; omega
   · exact Nat.lt_succ_self _
 · simp only [Array.toList_push, List.map_append, List.map_cons, List.map_nil]
   refine List.nodup_append.2 ⟨h.2, by simp, fun a ha b' hb' => ?_⟩
   simp only [List.mem_singleton] at hb'
   subst hb'
   obtain ⟨y, hy, rfl⟩ := List.mem_map.1 ha
   have := h.1 y hy
   omega
theorem gok_lay1 (h : m.Ok lo W) {r : Int} {g : Nat} {x : Tg} {W2 : World} (f : Fr (fun i => i = m.wb ∨ i = m.M) W W2) (hg : W.heap.size ≤ g) (hlo : lo ≤ W.heap.size) (hr : ∀ y ∈ m.th, y.1 ≠ r) (hx : Blk W2 g 138 x.cells.toArray) (hv : x.St W2 lo) (hlen : m.th.length < 1000000)
 (hb : Blk W2 m.wb 38 ({ m with last := r, th := m.th ++ [(r, g, x)] } : Gm).cells) {es : Array MapEntry} {cl : Nat} (hm0 : W.heap[m.M]? = some (.map es cl)) (hm : W2.heap[m.M]? = some (.map (es.push { key := .int .i64 r, val := .pointer (some ⟨g, 0, none⟩), born := cl }) (cl + 1))) :
 ({ m with last := r, th := m.th ++ [(r, g, x)] } : Gm).Ok lo W2 := by
 obtain ⟨es', cl', hm', he, hst⟩ := h.things
 rw [hm0] at hm'
 injection hm' with hm'
 injection hm' with e1 e2
 subst e1 e2
 obtain ⟨ef, cf, hf, hfe⟩ := h.facets
 have ho := h.others
 have hs : ∀ i, ((Value.slice m.P m.par.length m.pc).ownBlock = some i ∨ (Value.slice m.C m.cut.length m.cc).ownBlock = some i ∨ (Value.slice m.D m.made.length m.dc).ownBlock = some i ∨ ∃ x ∈ m.th, i = x.2.1 ∨ x.2.2.Has i) → ¬ (i = m.wb ∨ i = m.M) := fun i hi hh => hh.elim (ho i hi).1 (ho i hi).2.1
 refine ⟨hb, ⟨_, _, hm, ⟨by simp [he.1], fun i e y hei hyi => ?_⟩, stm_push hst⟩, ⟨ef, cf, (f.block _ (lt_of_heap hf) fun hh => ?_).trans hf, hfe⟩, owns_fr h.par f fun q hq => hs q (.inl hq), owns_fr h.cut f fun q hq => hs q (.inr (.inl hq)), owns_fr h.made f fun q hq => hs q (.inr (.inr (.inl hq))),
  fun y hy => ?_, fun y hy => ?_, ⟨h.lo0.1, h.lo0.2.1, h.lo0.2.2.1, fun y hy => ?_⟩, h.mf, ?_, ?_, by simp; omega, h.fkeys, h.flen, h.sides⟩
 · simp only [Array.toList_push] at hei
   rcases Nat.lt_trichotomy i m.th.length with hi | rfl | hi
   · rw [List.getElem?_append_left (by rw [he.1]; exact hi)] at hei
     simp only [List.getElem?_append_left hi] at hyi
     exact he.2 i e y hei hyi
   · rw [← he.1, List.getElem?_append_right (Nat.le_refl _), Nat.sub_self] at hei
     simp at hei hyi
     subst hei hyi
     exact ⟨rfl, rfl⟩
   · simp only at hyi
     rw [List.getElem?_eq_none (by simp; omega)] at hyi
     cases hyi
 · rcases hh with hh | hh
   · exact h.wbs.2 hh.symm
   · exact h.mf hh.symm
 · rcases List.mem_append.1 hy with hy | hy
   · exact (h.box y hy).fr f (hs _ (.inr (.inr (.inr ⟨y, hy, .inl rfl⟩))))
   · simp only [List.mem_singleton] at hy
     subst hy
     exact hx
 · rcases List.mem_append.1 hy with hy | hy
   · exact (h.st y hy).fr f fun b hb => hs b (.inr (.inr (.inr ⟨y, hy, .inr hb⟩)))
   · simp only [List.mem_singleton] at hy
     subst hy
     exact hv
 · rcases List.mem_append.1 hy with hy | hy
   · exact h.lo0.2.2.2 y hy
   · simp only [List.mem_singleton] at hy
     subst hy
     show lo ≤ g
     omega
 · rw [List.map_append]
   refine List.nodup_append.2 ⟨h.keys, by simp, fun a ha b' hb' => ?_⟩
   simp only [List.map_cons, List.map_nil, List.mem_singleton] at hb'
   subst hb'
   obtain ⟨y, hy, rfl⟩ := List.mem_map.1 ha
   exact hr y hy
 · refine List.pairwise_append.2 ⟨h.dist, by simp, fun a ha b' hb' => ?_⟩
   simp only [List.mem_singleton] at hb'
   subst hb'
   have := (h.box a ha).lt
   show a.2.1 ≠ g
   omega
theorem gok_fac (h : m.Ok lo W) {t s r : Int} {W2 : World} (f : Fr (fun i => i = m.F) W W2) (hn : m.fget t s = none) (hlen : m.fac.length < 1000000) {es : Array MapEntry} {cl : Nat} (hm0 : W.heap[m.F]? = some (.map es cl))
 (hm : W2.heap[m.F]? = some (.map (es.push { key := .agg #[.int .i64 t, .int .u8 s], val := .int .i64 r, born := cl }) (cl + 1))) :
 ({ m with fac := m.fac ++ [(t, s, r)] } : Gm).Ok lo W2 := by
 obtain ⟨es', cl', hm', he, hst⟩ := h.facets
 rw [hm0] at hm'
 injection hm' with hm'
 injection hm' with e1 e2
 subst e1 e2
 obtain ⟨et, ct, ht, hte⟩ := h.things
 have ho := h.others
 have hs : ∀ i, ((Value.slice m.P m.par.length m.pc).ownBlock = some i ∨ (Value.slice m.C m.cut.length m.cc).ownBlock = some i ∨ (Value.slice m.D m.made.length m.dc).ownBlock = some i ∨ ∃ x ∈ m.th, i = x.2.1 ∨ x.2.2.Has i) → ¬ (i = m.F) := fun i hi => (ho i hi).2.2
 refine ⟨h.blk.fr f h.wbs.2, ⟨et, ct, (f.block _ (lt_of_heap ht) h.mf).trans ht, hte⟩, ⟨_, _, hm, ⟨by simp [he.1], fun i e y hei hyi => ?_⟩, stm_push hst⟩, owns_fr h.par f fun q hq => hs q (.inl hq), owns_fr h.cut f fun q hq => hs q (.inr (.inl hq)), owns_fr h.made f fun q hq => hs q (.inr (.inr (.inl hq))),
  fun y hy => (h.box y hy).fr f (hs _ (.inr (.inr (.inr ⟨y, hy, .inl rfl⟩)))), fun y hy => (h.st y hy).fr f fun b hb => hs b (.inr (.inr (.inr ⟨y, hy, .inr hb⟩))), h.lo0, h.mf, h.keys, h.dist, h.len, ?_, by simp; omega, h.sides⟩
 · simp only [Array.toList_push] at hei
   rcases Nat.lt_trichotomy i m.fac.length with hi | rfl | hi
   · rw [List.getElem?_append_left (by rw [he.1]; exact hi)] at hei
     simp only [List.getElem?_append_left hi] at hyi
     exact he.2 i e y hei hyi
   · rw [← he.1, List.getElem?_append_right (Nat.le_refl _), Nat.sub_self] at hei
     simp at hei hyi
     subst hei hyi
     exact ⟨rfl, rfl⟩
   · simp only at hyi
     rw [List.getElem?_eq_none (by simp; omega)] at hyi
     cases hyi
 · rw [List.map_append]
   refine List.nodup_append.2 ⟨h.fkeys, by simp, fun a ha b' hb' => ?_⟩
   simp only [List.map_cons, List.map_nil, List.mem_singleton] at hb'
   subst hb'
   obtain ⟨y, hy, rfl⟩ := List.mem_map.1 ha
   intro hh
   simp only [Prod.mk.injEq] at hh
   exact Gm.fget_none hn y hy ⟨hh.1.symm, hh.2.symm⟩
theorem update_fac {w : World} {es : Array MapEntry} {cl : Nat} (t s r : Int) (_h : m.Ok lo W) (hn : m.fget t s = none) (hm0 : w.heap[m.F]? = some (.map es cl)) (he : FacAre es.toList m.fac) :
 (Instr.mapUpdate 35 (.map (some m.F)) (.agg #[.int .i64 t, .int .u8 s]) (.int .i64 r)).run Tryz.prog w = .ok () (w.putObj m.F (.map (es.push { key := .agg #[.int .i64 t, .int .u8 s], val := .int .i64 r, born := cl }) (cl + 1))) := by
 have hf := ffind_none (w := w) (a := t) (s := s) (es := es.toList) fun e hme => by
  obtain ⟨i, hi, rfl⟩ := List.mem_iff_getElem.1 hme
  obtain ⟨x, hx, hk, -⟩ := fac_key he (List.getElem?_eq_getElem hi)
  exact ⟨_, _, hk, Gm.fget_none hn x (List.mem_of_getElem? hx)⟩
 unfold Instr.mapUpdate
 simp only [Sem.run_bind, run_underlying Tryz.underlying35, Result.andThen_ok, get_map hm0, fkey_check, hf, set_map _ hm0]
set_option maxRecDepth 100000 in
set_option maxHeartbeats 4000000 in
theorem index_g (h : m.Ok lo W) {r t s : Int} {x : Nat × Tg} (hg : m.get r = some x) (hk : x.2.kind = 14) (ht : x.2.ofr = t) (hs : x.2.set = s) (hn : m.fget t s = none) (hlen : m.fac.length < 1000000) :
 Calls Tryz.prog 193 #[.pointer (some ⟨m.wb, 0, none⟩), .int .i64 r] W fun e w' => (∃ v, e = .returned v) ∧ ({ m with fac := m.fac ++ [(t, s, r)] } : Gm).Ok lo w' ∧ Fr (fun i => i = m.F) W w' := by
 obtain ⟨es, cl, hm0, he, hst⟩ := h.facets
 obtain ⟨d0, -, d10, -, d12, -⟩ := gbox_at (h.box _ (Gm.get_mem hg))
 rw [hk] at d0
 rw [ht] at d10
 rw [hs] at d12
 have dq := (h.box _ (Gm.get_mem hg)).lt
 have hl := gook_thing h r
 rw [hg] at hl
 simp only [Option.map_some] at hl
 have c2 := gmap_cell h
 have c3 := gfac_cell h
 have cq := h.blk.lt
 have hu := update_fac (w := W.drew) t s r h hn hm0 he
 have hfin : ({ m with fac := m.fac ++ [(t, s, r)] } : Gm).Ok lo (W.drew.putObj m.F (.map (es.push { key := .agg #[.int .i64 t, .int .u8 s], val := .int .i64 r, born := cl }) (cl + 1))) ∧ Fr (fun i => i = m.F) W (W.drew.putObj m.F (.map (es.push { key := .agg #[.int .i64 t, .int .u8 s], val := .int .i64 r, born := cl }) (cl + 1))) := by
  have f : Fr (fun i => i = m.F) W (W.drew.putObj m.F (.map (es.push { key := .agg #[.int .i64 t, .int .u8 s], val := .int .i64 r, born := cl }) (cl + 1))) := ((Fr.refl _ W).drew).trans (fr_putObj _ _ _)
  refine ⟨gok_fac h f hn hlen hm0 ?_, f⟩
  have hlt : m.F < W.drew.heap.size := lt_of_heap hm0
  show (W.drew.heap.setIfInBounds m.F _)[m.F]? = _
  rw [Array.getElem?_setIfInBounds, if_pos rfl, if_pos hlt]
 have HF := hide hfin
 clear hfin h hg hn hlen hst he hm0 hk ht hs
 go_enter Tryz.func193, Tryz.ntmps193
 go_upto_region 2 with (fail)
 go_region
 all_goals
  go_simp
  go_wp2_with fail
  go_end0
  exact ⟨⟨_, rfl⟩, HF.out.1, HF.out.2⟩
end
end Go.Proofs.YtlejelbefmkakaaGreat

namespace Go.Proofs.YtlejelbefmkakaaGreat
open Go.RowKit
structure RI (M cl rI : Nat) (es : Array MapEntry) (v : List Nat) (wr : World) : Prop where
 it : wr.heap[rI]? = some (.mapIter (some M) cl v.toArray cl)
 mp : wr.heap[M]? = some (.map es cl)
def Seen (es : Array MapEntry) (v : List Nat) (i : Nat) : Prop := ∃ e, es.toList[i]? = some e ∧ e.born ∈ v
section
variable {M cl rI : Nat} {es : Array MapEntry} {v : List Nat} {wr w' : World} {S : Nat → Prop} {th : List (Int × Nat × Tg)}
theorem RI.fr (h : RI M cl rI es v wr) (f : Fr S wr w') (h1 : ¬ S rI) (h2 : ¬ S M) : RI M cl rI es v w' :=
 ⟨(f.block _ (lt_of_heap h.it) h1).trans h.it, (f.block _ (lt_of_heap h.mp) h2).trans h.mp⟩
theorem RI.seen (h : RI M cl rI es v wr) : wr.iterSeen rI = v.toArray := iterSeen_of h.it
theorem seen_nil {i : Nat} : ¬ Seen es [] i := fun ⟨_, _, h⟩ => by simp at h
theorem seen_add {i j b : Nat} {e : MapEntry} (hst : Stm es.toList cl) (he : es.toList[i]? = some e) (hb : e.born = b) : Seen es (v ++ [b]) j ↔ j = i ∨ Seen es v j := by
 constructor
 · rintro ⟨e', he', hm⟩
   rcases List.mem_append.1 hm with hm | hm
   · exact .inr ⟨e', he', hm⟩
   · left
     simp only [List.mem_singleton] at hm
     obtain ⟨hi, rfl⟩ := List.getElem?_eq_some_iff.1 he
     obtain ⟨hj, rfl⟩ := List.getElem?_eq_some_iff.1 he'
     have hn := hst.2
     refine (List.getElem_inj (h₀ := by simpa using hj) (h₁ := by simpa using hi) hn).1 ?_
     simp only [List.getElem_map]
     rw [hm, hb]
 · rintro (rfl | ⟨e', he', hm⟩)
   · exact ⟨e, he, by simp [hb]⟩
   · exact ⟨e', he', List.mem_append_left _ hm⟩
theorem ri_step (h : RI M cl rI es v wr) (hes : TgsAre es.toList th) (hst : Stm es.toList cl) (ty : TypeId) :
 ((∀ (i : Nat) (x : Int × Nat × Tg), th[i]? = some x → Seen es v i) ∧ (Instr.next (.pointer (some ⟨rI, 0, none⟩)) false ty).run Tryz.prog wr = .ok (.tuple #[.bool false]) wr) ∨
 ∃ (i b : Nat) (x : Int × Nat × Tg) (W3 : World), th[i]? = some x ∧ ¬ Seen es v i ∧ (∀ j, Seen es (v ++ [b]) j ↔ j = i ∨ Seen es v j) ∧
  (Instr.next (.pointer (some ⟨rI, 0, none⟩)) false ty).run Tryz.prog wr = .ok (.tuple #[.bool true, .int .i64 x.1, .pointer (some ⟨x.2.1, 0, none⟩)]) W3 ∧
  (Instr.entry (.pointer (some ⟨rI, 0, none⟩))).run Tryz.prog W3 = .ok (.tuple #[.int .i64 x.1, .pointer (some ⟨x.2.1, 0, none⟩)]) W3 ∧
  Fr (fun i => i = rI) wr W3 ∧ RI M cl rI es (v ++ [b]) W3 ∧ (leftOf es (W3.iterSeen rI)).size < (leftOf es (wr.iterSeen rI)).size := by
 have hnx := run_next_at (P := Tryz.prog) wr ty rI M cl cl v.toArray es cl h.it h.mp hst.1 (Nat.le_refl _)
 rcases hnx with ⟨h0, hnx⟩ | ⟨e, he, w3, hw3, hnx⟩
 · refine .inl ⟨fun i x hx => ?_, hnx⟩
   have hi : i < es.toList.length := by rw [hes.1]; exact (List.getElem?_eq_some_iff.1 hx).1
   refine ⟨es.toList[i], List.getElem?_eq_getElem hi, ?_⟩
   by_cases hc : v.toArray.contains es.toList[i].born = true
   · simpa using hc
   · exfalso
     have : es.toList[i] ∈ (leftOf es v.toArray) := by
      unfold leftOf
      refine Array.mem_filter.2 ⟨Array.mem_toList_iff.1 (List.getElem_mem hi), by simpa using hc⟩
     have hz : leftOf es v.toArray = #[] := Array.eq_empty_of_size_eq_zero h0
     rw [hz] at this
     simp at this
 · right
   obtain ⟨hem, hns⟩ := mem_left he
   have hshr := left_shrinks es _ e he
   obtain ⟨i, hi, hei⟩ := List.mem_iff_getElem.1 hem
   have hit : i < th.length := by rw [← hes.1]; exact hi
   have hei' : es.toList[i]? = some e := by rw [← hei]; exact List.getElem?_eq_getElem hi
   obtain ⟨hkey, hval⟩ := hes.2 i e th[i] hei' (List.getElem?_eq_getElem hit)
   have hil := lt_of_heap h.it
   have hml := lt_of_heap h.mp
   have hne : M ≠ rI := by
    rintro rfl
    have := h.it
    rw [h.mp] at this
    cases this
   have F3 : Fr (fun i => i = rI) wr (ChangeMaps.setBlock w3 rI (.mapIter (some M) cl (v.toArray.push e.born) cl)) := by
    rcases hw3 with rfl | rfl
    · exact fr_setBlock _ _ _
    · exact ((Fr.refl _ wr).drew).trans (fr_setBlock _ _ _)
   have hit3 : (ChangeMaps.setBlock w3 rI (.mapIter (some M) cl (v.toArray.push e.born) cl)).heap[rI]? = some (.mapIter (some M) cl (v.toArray.push e.born) cl) := by
    rcases hw3 with rfl | rfl
    · exact setBlock_at _ hil
    · exact setBlock_at _ hil
   have hm3 : (ChangeMaps.setBlock w3 rI (.mapIter (some M) cl (v.toArray.push e.born) cl)).heap[M]? = some (.map es cl) := (F3.block _ hml hne).trans h.mp
   have hent := run_entry_at (P := Tryz.prog) (ChangeMaps.setBlock w3 rI (.mapIter (some M) cl (v.toArray.push e.born) cl)) rI M cl _ es cl e hit3 hm3 hem hst.2
   rw [hkey, hval] at hnx hent
   have hnsn : ¬ Seen es v i := by
    rintro ⟨e', he', hm'⟩
    rw [hei'] at he'
    injection he' with he'
    subst he'
    simp [hm'] at hns
   refine ⟨i, e.born, th[i], _, List.getElem?_eq_getElem hit, hnsn, fun j => seen_add hst hei' rfl, hnx, ?_, F3, ⟨by simpa using hit3, hm3⟩, ?_⟩
   · exact hent
   · rw [iterSeen_of hit3, iterSeen_of h.it]
     exact hshr
end
end Go.Proofs.YtlejelbefmkakaaGreat

namespace Go.Proofs.YtlejelbefmkakaaGreat
open Go.RowKit
def Gm.oth (m : Gm) (r k o : Int) : Prop := ∃ x ∈ m.th, x.1 ≠ r ∧ x.2.2.kind = k ∧ x.2.2.ofr = o
structure OtI (m : Gm) (W : World) (r k o : Int) (cl rI : Nat) (es : Array MapEntry) (v : List Nat) (wr : World) : Prop where
 ri : RI m.M cl rI es v wr
 fr : Fr No W wr
 r0 : W.heap.size ≤ rI
 no : ∀ (i : Nat) (x : Int × Nat × Tg), m.th[i]? = some x → Seen es v i → ¬ (x.1 ≠ r ∧ x.2.2.kind = k ∧ x.2.2.ofr = o)
def OthP (m : Gm) (W : World) (r k o : Int) (e : Ending) (w' : World) : Prop := ∃ q : Bool, e = .returned (.bool q) ∧ (q = true ↔ m.oth r k o) ∧ Fr No W w'
set_option maxRecDepth 100000 in
set_option maxHeartbeats 4000000 in
theorem other_g {m : Gm} {lo : Nat} {W : World} (h : m.Ok lo W) (r k o : Int) :
 Calls Tryz.prog 215 #[.pointer (some ⟨m.wb, 0, none⟩), .int .i64 r, .int .u8 k, .int .i64 o] W (OthP m W r k o) := by
 obtain ⟨es, cl, hm, hes, hst⟩ := h.things
 have c0 := gmap_cell h
 have q0 := h.blk.lt
 have hrg := run_range_map (P := Tryz.prog) W 34 22 185 m.M es cl Tryz.underlying34 hm
 have hM := lt_of_heap hm
 have HINV : Hid (OtI m W r k o cl W.heap.size es [] (W.alloc (.mapIter (some m.M) cl #[] cl))) := hide ⟨⟨World.alloc_heap_new _ _, (Below.heap_alloc _ _ _ hM).trans hm⟩, (Fr.refl No W).alloc _, Nat.le_refl _, fun i x _ hs => absurd hs seen_nil⟩
 have HES := hide hes
 have HST := hide hst
 have HOK := hide h
 clear hes hst h
 generalize hrI : W.heap.size = rI at *
 go_enter Tryz.func215, Tryz.ntmps215
 go_wp2_with fail
 go_loopw [8] (fun _ wr => ∃ v, OtI m W r k o cl rI es v wr) (fun _ wr => (leftOf es (wr.iterSeen rI)).size)
 case atStart => exact ⟨[], HINV.out⟩
 case round =>
  obtain ⟨v, inv⟩ := hrel
  rcases ri_step inv.ri HES.out HST.out 0 with ⟨hall, hnx⟩ | ⟨i, b, x, W3, hx, hns, hseen, hnx, hent, F3, ri3, hsh⟩
  · have HI : Hid (¬ m.oth r k o) := hide (by
     rintro ⟨x, hx, hq⟩
     obtain ⟨i, hi, rfl⟩ := List.mem_iff_getElem.1 hx
     exact inv.no i _ (List.getElem?_eq_getElem hi) (hall i _ (List.getElem?_eq_getElem hi)) hq)
    have HF := hide inv.fr
    clear inv hall hrg HINV
    go_wp2
    go_ret
    exact ⟨false, rfl, ⟨nofun, fun h => absurd h HI.out⟩, HF.out⟩
  · have hxm : x ∈ m.th := List.mem_of_getElem? hx
    have F3' : Fr No W W3 := inv.fr.trans' F3 fun q hq h => by have h' : q = rI := h; have := inv.r0; omega
    have bx := (HOK.out.box _ hxm).fr F3' fun h => h
    obtain ⟨d0, -, d10, -, -, -⟩ := gbox_at bx
    have dq := bx.lt
    have HNO := hide inv.no
    have HR0 := hide inv.r0
    have HX := hide hx
    have HXM := hide hxm
    have HSN := hide hseen
    have HF3 := hide F3'
    have HRI := hide ri3
    have HSH := hide hsh
    obtain ⟨rx, gx, y⟩ := x
    simp only at d0 d10 dq hnx hent
    have HKD : ∃ kd, y.kind = kd := ⟨_, rfl⟩
    have HOF : ∃ oo, y.ofr = oo := ⟨_, rfl⟩
    obtain ⟨kd, hkd⟩ := HKD
    obtain ⟨oo, hoo⟩ := HOF
    rw [hkd] at d0
    rw [hoo] at d10
    have HK := hide hkd
    have HO := hide hoo
    clear inv hx hns hseen F3 F3' ri3 hsh hxm bx hrg HINV hkd hoo
    have hno : ¬ (rx ≠ r ∧ kd = k ∧ oo = o) → OtI m W r k o cl rI es (v ++ [b]) W3 := fun hq => ⟨HRI.out, HF3.out, HR0.out, fun j z hz hs => by
     rcases (HSN.out j).1 hs with rfl | hs
     · have := HX.out
       rw [this] at hz
       injection hz with hz
       subst hz
       rw [HK.out, HO.out]
       exact hq
     · exact HNO.out j z hz hs⟩
    have HNI := hide hno
    clear hno
    by_cases hr : rx = r
    · subst hr
      have e1 : (rx != rx) = false := by simp
      go_wp2_with fail
      go_roundw
      case rel => exact ⟨v ++ [b], HNI.out (by simp)⟩
      case measure => exact HSH.out
    · have e1 : (rx != r) = true := by simpa using hr
      have HR := hide hr
      by_cases hk : kd = k
      · subst hk
        by_cases ho : oo = o
        · subst ho
          have HY : Hid (m.oth r kd oo) := hide ⟨_, HXM.out, hr, HK.out, HO.out⟩
          clear hr
          go_wp2_with fail
          go_ret
          exact ⟨true, rfl, ⟨fun _ => HY.out, fun _ => rfl⟩, HF3.out⟩
        · have e2 : (oo == o) = false := by simpa using ho
          have HO2 := hide ho
          clear ho hr
          go_wp2_with fail
          go_roundw
          case rel => exact ⟨v ++ [b], HNI.out fun h => HO2.out h.2.2⟩
          case measure => exact HSH.out
      · have e2 : (kd == k) = false := by simpa using hk
        have HK2 := hide hk
        clear hk hr
        go_wp2_with fail
        go_roundw
        case rel => exact ⟨v ++ [b], HNI.out fun h => HK2.out h.2.1⟩
        case measure => exact HSH.out
def Gm.othB (m : Gm) (r k o : Int) : Bool := m.th.any fun x => x.1 != r && (x.2.2.kind == k && x.2.2.ofr == o)
theorem Gm.othB_iff {m : Gm} {r k o : Int} : m.othB r k o = true ↔ m.oth r k o := by
 unfold Gm.othB Gm.oth
 rw [List.any_eq_true]
 constructor
 · rintro ⟨x, hx, h⟩
   simp only [Bool.and_eq_true, bne_iff_ne, ne_eq, beq_iff_eq] at h
   exact ⟨x, hx, h.1, h.2.1, h.2.2⟩
 · rintro ⟨x, hx, h1, h2, h3⟩
   exact ⟨x, hx, by simp [h1, h2, h3]⟩
theorem otherB_g {m : Gm} {lo : Nat} {W : World} (h : m.Ok lo W) (r k o : Int) :
 Calls Tryz.prog 215 #[.pointer (some ⟨m.wb, 0, none⟩), .int .i64 r, .int .u8 k, .int .i64 o] W fun e w' => e = .returned (.bool (m.othB r k o)) ∧ Fr No W w' := by
 refine (other_g h r k o).mono ?_
 rintro e w' ⟨q, rfl, hq, f⟩
 refine ⟨?_, f⟩
 have : q = m.othB r k o := by
  rw [Bool.eq_iff_iff, hq, Gm.othB_iff]
 rw [this]
end Go.Proofs.YtlejelbefmkakaaGreat

namespace Go.Proofs.YtlejelbefmkakaaGreat
open Go.RowKit
def Gm.hkB (m : Gm) (r k home : Int) : Bool := match m.get r with
 | some y => y.2.kind == k && y.2.home == home
 | none => false
section
variable {m : Gm} {lo : Nat} {W : World}
set_option maxRecDepth 100000 in
theorem fits1_g (h : m.Ok lo W) {g gx : Nat} (hb : Blk W g 31 #[.pointer (some ⟨m.wb, 0, none⟩)]) {r k home : Int} (hk0 : k ≠ 0) (hxc : W.cell? ⟨gx, 1, none⟩ = some (.int .i64 home)) (hgx : gx < W.heap.size) :
 Calls Tryz.prog 214 #[.int .i64 r, .int .u8 k, .pointer (some ⟨g, 0, none⟩), .pointer (some ⟨gx, 0, none⟩)] W fun e w' => e = .returned (.bool (m.hkB r k home)) ∧ Fr No W w' := by
 have b0 : ∀ q : ClN W, q.w.cell? ⟨g, 0, none⟩ = some (.pointer (some ⟨m.wb, 0, none⟩)) := fun q => (hb.fr q.fr fun h => h).cell 0
 have bx : ∀ q : ClN W, q.w.cell? ⟨gx, 1, none⟩ = some (.int .i64 home) := fun q => (q.fr.cell hgx fun h => h).trans hxc
 have c0 : ∀ q : ClN W, q.w.cell? ⟨m.wb, 2, none⟩ = some (.map (some m.M)) := fun q => gmap_cell (h.no q.fr)
 have hinst : Nonempty (ClN W) := ⟨⟨W, Fr.refl No W⟩⟩
 have HK : Hid (∀ q : ClN W, Calls Tryz.prog 44 #[.pointer (some ⟨m.wb, 0, none⟩), .int .i64 r] q.w fun e w'' => e = .returned (.int .u8 (m.kind r)) ∧ ∃ q' : ClN W, w'' = q'.w) := hide fun q => by
  refine (gKind_w (h.no q.fr) r).mono ?_
  rintro e w'' ⟨rfl, rfl⟩
  exact ⟨rfl, q, rfl⟩
 by_cases hk : m.kind r = k
 · obtain ⟨x, hg⟩ : ∃ x, m.get r = some x := by
    cases hg : m.get r with
    | none => unfold Gm.kind at hk; rw [hg] at hk; exact absurd hk.symm hk0
    | some x => exact ⟨x, rfl⟩
   have hx := Gm.get_mem hg
   have hkx : x.2.kind = k := by unfold Gm.kind at hk; rw [hg] at hk; exact hk
   have hl : ∀ q : ClN W, (Instr.lookup 34 (.map (some m.M)) (.int .i64 r) false).run Tryz.prog q.w = .ok (.pointer (some ⟨x.1, 0, none⟩)) q.w := fun q => by
    have := gook_thing (h.no q.fr) r
    rw [hg] at this
    exact this
   have d1 : ∀ q : ClN W, q.w.cell? ⟨x.1, 1, none⟩ = some (.int .i64 x.2.home) := fun q => (gbox_at ((h.no q.fr).box _ hx)).2.1
   have hv : m.hkB r k home = (x.2.home == home) := by unfold Gm.hkB; rw [hg]; simp [hkx]
   rw [hk] at HK
   rw [hv]
   generalize x.2.home = hm at *
   clear h hb hg hk hxc hgx hx hkx hv hk0
   go_enter Tryz.func214, Tryz.ntmps214
   go_wp2_with fail
   refine wp_region_quiet_cl (fun W' => ∃ q : ClN W, W' = q.w) (by kernel_rfl) (by kernel_rfl) ⟨⟨_, (Fr.refl No W).drew⟩, rfl⟩ ?_
   repeat (go_big_quiet_step ((go_at_call 44; exact HK.out _)))
   refine wpQuiet_nil ?_
   rintro Wc ⟨⟨_, f3⟩, rfl⟩
   clear b0 bx c0 hl d1 HK hinst
   go_wp2_with fail
   go_ret
   exact ⟨rfl, f3⟩
 · have hv : m.hkB r k home = false := by
    unfold Gm.hkB
    unfold Gm.kind at hk
    cases hg : m.get r with
    | none => rfl
    | some x => rw [hg] at hk; simp at hk; simp [hk]
   have e0 : (m.kind r == k) = false := by simpa using hk
   rw [hv]
   generalize m.kind r = kd at *
   clear h hb hk hxc hgx hv hk0
   go_enter Tryz.func214, Tryz.ntmps214
   go_wp2_with fail
   refine wp_region_quiet_cl (fun W' => ∃ q : ClN W, W' = q.w) (by kernel_rfl) (by kernel_rfl) ⟨⟨_, (Fr.refl No W).drew⟩, rfl⟩ ?_
   repeat (go_big_quiet_step ((go_at_call 44; exact HK.out _)))
   refine wpQuiet_nil ?_
   rintro Wc ⟨⟨_, f3⟩, rfl⟩
   clear b0 bx c0 HK hinst
   go_wp2_with fail
   go_ret
   exact ⟨rfl, f3⟩
end
end Go.Proofs.YtlejelbefmkakaaGreat

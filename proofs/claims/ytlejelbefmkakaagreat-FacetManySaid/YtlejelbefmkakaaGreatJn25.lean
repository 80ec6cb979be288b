/- Texts joined: Gq1, Wo18, X4, B3, M. -/
import Derived.Test.YtlejelbefmkakaaGreatJn2
import Derived.Test.YtlejelbefmkakaaGreatJn8
import Derived.Test.YtlejelbefmkakaaGreatJn9
import Derived.Deep.RegionHeld3
import Derived.Deep.AppendLies
import Derived.Deep.RegionLaw
namespace Go.Proofs.YtlejelbefmkakaaGreat
open Go.RowKit
section
variable {m : Gm} {lo : Nat} {W : World}
theorem gedge_w (h : m.Ok lo W) (n : Int) : Calls Tryz.prog 238 #[.pointer (some ⟨m.wb, 0, none⟩), .int .i64 n] W fun e w' => e = .returned (.bool (decide (0 < n ∧ n < (m.made.length : Int)))) ∧ w' = W := by
 have hS := gSides_w h
 clear h
 by_cases h0 : 0 < n
 · have e0 : decide (n > 0) = true := by simpa using h0
   by_cases h1 : n < (m.made.length : Int)
   · have e1 : decide (n < (m.made.length : Int)) = true := by simpa using h1
     rw [show decide (0 < n ∧ n < (m.made.length : Int)) = true by simp [h0, h1]]
     clear h0 h1
     go_enter Tryz.func238, Tryz.ntmps238
     go_wp2_with fail
     refine hS.mono ?_
     rintro e w' ⟨rfl, rfl⟩
     go_wp2
     go_ret
     exact ⟨rfl, rfl⟩
   · have e1 : decide (n < (m.made.length : Int)) = false := by simpa using h1
     rw [show decide (0 < n ∧ n < (m.made.length : Int)) = false by simp [h1]]
     clear h0 h1
     go_enter Tryz.func238, Tryz.ntmps238
     go_wp2_with fail
     refine hS.mono ?_
     rintro e w' ⟨rfl, rfl⟩
     go_wp2
     go_ret
     exact ⟨rfl, rfl⟩
 · have e0 : decide (n > 0) = false := by simpa using h0
   rw [show decide (0 < n ∧ n < (m.made.length : Int)) = false by simp [h0]]
   clear h0
   go_enter Tryz.func238, Tryz.ntmps238
   go_wp2
   go_ret
   exact ⟨rfl, rfl⟩
theorem gok_cut (h : m.Ok lo W) {g n : Nat} (ha : m.C = some ⟨g, 0, none⟩) (_hn : n < m.cut.length) : ({ m with cut := m.cut.set n true } : Gm).Ok lo (W.setCell ⟨g, n, none⟩ (.bool true)) ∧ Fr (fun i => i = g) W (W.setCell ⟨g, n, none⟩ (.bool true)) := by
 have f : Fr (fun i => i = g) W (W.setCell ⟨g, n, none⟩ (.bool true)) := (Fr.refl (fun i => i = g) W).set (fun _ => rfl) _
 refine ⟨?_, f⟩
 have hg : (Value.slice m.C m.cut.length m.cc).ownBlock = some g := by rw [ha]; rfl
 obtain ⟨cs, hb⟩ := owns_typed h.cut hg
 obtain ⟨es, cl, hm, he⟩ := h.things
 obtain ⟨ef, cf, hf, hfe⟩ := h.facets
 have hcut := h.cut
 rw [ha] at hcut
 have hput := owns_putK (i := n) (u := .bool true) hcut
 refine ⟨?_, ⟨es, cl, (f.block _ (lt_of_heap hm) fun e => map_ne_blk hm hb e.symm).trans hm, he⟩, ⟨ef, cf, (f.block _ (lt_of_heap hf) fun e => map_ne_blk hf hb e.symm).trans hf, hfe⟩,
  owns_fr h.par f fun q hq e => ?_, ?_, owns_fr h.made f fun q hq e => ?_, fun x hx => (h.box x hx).fr f fun e => ?_, fun x hx => (h.st x hx).fr f fun b hb' e => ?_, h.lo0, h.mf, h.keys, h.dist, h.len, h.fkeys, h.flen, ?_⟩
 · have := h.blk.fr f fun e => Blk.ne_ hb (e ▸ h.blk) (by decide) rfl
   unfold Gm.cells at this ⊢
   simpa using this
 · obtain ⟨cs', hb'⟩ := owns_typed h.par hq
   exact Blk.ne_ hb (e ▸ hb') (by decide) rfl
 · rw [ha]
   simp only [List.length_set, List.map_set]
   exact hput
 · obtain ⟨cs', hb'⟩ := owns_typed h.made hq
   exact Blk.ne_ hb (e ▸ hb') (by decide) rfl
 · exact Blk.ne_ hb (e ▸ h.box x hx) (by decide) rfl
 · obtain ⟨e', cs', he', hb''⟩ := (h.st x hx).ty hb'
   subst e
   rcases he' with rfl | rfl | rfl | rfl | rfl <;> exact Blk.ne_ hb hb'' (by decide) rfl
 · simpa using h.sides
def CutP (m : Gm) (lo : Nat) (n : Int) (W : World) (e : Ending) (w' : World) : Prop :=
 (¬ (0 < n ∧ n < (m.made.length : Int)) ∧ e = .returned (.int .i64 2) ∧ w' = W) ∨
 ((0 < n ∧ n < (m.made.length : Int)) ∧ e = .returned (.int .i64 0) ∧ ({ m with cut := m.cut.set n.toNat true } : Gm).Ok lo w' ∧ Fr (fun i => lo ≤ i) W w')
theorem gCutEdge_w (h : m.Ok lo W) (n : Int) : Calls Tryz.prog 181 #[.pointer (some ⟨m.wb, 0, none⟩), .int .i64 n] W (CutP m lo n W) := by
 have hN := gnone_w h
 have hE := gedge_w h n
 have c1 := h.blk.cell 1
 simp only [Gm.cells, List.getElem?_toArray, List.getElem?_cons_zero, List.getElem?_cons_succ] at c1
 have cq := h.blk.lt
 by_cases hn : 0 < n ∧ n < (m.made.length : Int)
 · rw [decide_eq_true hn] at hE
   obtain ⟨k, rfl⟩ : ∃ k : Nat, n = (k : Int) := ⟨n.toNat, by omega⟩
   have hk : k < m.cut.length := by have := h.sides; omega
   obtain ⟨g, c, hA, hg0, hg1⟩ := h.cut.form (by omega)
   simp only [Value.slice.injEq, true_and] at hA
   have hfin := gok_cut h (g := g) (by rw [hA.1]) hk
   have d1 := World.ownsRow.cells h.cut (g := g) (by rw [hA.1]; rfl) k (.bool m.cut[k]) (by simp [hk])
   rw [add_at, Nat.zero_add] at d1
   have df := World.ownsRow.frozenAt (by have := h.cut; rwa [hA.1] at this) k
   have hkl : (k : Int) < (m.cut.length : Int) := by omega
   rw [hA.1] at c1
   generalize m.cut[k] = old at *
   have HF := hide hfin
   have HN := hide hn
   have HL := hide hg0
   clear h hfin hn hA
   go_enter Tryz.func181, Tryz.ntmps181
   go_wp2_with fail
   refine hN.mono ?_
   rintro e w' ⟨rfl, rfl⟩
   go_wp2_with fail
   refine hE.mono ?_
   rintro e w' ⟨rfl, rfl⟩
   go_wp2
   go_ret
   refine .inr ⟨HN.out, rfl, HF.out.1, HF.out.2.mono fun i hi h => ?_⟩
   have h' : i = g := h
   have := HL.out
   show lo ≤ i
   omega
 · rw [decide_eq_false hn] at hE
   have HN := hide hn
   clear h hn
   go_enter Tryz.func181, Tryz.ntmps181
   go_wp2_with fail
   refine hN.mono ?_
   rintro e w' ⟨rfl, rfl⟩
   go_wp2_with fail
   refine hE.mono ?_
   rintro e w' ⟨rfl, rfl⟩
   go_wp2
   go_ret
   exact .inl ⟨HN.out, rfl, rfl⟩
end
end Go.Proofs.YtlejelbefmkakaaGreat

namespace Go.Proofs.YtlejelbefmkakaaGreat
open Go.RowKit
def tRef (b : Int) : T := .mk 4 0 ⟨#[]⟩ none 0 [] b
def OpenRes (xb xo : Th) (W : World) (e : Ending) (w' : World) : Prop :=
 (xb.ofr = xo.ofr → ∃ t' : T, e = .returned (.tuple #[t'.val, .int .i64 0]) ∧ t'.v = xb.v.v ∧ t'.Sh w' W.heap.size w'.heap.size) ∧
 (xb.ofr ≠ xo.ofr → e = .returned (.tuple #[T.zero.val, .int .i64 91])) ∧ Fr No W w'
end Go.Proofs.YtlejelbefmkakaaGreat

namespace Go.Proofs.YtlejelbefmkakaaGreat
open Go.RowKit
def listMk (ps : List (Value → Prop)) (m : Value) : Prop :=
 match ps with
 | [p, q] => ∃ x y, m = .iface 276 (.agg #[x, y]) ∧ p x ∧ q y
 | _ => ∃ A len cap, m = .iface 279 (.agg #[.slice A len cap])
def mkOf (k n : Int) (s : ByteArray) (ps : List (Value → Prop)) (r : Int) (m : Value) : Prop :=
 if k = 1 then m = .iface 272 (.int .i64 n)
 else if k = 2 then m = .iface 273 (.string s)
 else if k = 4 then m = .iface 274 (.int .i64 r)
 else if k = 3 then listMk ps m
 else m = .iface 281 (.agg #[])
def IsMk : V → Value → Prop
 | .mk k n s l r => mkOf k n s (l.map IsMk) r
termination_by v => v
def MarkP (v : V) (w : World) (e : Ending) (w' : World) : Prop := ∃ m, e = .returned m ∧ IsMk v m ∧ Fr No w w'
structure MarkInv (w : World) (X : Array Value) (j : Nat) (wr : World) : Prop where
 fr : Fr No w wr
 big : w.heap.size + 2 ≤ wr.heap.size
 row : ∃ v xs, Blk wr (w.heap.size + 1) 279 #[v] ∧ wr.ownsRow (w.heap.size + 2) 49 1 v j xs
end Go.Proofs.YtlejelbefmkakaaGreat

namespace Go.Proofs.YtlejelbefmkakaaGreat
open Go.RowKit
def OfP (v : V) (w : World) (e : Ending) (w' : World) : Prop :=
 (v.may = true → ∃ m, e = .returned (.tuple #[m, .int .i64 0]) ∧ IsMk v m ∧ Fr No w w') ∧ (v.may = false → e = .returned (.tuple #[.nilIface, .int .i64 2]) ∧ Fr No w w')
end Go.Proofs.YtlejelbefmkakaaGreat

namespace Go.Proofs.YtlejelbefmkakaaGreat
open Go.RowKit
def shp (k : Int) (len : Nat) : Int := if k = 3 then (if len = 2 then 3 else 5) else if k = 1 then 1 else if k = 2 then 2 else if k = 4 then 4 else 0
def leafEq (k n : Int) (s : ByteArray) (r n' : Int) (s' : ByteArray) (r' : Int) : Bool :=
 if k = 1 then n == n' else if k = 2 then s.toList == s'.toList else if k = 4 then r == r' else true
def pairCmp (ps : List (V → Nat)) (l : List V) : Nat :=
 match ps, l with
 | [f, g], [a, b] => if f a = 1 then g b else f a
 | _, _ => 2
def cmpOf (k n : Int) (s : ByteArray) (ps : List (V → Nat)) (r : Int) : V → Nat
 | .mk k' n' s' l' r' =>
  if shp k ps.length = shp k' l'.length then
   (if k = 3 then pairCmp ps l' else if leafEq k n s r n' s' r' = true then 1 else 0)
  else 0
def V.cmp : V → V → Nat
 | .mk k n s l r => cmpOf k n s (l.map V.cmp) r
termination_by v => v
def EqRes (res : Result Bool) (c : Nat) (w : World) : Prop :=
 (c = 0 ∧ res = .ok false w) ∨ (c = 1 ∧ res = .ok true w) ∨ (c = 2 ∧ ∃ s, res = .halt (.panic (.iface 10 (.string s))) w)
def mty (c : Int) : TypeId := if c = 1 then 272 else if c = 2 then 273 else if c = 4 then 274 else if c = 3 then 276 else if c = 5 then 279 else 281
end Go.Proofs.YtlejelbefmkakaaGreat

/- Texts joined: Tk, T, O1, Gt, Gs, Gb, U1, V, X1, X2, B1. -/
import Derived.Deep.RegionHeld3
import Derived.WalkKit
import Derived.WalkSpells
import Derived.Deep.Draws
import Derived.Laws.Rows
import Derived.Test.YtlejelbefmkakaaGreatProg
import Derived.Lib.SmallJoins
import Derived.Deep.Slices
import Derived.Deep.Fields
import Derived.ChangeSame
import Derived.SizedLaws
import Derived.Deep.AppendLies
import Derived.WalkLawsBesides
import Derived.BigQuiet
import Derived.Deep.QuietTactic
import Derived.Deep.LoopGhost
namespace Go.Proofs.YtlejelbefmkakaaGreat
theorem lq1 {α : Type} {l : List α} {i : Nat} : l.toArray[i]? = l[i]? := List.getElem?_toArray
theorem lq2 {α : Type} {a : α} {l : List α} {i : Nat} : (a :: l)[i + 1]? = l[i]? := List.getElem?_cons_succ
theorem lq3 {α : Type} {a : α} {l : List α} : (a :: l)[0]? = some a := List.getElem?_cons_zero
theorem lq4 {α : Type} {l : List α} {i : Nat} {a : α} : l.toArray.setIfInBounds i a = (l.set i a).toArray := List.setIfInBounds_toArray ..
theorem lq5 {α : Type} {l : List α} {a b : α} : (b :: l).set 0 a = a :: l := List.set_cons_zero
theorem lq6 {α : Type} {l : List α} {i : Nat} {a b : α} : (b :: l).set (i + 1) a = b :: l.set i a := List.set_cons_succ
theorem tk {P : Program} {md : Region.Mode} {ops : Array Oper} {Q : Exit → Act → World → Prop} {S : World → Prop} {i : Nat} {oi : Oper} {v : Value} {fuel : Nat} {listed : Array Bool} {a : Act} {w : World} (hi : ops[i]? = some oi)
 (hk : (Region.noSelect ops && (Region.free md ops listed i && (Region.ready md ops listed).contains i)) = true)
 (hQ : ∀ c a w, Q (.panic c) (a.put oi.dst v) w → Q (.panic c) a w) (hw : Region.wanted oi (yielded ops a.tmps) = true) (hS : S w) (hy : ∀ w, S w → (execOp a.eval oi).run P w = .ok (.value v) w)
 (h : wpAnyH P md ops Q S fuel (listed.setIfInBounds i true) (a.put oi.dst v) w) : wpAnyH P md ops Q S (fuel + 1) listed a w := by
 simp only [Bool.and_eq_true] at hk
 exact wpAnyH_take hi hk.1 hk.2.1 hk.2.2 hQ (.inl ⟨hw, hy⟩) hS h
end Go.Proofs.YtlejelbefmkakaaGreat

namespace Go.Proofs.YtlejelbefmkakaaGreat
open Go.RowKit
inductive V where
 | mk (k n : Int) (s : ByteArray) (l : List V) (r : Int)
inductive T where
 | mk (k n : Int) (s : ByteArray) (A : Option Addr) (cap : Nat) (l : List T) (r : Int)
def T.v : T → V
 | .mk k n s _ _ l r => .mk k n s (l.map T.v) r
termination_by t => t
theorem T.v_mk (k n : Int) (s : ByteArray) (A : Option Addr) (cap : Nat) (l : List T) (r : Int) : (T.mk k n s A cap l r).v = .mk k n s (l.map T.v) r := by
 rw [T.v]
def T.cells : T → List Value
 | .mk k n s A cap l r => [.int .u8 k, .int .i64 n, .string s, .slice A l.length cap, .int .i64 r]
def T.val : T → Value
 | .mk k n s A cap l r => .agg #[.int .u8 k, .int .i64 n, .string s, .slice A l.length cap, .int .i64 r]
def Five (w : World) (b o : Nat) (t : T) : Prop := ∀ j u, t.cells[j]? = some u → w.cell? ⟨b, o + j, none⟩ = some u
structure Fit (k n : Int) (s : ByteArray) (len cap : Nat) (r : Int) : Prop where
 k0 : 0 ≤ k
 k1 : k < 256
 n0 : -9223372036854775808 ≤ n
 n1 : n ≤ 9223372036854775807
 s1 : s.size ≤ 140737488351232
 len1 : len * 64 ≤ 140737488351232
 cap1 : len ≤ cap
 r0 : -9223372036854775808 ≤ r
 r1 : r ≤ 9223372036854775807
def T.In (w : World) (lo hi : Nat) : T → Prop
 | .mk k n s A cap l r => Fit k n s l.length cap r ∧ (l ≠ [] → ∃ b o, A = some ⟨b, o, none⟩ ∧ lo ≤ b ∧ b < hi ∧ ∀ i x, l[i]? = some x → Five w b (o + i * 5) x) ∧ ∀ x ∈ l, T.In w lo hi x
termination_by t => t
theorem T.in_mk {w : World} {lo hi : Nat} {k n : Int} {s : ByteArray} {A : Option Addr} {cap : Nat} {l : List T} {r : Int} :
 (T.mk k n s A cap l r).In w lo hi ↔ Fit k n s l.length cap r ∧ (l ≠ [] → ∃ b o, A = some ⟨b, o, none⟩ ∧ lo ≤ b ∧ b < hi ∧ ∀ i x, l[i]? = some x → Five w b (o + i * 5) x) ∧ ∀ x ∈ l, x.In w lo hi := by
 rw [T.In]
theorem T.ind {p : T → Prop} (h : ∀ k n s A cap l r, (∀ x ∈ l, p x) → p (.mk k n s A cap l r)) (t : T) : p t :=
 T.rec (motive_1 := p) (motive_2 := fun l => ∀ x ∈ l, p x) (fun k n s A cap l r ih => h k n s A cap l r ih) (by simp) (fun x l hx hl => by
  intro y hy
  rcases List.mem_cons.1 hy with rfl | hy
  · exact hx
  · exact hl y hy) t
theorem V.ind {p : V → Prop} (h : ∀ k n s l r, (∀ x ∈ l, p x) → p (.mk k n s l r)) (v : V) : p v :=
 V.rec (motive_1 := p) (motive_2 := fun l => ∀ x ∈ l, p x) (fun k n s l r ih => h k n s l r ih) (by simp) (fun x l hx hl => by
  intro y hy
  rcases List.mem_cons.1 hy with rfl | hy
  · exact hx
  · exact hl y hy) v
theorem T.In.keep {w w' : World} {lo hi : Nat} (hk : ∀ b o, lo ≤ b → b < hi → w'.cell? ⟨b, o, none⟩ = w.cell? ⟨b, o, none⟩) (t : T) : t.In w lo hi → t.In w' lo hi := by
 induction t using T.ind with
 | h k n s A cap l r ih =>
  rw [T.in_mk, T.in_mk]
  rintro ⟨h1, h2, h3⟩
  refine ⟨h1, fun hl => ?_, fun x hx => ih x hx (h3 x hx)⟩
  obtain ⟨b, o, rfl, hb0, hb1, hc⟩ := h2 hl
  exact ⟨b, o, rfl, hb0, hb1, fun i x hx j u hu => (hk b _ hb0 hb1).trans (hc i x hx j u hu)⟩
theorem T.In.more {w : World} {lo hi lo' hi' : Nat} (hl : lo' ≤ lo) (hh : hi ≤ hi') (t : T) : t.In w lo hi → t.In w lo' hi' := by
 induction t using T.ind with
 | h k n s A cap l r ih =>
  rw [T.in_mk, T.in_mk]
  rintro ⟨h1, h2, h3⟩
  refine ⟨h1, fun hl' => ?_, fun x hx => ih x hx (h3 x hx)⟩
  obtain ⟨b, o, rfl, hb0, hb1, hc⟩ := h2 hl'
  exact ⟨b, o, rfl, by omega, by omega, hc⟩
theorem hide {p : Prop} (h : p) : Hid p := h
def Blk (w : World) (g : Nat) (t : TypeId) (cs : Array Value) : Prop := w.heap[g]? = some (.cells cs t (0, 0))
section
variable {w w' : World} {g : Nat} {t : TypeId} {cs : Array Value}
theorem Blk.lt (h : Blk w g t cs) : g < w.heap.size := by
 rcases Nat.lt_or_ge g w.heap.size with hlt | hge
 · exact hlt
 · unfold Blk at h; rw [Array.getElem?_eq_none hge] at h; cases h
theorem Blk.cell (h : Blk w g t cs) (i : Nat) : w.cell? ⟨g, i, none⟩ = cs[i]? := cell_of_row w g i cs t (0, 0) h
theorem Blk.frozen (h : Blk w g t cs) (i : Nat) : w.frozen? ⟨g, i, none⟩ = false := by
 unfold Blk at h
 simp [World.frozen?, h]
theorem Blk.new (w : World) (t : TypeId) (cs : Array Value) : Blk (w.alloc (.cells cs t)) w.heap.size t cs := heap_alloc_new w _
theorem Blk.new' (w : World) (t : TypeId) (cs : Array Value) {g : Nat} (h : w.heap.size = g) : Blk (w.alloc (.cells cs t)) g t cs := by subst h; exact Blk.new w t cs
theorem Blk.drew (h : Blk w g t cs) : Blk w.drew g t cs := h
theorem Blk.drewN (h : Blk w g t cs) (n : Nat) : Blk (w.drewN n) g t cs := h
theorem Blk.alloc (h : Blk w g t cs) (o : Obj) : Blk (w.alloc o) g t cs := (Below.heap_alloc w o g h.lt).trans h
theorem Blk.set_ (h : Blk w g t cs) (i : Nat) (u : Value) : Blk (w.setCell ⟨g, i, none⟩ u) g t (cs.setIfInBounds i u) := by
 unfold Blk at h ⊢
 simp [World.setCell, Array.getElem?_modify, h]
theorem Blk.far (h : Blk w g t cs) {p : Addr} (hp : g ≠ p.block) (u : Value) : Blk (w.setCell p u) g t cs := (Below.heap_setCell w p u g hp).trans h
theorem Blk.ne_ {g' : Nat} {t' : TypeId} {cs' : Array Value} (h : Blk w g t cs) (h' : Blk w g' t' cs') (hne : t ≠ t') : g ≠ g' := by
 rintro rfl
 unfold Blk at h h'
 rw [h] at h'
 injection h' with h'
 injection h' with _ ht
 exact hne ht
end
structure Fr (S : Nat → Prop) (w w' : World) : Prop where
 os : w'.os = w.os
 tape : w'.tape = w.tape
 output : w'.output = w.output
 size : w.heap.size ≤ w'.heap.size
 block : ∀ b, b < w.heap.size → ¬ S b → w'.heap[b]? = w.heap[b]?
def No (_ : Nat) : Prop := False
section
variable {S S' : Nat → Prop} {a b c w w' : World}
theorem Fr.refl (S : Nat → Prop) (w : World) : Fr S w w := ⟨rfl, rfl, rfl, Nat.le_refl _, fun _ _ _ => rfl⟩
theorem Fr.trans' (h : Fr S a b) (k : Fr S' b c) (hs : ∀ i, i < a.heap.size → S' i → S i) : Fr S a c :=
 ⟨k.os.trans h.os, k.tape.trans h.tape, k.output.trans h.output, Nat.le_trans h.size k.size, fun i hi hn =>
  (k.block i (Nat.lt_of_lt_of_le hi h.size) (fun hS => hn (hs i hi hS))).trans (h.block i hi hn)⟩
theorem Fr.trans (h : Fr S a b) (k : Fr S b c) : Fr S a c := h.trans' k fun _ _ h => h
theorem Fr.mono (h : Fr S a b) (hs : ∀ i, i < a.heap.size → S i → S' i) : Fr S' a b := (Fr.refl S' a).trans' h hs
theorem Fr.no (h : Fr No a b) : Fr S a b := h.mono fun _ _ h => h.elim
theorem Fr.thenNo (h : Fr S a b) (k : Fr No b c) : Fr S a c := h.trans' k fun _ _ h => h.elim
theorem Fr.drew (h : Fr S a w) : Fr S a w.drew := ⟨h.os, h.tape, h.output, h.size, h.block⟩
theorem Fr.drewN (h : Fr S a w) (n : Nat) : Fr S a (w.drewN n) := ⟨h.os, h.tape, h.output, h.size, h.block⟩
theorem Fr.alloc (h : Fr S a w) (o : Obj) : Fr S a (w.alloc o) :=
 h.trans' (S' := No) ⟨rfl, rfl, rfl, by simp, fun k hk _ => Below.heap_alloc _ _ _ hk⟩ fun _ _ h => h.elim
theorem Fr.set (h : Fr S a w) {p : Addr} (hp : p.block < a.heap.size → S p.block) (u : Value) : Fr S a (w.setCell p u) :=
 ⟨h.os, h.tape, h.output, by simpa [World.setCell] using h.size, fun i hi hn => (Below.heap_setCell _ _ _ _ (by rintro rfl; exact hn (hp hi))).trans (h.block i hi hn)⟩
theorem Fr.setNew (h : Fr S a w) {p : Addr} (hp : a.heap.size ≤ p.block) (u : Value) : Fr S a (w.setCell p u) :=
 h.set (fun hlt => by omega) u
theorem Fr.grown (h : Fr S a w) {row : Option Nat} (hg : w.grownBy w' row) (hr : ∀ k, row = some k → k < a.heap.size → S k) : Fr S a w' :=
 ⟨hg.os.trans h.os, hg.tape.trans h.tape, hg.output.trans h.output, Nat.le_trans h.size hg.size, fun i hi hn =>
  (hg.block i (Nat.lt_of_lt_of_le hi h.size) (fun e => hn (hr i e.symm hi))).trans (h.block i hi hn)⟩
theorem Fr.below (h : Fr S a w) {B : Nat} (hB : B ≤ a.heap.size) (hs : ∀ i, i < B → ¬ S i) : Below B a w :=
 ⟨h.os, h.tape, h.output, h.size, fun k hk => h.block k (by omega) (hs k hk)⟩
theorem Fr.noBelow (h : Fr No a w) : Below a.heap.size a w := h.below (Nat.le_refl _) fun _ _ h => h
theorem Fr.cell (h : Fr S a w) {b o : Nat} {s : Option Nat} (hb : b < a.heap.size) (hn : ¬ S b) : w.cell? ⟨b, o, s⟩ = a.cell? ⟨b, o, s⟩ :=
 World.cell?_of_block (w := a) (h.block b hb hn)
theorem Fr.frozen (h : Fr S a w) {b o : Nat} {s : Option Nat} (hb : b < a.heap.size) (hn : ¬ S b) : w.frozen? ⟨b, o, s⟩ = a.frozen? ⟨b, o, s⟩ :=
 World.frozen?_of_block (w := a) (h.block b hb hn)
theorem Blk.fr {g : Nat} {t : TypeId} {cs : Array Value} (h : Blk a g t cs) (hf : Fr S a w) (hn : ¬ S g) : Blk w g t cs := (hf.block g h.lt hn).trans h
theorem Fr.cells (h : Fr No a w) : ∀ b o, b < a.heap.size → w.cell? ⟨b, o, none⟩ = a.cell? ⟨b, o, none⟩ := fun _ _ hb => h.cell hb fun h => h
theorem T.In.fr {lo hi : Nat} {t : T} (h : t.In a lo hi) (hf : Fr S a w) (hh : hi ≤ a.heap.size) (hs : ∀ i, lo ≤ i → i < hi → ¬ S i) : t.In w lo hi :=
 T.In.keep (fun b o h0 h1 => hf.cell (by omega) (hs b h0 h1)) t h
theorem T.In.no {lo hi : Nat} {t : T} (h : t.In a lo hi) (hf : Fr No a w) (hh : hi ≤ a.heap.size) : t.In w lo hi := h.fr hf hh fun _ _ _ h => h
end
theorem T.elem {w : World} {lo hi : Nat} {k n : Int} {s : ByteArray} {A : Option Addr} {cap : Nat} {l : List T} {r : Int} (h : (T.mk k n s A cap l r).In w lo hi) {j : Nat} (hj : j < l.length) :
 ∃ b o k1 n1 s1 A1 cap1 l1 r1, A = some ⟨b, o, none⟩ ∧ lo ≤ b ∧ b < hi ∧ l[j] = T.mk k1 n1 s1 A1 cap1 l1 r1 ∧ (T.mk k1 n1 s1 A1 cap1 l1 r1).In w lo hi ∧
  w.cell? ⟨b, o + j * 5, none⟩ = some (.int .u8 k1) ∧ w.cell? ⟨b, o + j * 5 + 1, none⟩ = some (.int .i64 n1) ∧ w.cell? ⟨b, o + j * 5 + 2, none⟩ = some (.string s1) ∧
  w.cell? ⟨b, o + j * 5 + 3, none⟩ = some (.slice A1 l1.length cap1) ∧ w.cell? ⟨b, o + j * 5 + 4, none⟩ = some (.int .i64 r1) := by
 obtain ⟨_, hA, hs⟩ := T.in_mk.1 h
 obtain ⟨b, o, rfl, h0, h1, hc⟩ := hA (by rintro rfl; simp at hj)
 have h5 := hc j l[j] (List.getElem?_eq_getElem hj)
 have hin := hs l[j] (List.getElem_mem hj)
 cases hx : l[j] with
 | mk k1 n1 s1 A1 cap1 l1 r1 =>
  rw [hx] at h5 hin
  exact ⟨b, o, k1, n1, s1, A1, cap1, l1, r1, rfl, h0, h1, rfl, hin, h5 0 _ rfl, h5 1 _ rfl, h5 2 _ rfl, h5 3 _ rfl, h5 4 _ rfl⟩
def T.blocks : T → List Nat
 | .mk _ _ _ A _ l _ => (if l.isEmpty then [] else (A.map Addr.block).toList) ++ (l.map T.blocks).flatten
termination_by t => t
theorem T.blocks_mk (k n : Int) (s : ByteArray) (A : Option Addr) (cap : Nat) (l : List T) (r : Int) :
 (T.mk k n s A cap l r).blocks = (if l.isEmpty then [] else (A.map Addr.block).toList) ++ (l.map T.blocks).flatten := by rw [T.blocks]
theorem T.In.blocks {w : World} {lo hi : Nat} (t : T) : t.In w lo hi → ∀ b ∈ t.blocks, lo ≤ b ∧ b < hi := by
 induction t using T.ind with
 | h k n s A cap l r ih =>
  rw [T.in_mk, T.blocks_mk]
  rintro ⟨_, h2, h3⟩ b hb
  rcases List.mem_append.1 hb with hb | hb
  · cases l with
    | nil => simp at hb
    | cons x l =>
     obtain ⟨c, o, rfl, h0, h1, _⟩ := h2 (by simp)
     simp at hb
     subst hb
     exact ⟨h0, h1⟩
  · obtain ⟨bs, hbs, hb⟩ := List.mem_flatten.1 hb
    obtain ⟨x, hx, rfl⟩ := List.mem_map.1 hbs
    exact ih x hx (h3 x hx) b hb
structure T.Ow (w : World) (lo hi : Nat) (t : T) : Prop where
 inn : t.In w lo hi
 nodup : t.blocks.Nodup
 free : ∀ b ∈ t.blocks, ∀ o, w.frozen? ⟨b, o, none⟩ = false
structure Forest (w : World) (lo hi : Nat) (l : List T) : Prop where
 inn : ∀ x ∈ l, x.In w lo hi
 nodup : (l.map T.blocks).flatten.Nodup
 free : ∀ b ∈ (l.map T.blocks).flatten, ∀ o, w.frozen? ⟨b, o, none⟩ = false
section
variable {S : Nat → Prop} {w w' : World} {lo hi : Nat} {t : T} {l : List T}
theorem T.Ow.fr (h : t.Ow w lo hi) (hf : Fr S w w') (hh : hi ≤ w.heap.size) (hs : ∀ i, lo ≤ i → i < hi → ¬ S i) : t.Ow w' lo hi :=
 ⟨h.inn.fr hf hh hs, h.nodup, fun b hb o => by
  have := T.In.blocks t h.inn b hb
  rw [hf.frozen (by omega) (hs b this.1 this.2)]
  exact h.free b hb o⟩
theorem Forest.nil (w : World) (lo hi : Nat) : Forest w lo hi [] := ⟨by simp, by simp, by simp⟩
theorem Forest.blocks (h : Forest w lo hi l) : ∀ b ∈ (l.map T.blocks).flatten, lo ≤ b ∧ b < hi := fun b hb => by
 obtain ⟨bs, hbs, hb⟩ := List.mem_flatten.1 hb
 obtain ⟨x, hx, rfl⟩ := List.mem_map.1 hbs
 exact T.In.blocks x (h.inn x hx) b hb
theorem Forest.fr' (h : Forest w lo hi l) (hf : Fr S w w') (hh : hi ≤ w.heap.size) (hs : ∀ b ∈ (l.map T.blocks).flatten, ¬ S b) (hin : ∀ x ∈ l, x.In w' lo hi) : Forest w' lo hi l :=
 ⟨hin, h.nodup, fun b hb o => by
  have := h.blocks b hb
  rw [hf.frozen (by omega) (hs b hb)]
  exact h.free b hb o⟩
theorem Forest.fr (h : Forest w lo hi l) (hf : Fr S w w') (hh : hi ≤ w.heap.size) (hs : ∀ i, lo ≤ i → i < hi → ¬ S i) : Forest w' lo hi l :=
 h.fr' hf hh (fun b hb => hs b (h.blocks b hb).1 (h.blocks b hb).2) fun x hx => (h.inn x hx).fr hf hh hs
theorem Forest.no (h : Forest w lo hi l) (hf : Fr No w w') (hh : hi ≤ w.heap.size) : Forest w' lo hi l := h.fr hf hh fun _ _ _ h => h
theorem Forest.more {lo' hi' : Nat} (h : Forest w lo hi l) (hl : lo' ≤ lo) (hh : hi ≤ hi') : Forest w lo' hi' l := ⟨fun x hx => T.In.more hl hh x (h.inn x hx), h.nodup, h.free⟩
theorem Forest.snoc {hi' : Nat} (h : Forest w lo hi l) (hx : t.Ow w hi hi') (h0 : lo ≤ hi) (h1 : hi ≤ hi') : Forest w lo hi' (l ++ [t]) := by
 refine ⟨fun x hx' => ?_, ?_, fun b hb => ?_⟩
 · rcases List.mem_append.1 hx' with hx' | hx'
   · exact T.In.more (Nat.le_refl _) h1 x (h.inn x hx')
   · simp at hx'; subst hx'; exact T.In.more h0 (Nat.le_refl _) _ hx.inn
 · rw [List.map_append, List.flatten_append, List.nodup_append]
   refine ⟨h.nodup, by simpa using hx.nodup, fun a ha b hb => ?_⟩
   simp at hb
   have h2 := h.blocks a ha
   have h3 := T.In.blocks t hx.inn b hb
   omega
 · rw [List.map_append, List.flatten_append, List.mem_append] at hb
   rcases hb with hb | hb
   · exact h.free b hb
   · simp at hb; exact hx.free b hb
end
def RowIs (cs : Array Value) (o : Nat) (l : List T) : Prop := ∀ i x, l[i]? = some x → ∀ c u, x.cells[c]? = some u → cs[o + i * 5 + c]? = some u
theorem RowIs.nil (cs : Array Value) (o : Nat) : RowIs cs o [] := fun i x h => by simp at h
theorem T.cells_length (t : T) : t.cells.length = 5 := by cases t; rfl
theorem RowIs.snoc {cs cs' : Array Value} {o : Nat} {l : List T} {t : T} (h : RowIs cs o l) (hk : ∀ i, i < o + l.length * 5 → cs'[i]? = cs[i]?) (ht : ∀ c u, t.cells[c]? = some u → cs'[o + l.length * 5 + c]? = some u) :
 RowIs cs' o (l ++ [t]) := by
 intro i x hx c u hu
 have hc : c < 5 := by
  have := (List.getElem?_eq_some_iff.1 hu).1
  rw [T.cells_length] at this
  exact this
 rcases Nat.lt_or_ge i l.length with hi | hi
 · rw [List.getElem?_append_left hi] at hx
   rw [hk _ (by omega)]
   exact h i x hx c u hu
 · rw [List.getElem?_append_right hi] at hx
   have : i - l.length = 0 := by
    rcases Nat.eq_zero_or_pos (i - l.length) with h0 | h0
    · exact h0
    · rw [List.getElem?_eq_none (by simp; omega)] at hx; cases hx
   have hil : i = l.length := by omega
   subst hil
   simp at hx
   subst hx
   exact ht c u hu
theorem T.ow_mk {w : World} {lo hi g o cap : Nat} {k n : Int} {s : ByteArray} {l : List T} {r : Int} {cs : Array Value} (hf : Fit k n s l.length cap r) (hF : Forest w lo hi l) (hb : Blk w g 28 cs) (hr : RowIs cs o l)
 (h0 : lo ≤ g) (h1 : g < hi) (hg : g ∉ (l.map T.blocks).flatten) : (T.mk k n s (some ⟨g, o, none⟩) cap l r).Ow w lo hi := by
 refine ⟨T.in_mk.2 ⟨hf, fun _ => ⟨g, o, rfl, h0, h1, fun i x hx c u hu => ?_⟩, hF.inn⟩, ?_, ?_⟩
 · rw [hb.cell]; exact hr i x hx c u hu
 · rw [T.blocks_mk]
   cases l with
   | nil => simp
   | cons x l => 
    simp only [List.isEmpty_cons, Bool.false_eq_true, if_false, Option.map_some, Option.toList_some, List.singleton_append, List.nodup_cons]
    exact ⟨hg, hF.nodup⟩
 · rw [T.blocks_mk]
   intro b hb' o'
   rcases List.mem_append.1 hb' with hb' | hb'
   · cases l with
     | nil => simp at hb'
     | cons x l => simp at hb'; subst hb'; exact hb.frozen o'
   · exact hF.free b hb' o'
theorem T.ow_nil {w : World} {lo hi cap : Nat} {k n : Int} {s : ByteArray} {A : Option Addr} {r : Int} (hf : Fit k n s 0 cap r) : (T.mk k n s A cap [] r).Ow w lo hi := by
 refine ⟨T.in_mk.2 ⟨hf, fun h => absurd rfl h, by simp⟩, ?_, ?_⟩
 · rw [T.blocks_mk]; simp
 · rw [T.blocks_mk]; simp
theorem Blk.five {w : World} {g : Nat} {t : TypeId} {cs : Array Value} (h : Blk w g t cs) (o : Nat) (a b c d e : Value) :
 Blk (((((w.setCell ⟨g, o, none⟩ a).setCell ⟨g, o + 1, none⟩ b).setCell ⟨g, o + 2, none⟩ c).setCell ⟨g, o + 3, none⟩ d).setCell ⟨g, o + 4, none⟩ e) g t
  (((((cs.setIfInBounds o a).setIfInBounds (o + 1) b).setIfInBounds (o + 2) c).setIfInBounds (o + 3) d).setIfInBounds (o + 4) e) :=
 ((((h.set_ _ _).set_ _ _).set_ _ _).set_ _ _).set_ _ _
theorem Fr.five {S : Nat → Prop} {a w : World} (h : Fr S a w) {g : Nat} (hg : g < a.heap.size → S g) (o : Nat) (x0 x1 x2 x3 x4 : Value) :
 Fr S a (((((w.setCell ⟨g, o, none⟩ x0).setCell ⟨g, o + 1, none⟩ x1).setCell ⟨g, o + 2, none⟩ x2).setCell ⟨g, o + 3, none⟩ x3).setCell ⟨g, o + 4, none⟩ x4) :=
 ((((h.set (p := ⟨g, o, none⟩) hg _).set (p := ⟨g, o + 1, none⟩) hg _).set (p := ⟨g, o + 2, none⟩) hg _).set (p := ⟨g, o + 3, none⟩) hg _).set (p := ⟨g, o + 4, none⟩) hg _
theorem RowIs.five {cs : Array Value} {o : Nat} {l : List T} {k n : Int} {s : ByteArray} {A : Option Addr} {cap : Nat} {l1 : List T} {r : Int} (h : RowIs cs o l) (hs : o + l.length * 5 + 5 ≤ cs.size) :
 RowIs (((((cs.setIfInBounds (o + l.length * 5) (.int .u8 k)).setIfInBounds (o + l.length * 5 + 1) (.int .i64 n)).setIfInBounds (o + l.length * 5 + 2) (.string s)).setIfInBounds (o + l.length * 5 + 3) (.slice A l1.length cap)).setIfInBounds
  (o + l.length * 5 + 4) (.int .i64 r)) o (l ++ [T.mk k n s A cap l1 r]) := by
 refine h.snoc (fun i hi => ?_) fun c u hu => ?_
 · simp only [Array.getElem?_setIfInBounds]
   repeat rw [if_neg (by omega)]
 · match c, hu with
   | 0, hu => simp [T.cells] at hu; subst hu; simp [Array.getElem?_setIfInBounds]; omega
   | 1, hu => simp [T.cells] at hu; subst hu; simp [Array.getElem?_setIfInBounds]; omega
   | 2, hu => simp [T.cells] at hu; subst hu; simp [Array.getElem?_setIfInBounds]; omega
   | 3, hu => simp [T.cells] at hu; subst hu; simp [Array.getElem?_setIfInBounds]; omega
   | 4, hu => simp [T.cells] at hu; subst hu; simp [Array.getElem?_setIfInBounds]; omega
theorem Blk.cells5 {w : World} {g : Nat} {t : TypeId} {a b c d e : Value} (h : Blk w g t #[a, b, c, d, e]) :
 w.cell? ⟨g, 0, none⟩ = some a ∧ w.cell? ⟨g, 1, none⟩ = some b ∧ w.cell? ⟨g, 2, none⟩ = some c ∧ w.cell? ⟨g, 3, none⟩ = some d ∧ w.cell? ⟨g, 4, none⟩ = some e ∧ ∀ i, w.frozen? ⟨g, i, none⟩ = false :=
 ⟨h.cell 0, h.cell 1, h.cell 2, h.cell 3, h.cell 4, h.frozen⟩
end Go.Proofs.YtlejelbefmkakaaGreat

namespace Go.Proofs.YtlejelbefmkakaaGreat
open Go.Joins Go.ChangeShapes Go.WideShapes Go.RowKit Go.Deep
theorem choose_list {α : Type} {Q : Nat → α → Prop} : ∀ (n : Nat), (∀ i, i < n → ∃ x, Q i x) → ∃ l : List α, l.length = n ∧ ∀ i x, l[i]? = some x → Q i x
 | 0, _ => ⟨[], rfl, fun i x h => by simp at h⟩
 | n + 1, h => by
  obtain ⟨l, hl, hq⟩ := choose_list n fun i hi => h i (by omega)
  obtain ⟨x, hx⟩ := h n (by omega)
  refine ⟨l ++ [x], by simp [hl], fun i y hy => ?_⟩
  rcases Nat.lt_trichotomy i n with hi | rfl | hi
  · rw [List.getElem?_append_left (by omega)] at hy
    exact hq i y hy
  · rw [List.getElem?_append_right (by omega), hl] at hy
    simp at hy; subst hy; exact hx
  · rw [List.getElem?_eq_none (by simp; omega)] at hy; cases hy
theorem cell_lt {w : World} {a : Addr} {v : Value} (h : w.cell? a = some v) : a.block < w.heap.size := by
 rcases Nat.lt_or_ge a.block w.heap.size with hlt | hge
 · exact hlt
 · unfold World.cell? at h
   rw [Array.getElem?_eq_none hge] at h
   simp at h
section
variable {H : Type} {enc : TypeId × Value → H}
theorem wf_u8 {n : Int} (h : (Lit.int .u8 n).wf = true) : 0 ≤ n ∧ n < 256 := by
 obtain ⟨h0, h1⟩ : IntKind.u8.min ≤ n ∧ n ≤ IntKind.u8.max := by simpa [Lit.wf] using h
 have e0 : IntKind.u8.min = 0 := by decide
 have e1 : IntKind.u8.max = 255 := by decide
 omega
theorem wf_i64 {n : Int} (h : (Lit.int .i64 n).wf = true) : -9223372036854775808 ≤ n ∧ n ≤ 9223372036854775807 := by
 obtain ⟨h0, h1⟩ : IntKind.i64.min ≤ n ∧ n ≤ IntKind.i64.max := by simpa [Lit.wf] using h
 have e0 : IntKind.i64.min = -9223372036854775808 := by decide
 have e1 : IntKind.i64.max = 9223372036854775807 := by decide
 omega
theorem reach_eq : reachBytes = 140737488351232 := rfl
theorem add_at (b o n : Nat) : (⟨b, o, none⟩ : Addr).add n = ⟨b, o + n, none⟩ := by
 unfold Addr.add; split <;> simp_all
theorem mem_weightsAll {P : Program} {e : TypeId} {m : Nat} : ∀ {ds : List (DataW H)} {d : DataW H}, d ∈ ds → m ∈ d.weights P e → m ∈ DataW.weightsAll P e ds
 | [], _, h, _ => by simp at h
 | d0 :: ds, d, h, hm => by
  rw [DataW.weightsAll, List.mem_append]
  rcases List.mem_cons.1 h with rfl | h
  · exact .inl hm
  · exact .inr (mem_weightsAll h hm)
end
end Go.Proofs.YtlejelbefmkakaaGreat

namespace Go.Proofs.YtlejelbefmkakaaGreat
open Go.Joins Go.ChangeShapes Go.WideShapes Go.RowKit Go.Deep
inductive G where
 | mk (c : List Value) (subs : List (Option Addr × List G))
def G.c : G → List Value | .mk c _ => c
def G.subs : G → List (Option Addr × List G) | .mk _ s => s
theorem G.sub_lt {c : List Value} {subs : List (Option Addr × List G)} {A : Option Addr} {l : List G} {x : G} (h : (A, l) ∈ subs) (hx : x ∈ l) : SizeOf.sizeOf x < SizeOf.sizeOf (G.mk c subs) := by
 have h1 := List.sizeOf_lt_of_mem h
 have h2 := List.sizeOf_lt_of_mem hx
 simp at h1 ⊢
 omega
theorem G.ind {p : G → Prop} (h : ∀ c subs, (∀ A l, (A, l) ∈ subs → ∀ x ∈ l, p x) → p (.mk c subs)) (g : G) : p g :=
 match g with
 | .mk c subs => h c subs fun A l _hl x _hx => G.ind h x
termination_by g
decreasing_by exact G.sub_lt _hl _hx
def G.In (w : World) (lo hi : Nat) : G → Prop
 | .mk _ subs => ∀ A l, (hs : (A, l) ∈ subs) → (l ≠ [] → ∃ b o, A = some ⟨b, o, none⟩ ∧ lo ≤ b ∧ b < hi ∧ ∀ i x, l[i]? = some x → ∀ j u, x.c[j]? = some u → w.cell? ⟨b, o + i * x.c.length + j, none⟩ = some u) ∧ ∀ x ∈ l, G.In w lo hi x
termination_by g => g
decreasing_by
 have h1 := List.sizeOf_lt_of_mem hs
 have h2 := List.sizeOf_lt_of_mem ‹x ∈ l›
 simp at h1 ⊢
 omega
theorem G.in_mk {w : World} {lo hi : Nat} {c : List Value} {subs : List (Option Addr × List G)} :
 (G.mk c subs).In w lo hi ↔ ∀ A l, (A, l) ∈ subs → (l ≠ [] → ∃ b o, A = some ⟨b, o, none⟩ ∧ lo ≤ b ∧ b < hi ∧ ∀ i x, l[i]? = some x → ∀ j u, x.c[j]? = some u → w.cell? ⟨b, o + i * x.c.length + j, none⟩ = some u) ∧ ∀ x ∈ l, G.In w lo hi x := by
 rw [G.In]
theorem G.In.keep {w w' : World} {lo hi : Nat} (hk : ∀ b o, lo ≤ b → b < hi → w'.cell? ⟨b, o, none⟩ = w.cell? ⟨b, o, none⟩) (g : G) : g.In w lo hi → g.In w' lo hi := by
 induction g using G.ind with
 | h c subs ih =>
  rw [G.in_mk, G.in_mk]
  intro h A l hs
  obtain ⟨h1, h2⟩ := h A l hs
  refine ⟨fun hl => ?_, fun x hx => ih A l hs x hx (h2 x hx)⟩
  obtain ⟨b, o, rfl, hb0, hb1, hc⟩ := h1 hl
  exact ⟨b, o, rfl, hb0, hb1, fun i x hx j u hu => (hk b _ hb0 hb1).trans (hc i x hx j u hu)⟩
theorem G.In.more {w : World} {lo hi lo' hi' : Nat} (hl : lo' ≤ lo) (hh : hi ≤ hi') (g : G) : g.In w lo hi → g.In w lo' hi' := by
 induction g using G.ind with
 | h c subs ih =>
  rw [G.in_mk, G.in_mk]
  intro h A l hs
  obtain ⟨h1, h2⟩ := h A l hs
  refine ⟨fun hl => ?_, fun x hx => ih A l hs x hx (h2 x hx)⟩
  obtain ⟨b, o, rfl, hb0, hb1, hc⟩ := h1 hl
  exact ⟨b, o, rfl, by omega, by omega, hc⟩
section
variable {S : Nat → Prop} {a w : World} {lo hi : Nat} {g : G}
theorem G.In.fr (h : g.In a lo hi) (hf : Fr S a w) (hh : hi ≤ a.heap.size) (hs : ∀ i, lo ≤ i → i < hi → ¬ S i) : g.In w lo hi :=
 G.In.keep (fun b o h0 h1 => hf.cell (by omega) (hs b h0 h1)) g h
theorem G.In.no (h : g.In a lo hi) (hf : Fr No a w) (hh : hi ≤ a.heap.size) : g.In w lo hi := h.fr hf hh fun _ _ _ h => h
end
inductive Fd where
 | int (k : IntKind)
 | bool
 | str
 | sl (e : TypeId) (size : Nat)
def FitsF : List Fd → List Value → List (Option Addr × List G) → Prop
 | [], c, s => c = [] ∧ s = []
 | .int k :: fs, v :: c, s => (∃ n, v = .int k n ∧ (Lit.int k n).wf = true) ∧ FitsF fs c s
 | .bool :: fs, v :: c, s => (∃ b, v = .bool b) ∧ FitsF fs c s
 | .str :: fs, v :: c, s => (∃ b : ByteArray, v = .string b ∧ b.size ≤ 140737488351232) ∧ FitsF fs c s
 | .sl _ size :: fs, v :: c, x :: s => (∃ cap, v = .slice x.1 x.2.length cap ∧ x.2.length ≤ cap ∧ x.2.length * size ≤ 140737488351232) ∧ FitsF fs c s
 | _, _, _ => False
def sls : List Fd → List TypeId
 | [] => []
 | .sl e _ :: fs => e :: sls fs
 | .int _ :: fs => sls fs
 | .bool :: fs => sls fs
 | .str :: fs => sls fs
theorem sls_append : ∀ (f1 f2 : List Fd), sls (f1 ++ f2) = sls f1 ++ sls f2
 | [], _ => rfl
 | .sl _ _ :: fs, f2 => by simp [sls, sls_append fs f2]
 | .int _ :: fs, f2 => by simp [sls, sls_append fs f2]
 | .bool :: fs, f2 => by simp [sls, sls_append fs f2]
 | .str :: fs, f2 => by simp [sls, sls_append fs f2]
theorem FitsF.subs : ∀ {fs : List Fd} {c : List Value} {s : List (Option Addr × List G)}, FitsF fs c s → c.length = fs.length ∧ s.length = (sls fs).length
 | [], c, s, h => by obtain ⟨rfl, rfl⟩ := h; simp [sls]
 | .int k :: fs, [], s, h => h.elim
 | .int k :: fs, v :: c, s, h => by have := FitsF.subs h.2; simp [sls, this]
 | .bool :: fs, [], s, h => h.elim
 | .bool :: fs, v :: c, s, h => by have := FitsF.subs h.2; simp [sls, this]
 | .str :: fs, [], s, h => h.elim
 | .str :: fs, v :: c, s, h => by have := FitsF.subs h.2; simp [sls, this]
 | .sl e z :: fs, [], s, h => h.elim
 | .sl e z :: fs, v :: c, [], h => h.elim
 | .sl e z :: fs, v :: c, x :: s, h => by have := FitsF.subs h.2; simp [sls, this]
theorem FitsF.append : ∀ {f1 f2 : List Fd} {c1 c2 : List Value} {s1 s2 : List (Option Addr × List G)}, FitsF f1 c1 s1 → FitsF f2 c2 s2 → FitsF (f1 ++ f2) (c1 ++ c2) (s1 ++ s2)
 | [], _, c, _, s, _, h, h2 => by obtain ⟨rfl, rfl⟩ := h; exact h2
 | .int k :: fs, _, [], _, s, _, h, _ => h.elim
 | .int k :: fs, _, v :: c, _, s, _, h, h2 => ⟨h.1, FitsF.append h.2 h2⟩
 | .bool :: fs, _, [], _, s, _, h, _ => h.elim
 | .bool :: fs, _, v :: c, _, s, _, h, h2 => ⟨h.1, FitsF.append h.2 h2⟩
 | .str :: fs, _, [], _, s, _, h, _ => h.elim
 | .str :: fs, _, v :: c, _, s, _, h, h2 => ⟨h.1, FitsF.append h.2 h2⟩
 | .sl e z :: fs, _, [], _, s, _, h, _ => h.elim
 | .sl e z :: fs, _, v :: c, _, [], _, h, _ => h.elim
 | .sl e z :: fs, _, v :: c, _, x :: s, _, h, h2 => ⟨h.1, FitsF.append h.2 h2⟩
inductive HasTy (flat : TypeId → List Fd) : TypeId → G → Prop
 | mk (t : TypeId) (c : List Value) (subs : List (Option Addr × List G)) (h : FitsF (flat t) c subs) (hk : ∀ (i : Nat) (e : TypeId) (A : Option Addr) (l : List G) (x : G), (sls (flat t))[i]? = some e → subs[i]? = some (A, l) → x ∈ l → HasTy flat e x) : HasTy flat t (.mk c subs)
def flatFs (rec : TypeId → Option (List Fd)) (P : Program) : Nat → List Field → Option (List Fd)
 | _, [] => some []
 | o, f :: fs => match rec f.type with
  | none => none
  | some fl => if f.offset = o ∧ P.cellsOf f.type = fl.length then (flatFs rec P (o + fl.length) fs).map (fl ++ ·) else none
def flatOf (P : Program) : Nat → TypeId → Option (List Fd)
 | 0, _ => none
 | n + 1, t => match P.underlying t with
  | some (.int k) => some [.int k]
  | some .bool => some [.bool]
  | some .string => some [.str]
  | some (.slice e) => some [.sl e (P.bytesOf e)]
  | some (.struct fs) => match flatFs (flatOf P n) P 0 fs.toList with
   | none => none
   | some fl => if P.cellsOf t = fl.length then some fl else none
  | _ => none
section
variable {H : Type} {enc : TypeId × Value → H} {P : Program} {W : World} {flat : TypeId → List Fd}
def Opn (W : World) (flat : TypeId → List Fd) (fs : List Fd) (cs : List Value) : Prop :=
 ∃ subs, FitsF fs cs subs ∧ (∀ (i : Nat) (e : TypeId) (A : Option Addr) (l : List G) (x : G), (sls fs)[i]? = some e → subs[i]? = some (A, l) → x ∈ l → HasTy flat e x) ∧
  ∀ A l, (A, l) ∈ subs → (l ≠ [] → ∃ b o, A = some ⟨b, o, none⟩ ∧ 0 ≤ b ∧ b < W.heap.size ∧ ∀ i x, l[i]? = some x → ∀ j u, x.c[j]? = some u → W.cell? ⟨b, o + i * x.c.length + j, none⟩ = some u) ∧ ∀ x ∈ l, G.In W 0 W.heap.size x
theorem Opn.append {f1 f2 : List Fd} {c1 c2 : List Value} (h1 : Opn W flat f1 c1) (h2 : Opn W flat f2 c2) : Opn W flat (f1 ++ f2) (c1 ++ c2) := by
 obtain ⟨s1, a1, b1, d1⟩ := h1
 obtain ⟨s2, a2, b2, d2⟩ := h2
 refine ⟨s1 ++ s2, a1.append a2, fun i e A l x he hs hx => ?_, fun A l h => ?_⟩
 · rw [sls_append] at he
   have hl := a1.subs.2
   rcases Nat.lt_or_ge i s1.length with hi | hi
   · rw [List.getElem?_append_left hi] at hs
     rw [List.getElem?_append_left (by omega)] at he
     exact b1 i e A l x he hs hx
   · rw [List.getElem?_append_right hi] at hs
     rw [List.getElem?_append_right (by omega), ← hl] at he
     exact b2 _ e A l x he hs hx
 · rcases List.mem_append.1 h with h | h
   · exact d1 A l h
   · exact d2 A l h
theorem Opn.tree {t : TypeId} {cs : List Value} (h : Opn W flat (flat t) cs) : ∃ g : G, cs = g.c ∧ HasTy flat t g ∧ g.In W 0 W.heap.size := by
 obtain ⟨subs, a, b, d⟩ := h
 exact ⟨.mk cs subs, rfl, .mk t cs subs a b, G.in_mk.2 d⟩
theorem hasTy_length {t : TypeId} {g : G} (h : HasTy flat t g) : g.c.length = (flat t).length := by
 cases h with
 | mk t c subs h hk => exact h.subs.1
theorem weights_struct {t : TypeId} {fs : Array Field} (ht : P.underlying t = some (.struct fs)) (ds : List (DataW H)) : (DataW.agg ds).weights P t = DataW.weightsEach P (fs.toList.map (·.type)) ds := by
 rw [DataW.weights, ht]
theorem weights_slice {t e : TypeId} (ht : P.underlying t = some (.slice e)) (es rs : List (DataW H)) : (DataW.slice es rs).weights P t = (es.length + rs.length) * P.bytesOf e :: (DataW.weightsAll P e es ++ DataW.weightsAll P e rs) := by
 rw [DataW.weights, ht]
theorem open_fields {S : TypeId → Prop} {rec : TypeId → Option (List Fd)} {R : TypeId → List Value → DataW H × List MemPlace → Prop} (hrec : ∀ t fl cs x, rec t = some fl → (∀ e ∈ sls fl, S e) → R t cs x → (∀ m ∈ x.1.weights P t, m ≤ reachBytes) → Opn W flat fl cs) :
 ∀ (fs : List Field) (o : Nat) (fl : List Fd) (cs : List Value) (xs : List (DataW H × List MemPlace)), flatFs rec P o fs = some fl → (∀ e ∈ sls fl, S e) → xs.length = fs.length → cs.length = o + fl.length →
  (∀ (i : Nat) (f : Field) x, fs[i]? = some f → xs[i]? = some x → R f.type ((cs.drop f.offset).take (P.cellsOf f.type)) x) → (∀ m ∈ DataW.weightsEach P (fs.map (·.type)) (xs.map (·.1)), m ≤ reachBytes) →
  Opn W flat fl (cs.drop o)
 | [], o, fl, cs, xs, h, _, _, hl, _, _ => by
  simp only [flatFs, Option.some.injEq] at h
  subst h
  rw [List.drop_eq_nil_of_le (by simp at hl; omega)]
  exact ⟨[], ⟨rfl, rfl⟩, by simp, by simp⟩
 | f :: fs, o, fl, cs, [], h, _, hx, _, _, _ => by simp at hx
 | f :: fs, o, fl, cs, x :: xs, h, hsl, hx, hl, hR, hw => by
  unfold flatFs at h
  cases hf : rec f.type with
  | none => rw [hf] at h; cases h
  | some f1 =>
   rw [hf] at h
   simp only at h
   split at h
   · rename_i hc
     obtain ⟨rest, hr, rfl⟩ := Option.map_eq_some_iff.1 h
     have h0 := hR 0 f x rfl rfl
     rw [hc.1, hc.2] at h0
     have hw0 : ∀ m ∈ x.1.weights P f.type, m ≤ reachBytes := fun m hm => hw m (by
      rw [List.map_cons, List.map_cons, DataW.weightsEach]
      exact List.mem_append_left _ hm)
     have h1 := hrec f.type f1 _ x hf (fun e he => hsl e (by rw [sls_append]; exact List.mem_append_left _ he)) h0 hw0
     have h2 := open_fields hrec fs (o + f1.length) rest cs xs hr (fun e he => hsl e (by rw [sls_append]; exact List.mem_append_right _ he)) (by simpa using hx) (by simp at hl; omega) (fun i f' x' hf' hx' => hR (i + 1) f' x' (by simpa using hf') (by simpa using hx')) (fun m hm => hw m (by
      rw [List.map_cons, List.map_cons, DataW.weightsEach]
      exact List.mem_append_right _ hm))
     have e : cs.drop o = (cs.drop o).take f1.length ++ cs.drop (o + f1.length) := by
      rw [← List.drop_drop, List.take_append_drop]
     rw [e]
     exact h1.append h2
   · cases h
theorem open_flat {S : TypeId → Prop} (hS : ∀ t, S t → flatOf P 6 t = some (flat t)) (hK : ∀ t, S t → ∀ e ∈ sls (flat t), S e) (hC : ∀ t, S t → P.cellsOf t = (flat t).length ∧ 0 < (flat t).length) (fuel : Nat) :
 ∀ (n : Nat) (t : TypeId) (fl : List Fd), (∀ e ∈ sls fl, S e) → flatOf P n t = some fl → ∀ (cs : List Value) (x : DataW H × List MemPlace), DataW.trod enc P W 0 (fun _ => true) true fuel t cs = some x → (∀ m ∈ x.1.weights P t, m ≤ reachBytes) → Opn W flat fl cs := by
 induction fuel using Nat.strongRecOn with
 | ind fuel IH =>
  intro n
  cases n with
  | zero => intro t fl _ h; cases h
  | succ n =>
   intro t fl hsl h cs x hx hw
   unfold flatOf at h
   split at h
   · rename_i k hu
     simp only [Option.some.injEq] at h
     subst h
     obtain ⟨m, rfl, rfl, hwf⟩ := DataW.trod_int hu hx
     exact ⟨[], ⟨⟨m, rfl, hwf⟩, rfl, rfl⟩, by simp, by simp⟩
   · rename_i hu
     simp only [Option.some.injEq] at h
     subst h
     obtain ⟨b, rfl, rfl⟩ := DataW.trod_bool hu hx
     exact ⟨[], ⟨⟨b, rfl⟩, rfl, rfl⟩, by simp, by simp⟩
   · rename_i hu
     simp only [Option.some.injEq] at h
     subst h
     obtain ⟨s, rfl, rfl, -⟩ := DataW.trod_string hu hx
     have hs : s.size ≤ 140737488351232 := by
      have := hw s.data.toList.length (by rw [DataW.weights]; simp)
      rw [reach_eq, Array.length_toList] at this
      exact this
     exact ⟨[], ⟨⟨s, rfl, hs⟩, rfl, rfl⟩, by simp, by simp⟩
   · rename_i e hu
     simp only [Option.some.injEq] at h
     subst h
     have hSe : S e := hsl e (by simp [sls])
     rcases DataW.trod_slice hu hx with ⟨rfl, rfl⟩ | ⟨a, len, cap, elems, rest, n', rfl, rfl, rfl, -, hcap, hmax, hel, hat, hsp, -⟩
     · refine ⟨[(none, [])], ⟨⟨0, rfl, Nat.le_refl _, by simp⟩, rfl, rfl⟩, fun i e' A l x _ hs hx' => ?_, fun A l h => ?_⟩
       · cases i with
         | zero => simp at hs; obtain ⟨rfl, rfl⟩ := hs; simp at hx'
         | succ i => simp at hs
       · simp at h; obtain ⟨rfl, rfl⟩ := h; exact ⟨fun h => absurd rfl h, by simp⟩
     · have hlen1 : len * P.bytesOf e ≤ 140737488351232 := by
        have := hw ((elems.length + rest.length) * P.bytesOf e) (by rw [weights_slice hu]; simp)
        rw [reach_eq, hel] at this
        exact Nat.le_trans (Nat.mul_le_mul_right _ (Nat.le_add_right _ _)) this
       have hce := hC e hSe
       have hone : ∀ i, i < len → ∃ g : G, (∀ j u, g.c[j]? = some u → W.cell? ((a.add (i * P.cellsOf e)).add j) = some u) ∧ HasTy flat e g ∧ g.In W 0 W.heap.size := by
        intro i hi
        have h1 := hat i hi
        have h2 : elems[i]? = some (elems[i]'(by omega)) := List.getElem?_eq_getElem (by omega)
        rw [h2] at h1
        obtain ⟨cs', hc, ht'⟩ := Option.bind_eq_some_iff.1 h1
        obtain ⟨g, rfl, hty, hin⟩ := Opn.tree (IH n' (by omega) 6 e (flat e) (hK e hSe) (hS e hSe) cs' _ ht' (fun m hm => hw m (by
         rw [weights_slice hu]
         refine List.mem_cons_of_mem _ (List.mem_append_left _ ?_)
         exact mem_weightsAll (List.mem_map_of_mem (List.getElem_mem _)) hm)))
        obtain ⟨-, hcl, hcell⟩ := World.cells?_some hc
        refine ⟨g, fun j u hu => ?_, hty, hin⟩
        have hj : j < g.c.length := (List.getElem?_eq_some_iff.1 hu).1
        rw [hcell j (by rw [hce.1, ← hasTy_length hty]; exact hj), hu]
       obtain ⟨l, hl, hq⟩ := choose_list len hone
       subst hl
       obtain ⟨b, o, sp⟩ := a
       refine ⟨[(some ⟨b, o, sp⟩, l)], ⟨⟨cap, rfl, hcap, hlen1⟩, rfl, rfl⟩, fun i e' A l' x he hs hx' => ?_, fun A l' h => ?_⟩
       · cases i with
         | zero =>
          simp [sls] at hs he
          obtain ⟨rfl, rfl⟩ := hs
          subst he
          obtain ⟨k, hk, rfl⟩ := List.mem_iff_getElem.1 hx'
          exact (hq k _ (List.getElem?_eq_getElem hk)).2.1
         | succ i => simp at hs
       · simp at h
         obtain ⟨rfl, rfl⟩ := h
         refine ⟨fun hne => ?_, fun x hx' => ?_⟩
         · have hlp : 0 < l'.length := List.length_pos_iff.2 hne
           obtain ⟨hc0, hty0, -⟩ := hq 0 _ (List.getElem?_eq_getElem hlp)
           have hcl0 : 0 < (l'[0]).c.length := by rw [hasTy_length hty0]; exact hce.2
           have hcc := hc0 0 _ (List.getElem?_eq_getElem hcl0)
           have hspot : sp = none := by simpa [Addr.add] using World.cell?_spot hcc
           subst hspot
           have hlt := cell_lt hcc
           refine ⟨b, o, rfl, Nat.zero_le _, by simpa [Addr.add] using hlt, fun i x hx j u hu => ?_⟩
           have hqi := hq i x hx
           have := hqi.1 j u hu
           rw [add_at, add_at, hce.1, ← hasTy_length hqi.2.1] at this
           exact this
         · obtain ⟨k, hk, rfl⟩ := List.mem_iff_getElem.1 hx'
           exact (hq k _ (List.getElem?_eq_getElem hk)).2.2
   · rename_i fs hu
     cases hff : flatFs (flatOf P n) P 0 fs.toList with
     | none => rw [hff] at h; cases h
     | some fl' =>
      rw [hff] at h
      simp only at h
      split at h
      · rename_i hcl
        simp only [Option.some.injEq] at h
        subst h
        obtain ⟨xs, n', rfl, rfl, hlen, hxs, hg⟩ := DataW.trod_struct hu hx
        have := open_fields (H := H) (P := P) (W := W) (flat := flat) (S := S) (rec := flatOf P n) (R := fun t cs x => DataW.trod enc P W 0 (fun _ => true) true n' t cs = some x)
         (fun t fl cs x h1 h5 h2 h3 => IH n' (by omega) n t fl h5 h1 cs x h2 h3)
         fs.toList 0 fl' cs xs hff hsl (by simpa using hxs) (by rw [hlen, hcl]; simp) (fun i f x hf hx' => by rw [hg i f (by simpa using hf)]; exact hx') (fun m hm => hw m (by rw [weights_struct hu]; exact hm))
        rw [List.drop_zero] at this
        exact this
      · cases h
   · cases h
end
end Go.Proofs.YtlejelbefmkakaaGreat

namespace Go.Proofs.YtlejelbefmkakaaGreat
open Go.Joins Go.ChangeShapes Go.WideShapes Go.RowKit Go.Deep
theorem FitsF.inv_int {k : IntKind} {fs : List Fd} {c : List Value} {s : List (Option Addr × List G)} (h : FitsF (.int k :: fs) c s) : ∃ n c', c = .int k n :: c' ∧ (Lit.int k n).wf = true ∧ FitsF fs c' s := by
 cases c with
 | nil => exact h.elim
 | cons v c => obtain ⟨⟨n, rfl, hw⟩, h2⟩ := h; exact ⟨n, c, rfl, hw, h2⟩
theorem FitsF.inv_bool {fs : List Fd} {c : List Value} {s : List (Option Addr × List G)} (h : FitsF (.bool :: fs) c s) : ∃ b c', c = .bool b :: c' ∧ FitsF fs c' s := by
 cases c with
 | nil => exact h.elim
 | cons v c => obtain ⟨⟨n, rfl⟩, h2⟩ := h; exact ⟨n, c, rfl, h2⟩
theorem FitsF.inv_str {fs : List Fd} {c : List Value} {s : List (Option Addr × List G)} (h : FitsF (.str :: fs) c s) : ∃ (b : ByteArray) (c' : List Value), c = .string b :: c' ∧ b.size ≤ 140737488351232 ∧ FitsF fs c' s := by
 cases c with
 | nil => exact h.elim
 | cons v c => obtain ⟨⟨n, rfl, hw⟩, h2⟩ := h; exact ⟨n, c, rfl, hw, h2⟩
theorem FitsF.inv_sl {e : TypeId} {z : Nat} {fs : List Fd} {c : List Value} {s : List (Option Addr × List G)} (h : FitsF (.sl e z :: fs) c s) :
 ∃ A l cap c' s', c = .slice A l.length cap :: c' ∧ s = (A, l) :: s' ∧ l.length ≤ cap ∧ l.length * z ≤ 140737488351232 ∧ FitsF fs c' s' := by
 cases c with
 | nil => exact h.elim
 | cons v c =>
  cases s with
  | nil => exact h.elim
  | cons x s =>
   obtain ⟨A, l⟩ := x
   obtain ⟨⟨cap, rfl, h1, h3⟩, h2⟩ := h
   exact ⟨A, l, cap, c, s, rfl, rfl, h1, h3, h2⟩
theorem FitsF.inv_nil {c : List Value} {s : List (Option Addr × List G)} (h : FitsF [] c s) : c = [] ∧ s = [] := h
def flat (t : TypeId) : List Fd :=
 if t = 28 then [.int .u8, .int .i64, .str, .sl 28 64, .int .i64] else
 if t = 308 then [.int .u8, .int .i64, .str, .sl 308 56] else
 if t = 311 then [.int .u8, .str, .str, .int .u8, .int .u8, .int .u8, .int .i64, .str, .sl 308 56, .int .u8, .int .i64, .str, .sl 308 56, .sl 311 256, .sl 311 256, .sl 311 256, .sl 9 16] else
 if t = 260 then [.str, .int .u8, .int .i64, .str, .sl 28 64, .int .i64] else
 if t = 138 then [.int .u8, .int .i64, .int .u8, .int .i64, .str, .sl 28 64, .int .i64, .sl 28 64, .int .i64, .int .i64, .int .i64, .int .i64, .int .u8, .bool, .sl 311 256, .sl 260 80] else
 if t = 140 then [.int .i64, .int .u8, .int .i64, .int .u8, .int .i64, .str, .sl 28 64, .int .i64, .sl 28 64, .int .i64, .int .i64, .int .i64, .int .i64, .int .u8, .bool, .sl 311 256, .sl 260 80] else
 if t = 71 then [.sl 23 8, .sl 3 8, .sl 140 200, .int .i64, .sl 3 8] else
 if t = 23 then [.int .i64] else
 if t = 3 then [.int .i64] else
 if t = 9 then [.str] else
 if t = 24 then [.int .u8] else
 []
theorem flat_val : flat 28 = [.int .u8, .int .i64, .str, .sl 28 64, .int .i64] := by simp [flat]
theorem flat_val_of : flatOf Tryz.prog 6 28 = some (flat 28) := by kernel_rfl
theorem flat_expr : flat 308 = [.int .u8, .int .i64, .str, .sl 308 56] := by simp [flat]
theorem flat_expr_of : flatOf Tryz.prog 6 308 = some (flat 308) := by kernel_rfl
theorem flat_stmt : flat 311 = [.int .u8, .str, .str, .int .u8, .int .u8, .int .u8, .int .i64, .str, .sl 308 56, .int .u8, .int .i64, .str, .sl 308 56, .sl 311 256, .sl 311 256, .sl 311 256, .sl 9 16] := by simp [flat]
theorem flat_stmt_of : flatOf Tryz.prog 6 311 = some (flat 311) := by kernel_rfl
theorem flat_name : flat 260 = [.str, .int .u8, .int .i64, .str, .sl 28 64, .int .i64] := by simp [flat]
theorem flat_name_of : flatOf Tryz.prog 6 260 = some (flat 260) := by kernel_rfl
theorem flat_entry : flat 140 = [.int .i64, .int .u8, .int .i64, .int .u8, .int .i64, .str, .sl 28 64, .int .i64, .sl 28 64, .int .i64, .int .i64, .int .i64, .int .i64, .int .u8, .bool, .sl 311 256, .sl 260 80] := by simp [flat]
theorem flat_entry_of : flatOf Tryz.prog 6 140 = some (flat 140) := by kernel_rfl
theorem flat_world : flat 71 = [.sl 23 8, .sl 3 8, .sl 140 200, .int .i64, .sl 3 8] := by simp [flat]
theorem flat_world_of : flatOf Tryz.prog 6 71 = some (flat 71) := by kernel_rfl
theorem flat_side : flat 23 = [.int .i64] := by simp [flat]
theorem flat_side_of : flatOf Tryz.prog 6 23 = some (flat 23) := by kernel_rfl
theorem flat_int : flat 3 = [.int .i64] := by simp [flat]
theorem flat_int_of : flatOf Tryz.prog 6 3 = some (flat 3) := by kernel_rfl
theorem flat_str : flat 9 = [.str] := by simp [flat]
theorem flat_str_of : flatOf Tryz.prog 6 9 = some (flat 9) := by kernel_rfl
theorem flat_able : flat 24 = [.int .u8] := by simp [flat]
theorem flat_able_of : flatOf Tryz.prog 6 24 = some (flat 24) := by kernel_rfl
def Met (t : TypeId) : Prop := t = 28 ∨ t = 308 ∨ t = 311 ∨ t = 260 ∨ t = 140 ∨ t = 23 ∨ t = 3 ∨ t = 9 ∨ t = 24
theorem met_flat (t : TypeId) (h : Met t) : flatOf Tryz.prog 6 t = some (flat t) := by
 rcases h with rfl | rfl | rfl | rfl | rfl | rfl | rfl | rfl | rfl
 · exact flat_val_of
 · exact flat_expr_of
 · exact flat_stmt_of
 · exact flat_name_of
 · exact flat_entry_of
 · exact flat_side_of
 · exact flat_int_of
 · exact flat_str_of
 · exact flat_able_of
theorem met_closed (t : TypeId) (h : Met t) : ∀ e ∈ sls (flat t), Met e := by
 rcases h with rfl | rfl | rfl | rfl | rfl | rfl | rfl | rfl | rfl
 · rw [flat_val]; simp [sls, Met]
 · rw [flat_expr]; simp [sls, Met]
 · rw [flat_stmt]; simp [sls, Met]
 · rw [flat_name]; simp [sls, Met]
 · rw [flat_entry]; simp [sls, Met]
 · rw [flat_side]; simp [sls]
 · rw [flat_int]; simp [sls]
 · rw [flat_str]; simp [sls]
 · rw [flat_able]; simp [sls]
theorem met_cells (t : TypeId) (h : Met t) : Tryz.prog.cellsOf t = (flat t).length ∧ 0 < (flat t).length := by
 rcases h with rfl | rfl | rfl | rfl | rfl | rfl | rfl | rfl | rfl
 · rw [flat_val]; exact ⟨by kernel_rfl, by decide⟩
 · rw [flat_expr]; exact ⟨by kernel_rfl, by decide⟩
 · rw [flat_stmt]; exact ⟨by kernel_rfl, by decide⟩
 · rw [flat_name]; exact ⟨by kernel_rfl, by decide⟩
 · rw [flat_entry]; exact ⟨by kernel_rfl, by decide⟩
 · rw [flat_side]; exact ⟨by kernel_rfl, by decide⟩
 · rw [flat_int]; exact ⟨by kernel_rfl, by decide⟩
 · rw [flat_str]; exact ⟨by kernel_rfl, by decide⟩
 · rw [flat_able]; exact ⟨by kernel_rfl, by decide⟩
abbrev Ty (t : TypeId) (g : G) : Prop := HasTy flat t g
theorem Ty.kids {t : TypeId} {c : List Value} {subs : List (Option Addr × List G)} (h : Ty t (.mk c subs)) (i : Nat) (e : TypeId) {A : Option Addr} {l : List G} (he : (sls (flat t))[i]? = some e) (hs : subs[i]? = some (A, l)) : ∀ x ∈ l, Ty e x := by
 cases h with
 | mk _ _ _ h hk => exact fun x hx => hk i e A l x he hs hx
theorem Ty.fits {t : TypeId} {c : List Value} {subs : List (Option Addr × List G)} (h : Ty t (.mk c subs)) : FitsF (flat t) c subs := by
 cases h with
 | mk _ _ _ h hk => exact h
theorem ty_num {t : TypeId} {k : IntKind} (hf : flat t = [.int k]) {g : G} (h : Ty t g) : ∃ n, g = .mk [.int k n] [] ∧ (Lit.int k n).wf = true := by
 obtain ⟨c, s⟩ := g
 have h0 := h.fits
 rw [hf] at h0
 obtain ⟨n, c, rfl, hw, h0⟩ := h0.inv_int
 obtain ⟨rfl, rfl⟩ := h0.inv_nil
 exact ⟨n, rfl, hw⟩
theorem ty_str {g : G} (h : Ty 9 g) : ∃ s : ByteArray, g = .mk [.string s] [] ∧ s.size ≤ 140737488351232 := by
 obtain ⟨c, s⟩ := g
 have h0 := h.fits
 rw [flat_str] at h0
 obtain ⟨n, c, rfl, hw, h0⟩ := h0.inv_str
 obtain ⟨rfl, rfl⟩ := h0.inv_nil
 exact ⟨n, rfl, hw⟩
structure FitE (k n : Int) (s : ByteArray) (len cap : Nat) : Prop where
 k0 : 0 ≤ k
 k1 : k < 256
 n0 : -9223372036854775808 ≤ n
 n1 : n ≤ 9223372036854775807
 s1 : s.size ≤ 140737488351232
 len1 : len * 56 ≤ 140737488351232
 cap1 : len ≤ cap
theorem ty_expr {g : G} (h : Ty 308 g) : ∃ k n s A cap l, g = .mk [.int .u8 k, .int .i64 n, .string s, .slice A l.length cap] [(A, l)] ∧ FitE k n s l.length cap ∧ ∀ x ∈ l, Ty 308 x := by
 obtain ⟨c, s⟩ := g
 have h0 := h.fits
 rw [flat_expr] at h0
 obtain ⟨k, c, rfl, w1, h0⟩ := h0.inv_int
 obtain ⟨n, c, rfl, w2, h0⟩ := h0.inv_int
 obtain ⟨b, c, rfl, w3, h0⟩ := h0.inv_str
 obtain ⟨A, l, cap, c, s, rfl, rfl, w4, w5, h0⟩ := h0.inv_sl
 obtain ⟨rfl, rfl⟩ := h0.inv_nil
 exact ⟨k, n, b, A, cap, l, rfl, ⟨(wf_u8 w1).1, (wf_u8 w1).2, (wf_i64 w2).1, (wf_i64 w2).2, w3, w5, w4⟩, h.kids 0 _ (by rw [flat_expr]; rfl) rfl⟩
structure FitS (op : Int) (nm sc : ByteArray) (ab wh : Int) (th el co wi : Nat) (c1 c2 c3 c4 : Nat) : Prop where
 op0 : 0 ≤ op ∧ op < 256
 nm1 : nm.size ≤ 140737488351232
 sc1 : sc.size ≤ 140737488351232
 ab0 : 0 ≤ ab ∧ ab < 256
 wh0 : 0 ≤ wh ∧ wh < 256
 th1 : th * 256 ≤ 140737488351232 ∧ th ≤ c1
 el1 : el * 256 ≤ 140737488351232 ∧ el ≤ c2
 co1 : co * 256 ≤ 140737488351232 ∧ co ≤ c3
 wi1 : wi * 16 ≤ 140737488351232 ∧ wi ≤ c4
def stC (op : Int) (nm sc : ByteArray) (ab wh : Int) (k1 n1 : Int) (s1 : ByteArray) (A1 : Option Addr) (l1 z1 : Nat) (k2 n2 : Int) (s2 : ByteArray) (A2 : Option Addr) (l2 z2 : Nat) (A3 : Option Addr) (l3 z3 : Nat) (A4 : Option Addr) (l4 z4 : Nat) (A5 : Option Addr) (l5 z5 : Nat) (A6 : Option Addr) (l6 z6 : Nat) : List Value :=
 [.int .u8 op, .string nm, .string sc, .int .u8 ab, .int .u8 wh, .int .u8 k1, .int .i64 n1, .string s1, .slice A1 l1 z1, .int .u8 k2, .int .i64 n2, .string s2, .slice A2 l2 z2, .slice A3 l3 z3, .slice A4 l4 z4, .slice A5 l5 z5, .slice A6 l6 z6]
theorem ty_stmt {g : G} (h : Ty 311 g) : ∃ op nm sc ab wh k1 n1 s1 A1 l1 z1 k2 n2 s2 A2 l2 z2 A3 l3 z3 A4 l4 z4 A5 l5 z5 A6 l6 z6,
 g = .mk (stC op nm sc ab wh k1 n1 s1 A1 (List.length l1) z1 k2 n2 s2 A2 (List.length l2) z2 A3 (List.length l3) z3 A4 (List.length l4) z4 A5 (List.length l5) z5 A6 (List.length l6) z6) [(A1, l1), (A2, l2), (A3, l3), (A4, l4), (A5, l5), (A6, l6)] ∧
 FitS op nm sc ab wh (List.length l3) (List.length l4) (List.length l5) (List.length l6) z3 z4 z5 z6 ∧ FitE k1 n1 s1 (List.length l1) z1 ∧ FitE k2 n2 s2 (List.length l2) z2 ∧
 (∀ x ∈ l1, Ty 308 x) ∧ (∀ x ∈ l2, Ty 308 x) ∧ (∀ x ∈ l3, Ty 311 x) ∧ (∀ x ∈ l4, Ty 311 x) ∧ (∀ x ∈ l5, Ty 311 x) ∧ ∀ x ∈ l6, Ty 9 x := by
 obtain ⟨c, s⟩ := g
 have h0 := h.fits
 rw [flat_stmt] at h0
 obtain ⟨op, c, rfl, w1, h0⟩ := h0.inv_int
 obtain ⟨nm, c, rfl, w2, h0⟩ := h0.inv_str
 obtain ⟨sc, c, rfl, w3, h0⟩ := h0.inv_str
 obtain ⟨ab, c, rfl, w4, h0⟩ := h0.inv_int
 obtain ⟨wh, c, rfl, w5, h0⟩ := h0.inv_int
 obtain ⟨k1, c, rfl, w6, h0⟩ := h0.inv_int
 obtain ⟨n1, c, rfl, w7, h0⟩ := h0.inv_int
 obtain ⟨s1, c, rfl, w8, h0⟩ := h0.inv_str
 obtain ⟨A1, l1, z1, c, s, rfl, rfl, w9, w10, h0⟩ := h0.inv_sl
 obtain ⟨k2, c, rfl, w11, h0⟩ := h0.inv_int
 obtain ⟨n2, c, rfl, w12, h0⟩ := h0.inv_int
 obtain ⟨s2, c, rfl, w13, h0⟩ := h0.inv_str
 obtain ⟨A2, l2, z2, c, s, rfl, rfl, w14, w15, h0⟩ := h0.inv_sl
 obtain ⟨A3, l3, z3, c, s, rfl, rfl, w16, w17, h0⟩ := h0.inv_sl
 obtain ⟨A4, l4, z4, c, s, rfl, rfl, w18, w19, h0⟩ := h0.inv_sl
 obtain ⟨A5, l5, z5, c, s, rfl, rfl, w20, w21, h0⟩ := h0.inv_sl
 obtain ⟨A6, l6, z6, c, s, rfl, rfl, w22, w23, h0⟩ := h0.inv_sl
 obtain ⟨rfl, rfl⟩ := h0.inv_nil
 have hs : sls (flat 311) = [308, 308, 311, 311, 311, 9] := by rw [flat_stmt]; rfl
 exact ⟨op, nm, sc, ab, wh, k1, n1, s1, A1, l1, z1, k2, n2, s2, A2, l2, z2, A3, l3, z3, A4, l4, z4, A5, l5, z5, A6, l6, z6, rfl,
  ⟨wf_u8 w1, w2, w3, wf_u8 w4, wf_u8 w5, ⟨w17, w16⟩, ⟨w19, w18⟩, ⟨w21, w20⟩, ⟨w23, w22⟩⟩, ⟨(wf_u8 w6).1, (wf_u8 w6).2, (wf_i64 w7).1, (wf_i64 w7).2, w8, w10, w9⟩, ⟨(wf_u8 w11).1, (wf_u8 w11).2, (wf_i64 w12).1, (wf_i64 w12).2, w13, w15, w14⟩,
  h.kids 0 _ (by rw [hs]; rfl) rfl, h.kids 1 _ (by rw [hs]; rfl) rfl, h.kids 2 _ (by rw [hs]; rfl) rfl, h.kids 3 _ (by rw [hs]; rfl) rfl, h.kids 4 _ (by rw [hs]; rfl) rfl, h.kids 5 _ (by rw [hs]; rfl) rfl⟩
theorem ty_val (g : G) : Ty 28 g → ∃ t : T, g.c = t.cells ∧ ∀ (w : World) (lo hi : Nat), g.In w lo hi → t.In w lo hi := by
 induction g using G.ind with
 | h c s ih =>
  intro h
  have h0 := h.fits
  rw [flat_val] at h0
  obtain ⟨k, c, rfl, w1, h0⟩ := h0.inv_int
  obtain ⟨n, c, rfl, w2, h0⟩ := h0.inv_int
  obtain ⟨b, c, rfl, w3, h0⟩ := h0.inv_str
  obtain ⟨A, l, cap, c, s, rfl, rfl, w4, w5, h0⟩ := h0.inv_sl
  obtain ⟨r, c, rfl, w6, h0⟩ := h0.inv_int
  obtain ⟨rfl, rfl⟩ := h0.inv_nil
  have hk := h.kids 0 _ (by rw [flat_val]; rfl) rfl
  have hone : ∀ i, i < l.length → ∃ t : T, ∃ x, l[i]? = some x ∧ x.c = t.cells ∧ ∀ (w : World) (lo hi : Nat), x.In w lo hi → t.In w lo hi := fun i hi => by
   have hm := List.getElem_mem hi
   obtain ⟨t, h1, h2⟩ := ih A l (by simp) l[i] hm (hk _ hm)
   exact ⟨t, l[i], List.getElem?_eq_getElem hi, h1, h2⟩
  obtain ⟨ts, hts, hq⟩ := choose_list l.length hone
  refine ⟨.mk k n b A cap ts r, by simp [G.c, T.cells, hts], fun w lo hi hin => ?_⟩
  rw [G.in_mk] at hin
  obtain ⟨h1, h2⟩ := hin A l (by simp)
  refine T.in_mk.2 ⟨⟨(wf_u8 w1).1, (wf_u8 w1).2, (wf_i64 w2).1, (wf_i64 w2).2, w3, by rw [hts]; exact w5, by rw [hts]; exact w4, (wf_i64 w6).1, (wf_i64 w6).2⟩, fun hne => ?_, fun x hx => ?_⟩
  · obtain ⟨b, o, rfl, hb0, hb1, hc⟩ := h1 (by rintro rfl; simp at hts; exact hne hts)
    refine ⟨b, o, rfl, hb0, hb1, fun i x hx j u hu => ?_⟩
    obtain ⟨y, hy, hc1, -⟩ := hq i x hx
    have := hc i y hy j u (by rw [hc1]; exact hu)
    rwa [hc1, T.cells_length] at this
  · obtain ⟨i, hi', rfl⟩ := List.mem_iff_getElem.1 hx
    obtain ⟨y, hy, -, hc2⟩ := hq i _ (List.getElem?_eq_getElem hi')
    exact hc2 w lo hi (h2 y (List.mem_of_getElem? hy))
theorem ty_vals {l : List G} (h : ∀ x ∈ l, Ty 28 x) : ∃ ts : List T, ts.length = l.length ∧ ∀ (A : Option Addr) (c : List Value) (subs : List (Option Addr × List G)) (w : World) (lo hi : Nat), (A, l) ∈ subs → (G.mk c subs).In w lo hi → (ts ≠ [] → ∃ b o, A = some ⟨b, o, none⟩ ∧ lo ≤ b ∧ b < hi ∧ ∀ i x, ts[i]? = some x → Five w b (o + i * 5) x) ∧ ∀ x ∈ ts, x.In w lo hi := by
 have hone : ∀ i, i < l.length → ∃ t : T, ∃ x, l[i]? = some x ∧ x.c = t.cells ∧ ∀ (w : World) (lo hi : Nat), x.In w lo hi → t.In w lo hi := fun i hi => by
  have hm := List.getElem_mem hi
  obtain ⟨t, h1, h2⟩ := ty_val l[i] (h _ hm)
  exact ⟨t, l[i], List.getElem?_eq_getElem hi, h1, h2⟩
 obtain ⟨ts, hts, hq⟩ := choose_list l.length hone
 refine ⟨ts, hts, fun A c subs w lo hi hA hin => ?_⟩
 rw [G.in_mk] at hin
 obtain ⟨h1, h2⟩ := hin A l hA
 refine ⟨fun hne => ?_, fun x hx => ?_⟩
 · obtain ⟨b, o, rfl, hb0, hb1, hc⟩ := h1 (by rintro rfl; simp at hts; exact hne hts)
   refine ⟨b, o, rfl, hb0, hb1, fun i x hx j u hu => ?_⟩
   obtain ⟨y, hy, hc1, -⟩ := hq i x hx
   have := hc i y hy j u (by rw [hc1]; exact hu)
   rwa [hc1, T.cells_length] at this
 · obtain ⟨i, hi', rfl⟩ := List.mem_iff_getElem.1 hx
   obtain ⟨y, hy, -, hc2⟩ := hq i _ (List.getElem?_eq_getElem hi')
   exact hc2 w lo hi (h2 y (List.mem_of_getElem? hy))
end Go.Proofs.YtlejelbefmkakaaGreat

namespace Go.Proofs.YtlejelbefmkakaaGreat
open Go.Joins Go.ChangeShapes Go.WideShapes Go.RowKit Go.Deep
inductive G.Has (b : Nat) : G → Prop
 | here {c : List Value} {subs : List (Option Addr × List G)} {a : Addr} {l : List G} (h : (some a, l) ∈ subs) (hl : l ≠ []) (ha : a.block = b) : G.Has b (.mk c subs)
 | sub {c : List Value} {subs : List (Option Addr × List G)} {A : Option Addr} {l : List G} {x : G} (h : (A, l) ∈ subs) (hx : x ∈ l) (hh : G.Has b x) : G.Has b (.mk c subs)
theorem G.In.has {w : World} {lo hi b : Nat} {g : G} (h : g.Has b) : g.In w lo hi → lo ≤ b ∧ b < hi := by
 induction h with
 | here h hl ha =>
  intro hin
  rw [G.in_mk] at hin
  obtain ⟨b, o, e, h0, h1, -⟩ := (hin _ _ h).1 hl
  injection e with e
  subst e ha
  exact ⟨h0, h1⟩
 | sub h hx hh ih =>
  intro hin
  rw [G.in_mk] at hin
  exact ih ((hin _ _ h).2 _ hx)
theorem G.In.keepH {w w' : World} {lo hi : Nat} (g : G) : g.In w lo hi → (∀ b, g.Has b → ∀ o, w'.cell? ⟨b, o, none⟩ = w.cell? ⟨b, o, none⟩) → g.In w' lo hi := by
 induction g using G.ind with
 | h c subs ih =>
  intro h hk
  rw [G.in_mk] at h ⊢
  intro A l hs
  obtain ⟨h1, h2⟩ := h A l hs
  refine ⟨fun hl => ?_, fun x hx => ih A l hs x hx (h2 x hx) fun b hb o => hk b (.sub hs hx hb) o⟩
  obtain ⟨b, o, rfl, hb0, hb1, hc⟩ := h1 hl
  exact ⟨b, o, rfl, hb0, hb1, fun i x hx j u hu => (hk b (.here hs hl rfl) _).trans (hc i x hx j u hu)⟩
theorem G.In.frH {S : Nat → Prop} {w w' : World} {lo hi : Nat} {g : G} (h : g.In w lo hi) (hf : Fr S w w') (hh : hi ≤ w.heap.size) (hs : ∀ b, g.Has b → ¬ S b) : g.In w' lo hi :=
 G.In.keepH g h fun b hb _ => hf.cell (by have := (G.In.has hb h).2; omega) (hs b hb)
def G.Td (w : World) (g : G) : Prop := ∀ b, g.Has b → ∃ e cs, (e = 28 ∨ e = 308 ∨ e = 311 ∨ e = 260 ∨ e = 9) ∧ Blk w b e cs
theorem G.Td.fr {S : Nat → Prop} {w w' : World} {g : G} (h : g.Td w) (hf : Fr S w w') (hs : ∀ b, g.Has b → ¬ S b) : g.Td w' := fun b hb => by
 obtain ⟨e, cs, he, hb'⟩ := h b hb
 exact ⟨e, cs, he, hb'.fr hf (hs b hb)⟩
def G.row (A : Option Addr) (l : List G) : G := .mk [] [(A, l)]
theorem G.row_in {w : World} {lo hi : Nat} {A : Option Addr} {l : List G} : (G.row A l).In w lo hi ↔ (l ≠ [] → ∃ b o, A = some ⟨b, o, none⟩ ∧ lo ≤ b ∧ b < hi ∧ ∀ i x, l[i]? = some x → ∀ j u, x.c[j]? = some u → w.cell? ⟨b, o + i * x.c.length + j, none⟩ = some u) ∧ ∀ x ∈ l, x.In w lo hi := by
 unfold G.row
 rw [G.in_mk]
 constructor
 · intro h; exact h A l (by simp)
 · intro h A' l' hs
   simp at hs
   obtain ⟨rfl, rfl⟩ := hs
   exact h
theorem G.in_rows {w : World} {lo hi : Nat} {c : List Value} {subs : List (Option Addr × List G)} : (G.mk c subs).In w lo hi ↔ ∀ A l, (A, l) ∈ subs → (G.row A l).In w lo hi := by
 rw [G.in_mk]
 constructor
 · intro h A l hs; exact G.row_in.2 (h A l hs)
 · intro h A l hs; exact G.row_in.1 (h A l hs)
theorem G.row_has {b : Nat} {A : Option Addr} {l : List G} (h : (G.row A l).Has b) : (∃ a, A = some a ∧ l ≠ [] ∧ a.block = b) ∨ ∃ x ∈ l, x.Has b := by
 unfold G.row at h
 cases h with
 | here h hl ha =>
  simp at h
  obtain ⟨rfl, rfl⟩ := h
  exact .inl ⟨_, rfl, hl, ha⟩
 | sub h hx hh =>
  simp at h
  obtain ⟨rfl, rfl⟩ := h
  exact .inr ⟨_, hx, hh⟩
theorem G.mk_has {b : Nat} {c : List Value} {subs : List (Option Addr × List G)} : (G.mk c subs).Has b ↔ ∃ A l, (A, l) ∈ subs ∧ (G.row A l).Has b := by
 constructor
 · intro h
   cases h with
   | here h hl ha => exact ⟨_, _, h, .here (List.mem_singleton.2 rfl) hl ha⟩
   | sub h hx hh => exact ⟨_, _, h, .sub (List.mem_singleton.2 rfl) hx hh⟩
 · rintro ⟨A, l, h, hr⟩
   rcases G.row_has hr with ⟨a, rfl, hl, ha⟩ | ⟨x, hx, hh⟩
   · exact .here h hl ha
   · exact .sub h hx hh
def gCells (l : List G) : List Value := l.flatMap G.c
theorem gCells_length {l : List G} {n : Nat} (h : ∀ x ∈ l, x.c.length = n) : (gCells l).length = l.length * n := by
 induction l with
 | nil => simp [gCells]
 | cons x l ih =>
  have := ih fun y hy => h y (by simp [hy])
  simp only [gCells, List.flatMap_cons, List.length_append] at this ⊢
  rw [this, h x (by simp)]
  simp only [List.length_cons]
  rw [Nat.add_mul]
  omega
theorem gCells_get {n : Nat} : ∀ {l : List G}, (∀ x ∈ l, x.c.length = n) → ∀ {i j : Nat} {x : G} {u : Value}, l[i]? = some x → x.c[j]? = some u → (gCells l)[i * n + j]? = some u
 | [], _, i, j, x, u, h, _ => by simp at h
 | y :: l, hl, 0, j, x, u, h, hu => by
  simp at h; subst h
  simp only [gCells, List.flatMap_cons, Nat.zero_mul, Nat.zero_add]
  rw [List.getElem?_append_left (List.getElem?_eq_some_iff.1 hu).1]
  exact hu
 | y :: l, hl, i + 1, j, x, u, h, hu => by
  simp only [List.getElem?_cons_succ] at h
  have := gCells_get (fun z hz => hl z (by simp [hz])) h hu
  have hy := hl y (by simp)
  simp only [gCells, List.flatMap_cons] at this ⊢
  rw [List.getElem?_append_right (by rw [hy, Nat.add_mul]; omega), hy, show (i + 1) * n + j - n = i * n + j by rw [Nat.add_mul]; omega]
  exact this
theorem G.row_at {w : World} {lo hi : Nat} {A : Option Addr} {l : List G} (h : (G.row A l).In w lo hi) {i : Nat} (hi' : i < l.length) :
 ∃ b o, A = some ⟨b, o, none⟩ ∧ lo ≤ b ∧ b < hi ∧ l[i].In w lo hi ∧ ∀ j u, l[i].c[j]? = some u → w.cell? ⟨b, o + i * l[i].c.length + j, none⟩ = some u := by
 obtain ⟨h1, h2⟩ := G.row_in.1 h
 obtain ⟨b, o, rfl, h0, h3, hc⟩ := h1 (by rintro rfl; simp at hi')
 exact ⟨b, o, rfl, h0, h3, h2 _ (List.getElem_mem hi'), hc i _ (List.getElem?_eq_getElem hi')⟩
def erV : Value → Value
 | .slice _ n _ => .slice none n 0
 | v => v
def G.er : G → G
 | .mk c subs => .mk (c.map erV) (subs.attach.map fun s => (none, s.1.2.attach.map fun x => G.er x.1))
termination_by g => g
decreasing_by
 have h1 := List.sizeOf_lt_of_mem s.2
 have h2 := List.sizeOf_lt_of_mem x.2
 obtain ⟨⟨A, l⟩, hs⟩ := s
 simp at h1 h2 ⊢
 omega
theorem G.er_mk (c : List Value) (subs : List (Option Addr × List G)) : (G.mk c subs).er = .mk (c.map erV) (subs.map fun s => (none, s.2.map G.er)) := by
 rw [G.er]
 congr 1
 have h : ∀ s : { s // s ∈ subs }, ((none : Option Addr), s.1.2.attach.map fun x => G.er x.1) = (none, s.1.2.map G.er) := fun s => by
  rw [List.attach_map_val (f := G.er)]
 rw [List.map_congr_left fun s _ => h s]
 exact List.attach_map_val (f := fun s : Option Addr × List G => ((none : Option Addr), s.2.map G.er))
end Go.Proofs.YtlejelbefmkakaaGreat

namespace Go.Proofs.YtlejelbefmkakaaGreat
open Go.Joins Go.ChangeShapes Go.WideShapes Go.RowKit Go.Deep
def T.row (A : Option Addr) (cap : Nat) (l : List T) : T := .mk 3 0 ⟨#[]⟩ A cap l 0
def rowCells (l : List T) : List Value := l.flatMap T.cells
theorem rowCells_length (l : List T) : (rowCells l).length = l.length * 5 := by
 induction l with
 | nil => rfl
 | cons x l ih => simp only [rowCells, List.flatMap_cons, List.length_append] at ih ⊢; rw [T.cells_length, ih]; simp only [List.length_cons]; omega
theorem rowCells_get : ∀ (l : List T) (i c : Nat) (x : T) (u : Value), l[i]? = some x → x.cells[c]? = some u → (rowCells l)[i * 5 + c]? = some u
 | [], i, c, x, u, h, _ => by simp at h
 | y :: l, 0, c, x, u, h, hu => by
  simp at h; subst h
  simp only [rowCells, List.flatMap_cons, Nat.zero_mul, Nat.zero_add]
  rw [List.getElem?_append_left]
  · exact hu
  · exact (List.getElem?_eq_some_iff.1 hu).1
 | y :: l, i + 1, c, x, u, h, hu => by
  simp only [List.getElem?_cons_succ] at h
  have := rowCells_get l i c x u h hu
  simp only [rowCells, List.flatMap_cons] at this ⊢
  rw [List.getElem?_append_right (by rw [T.cells_length]; omega), T.cells_length, show (i + 1) * 5 + c - 5 = i * 5 + c by omega]
  exact this
theorem cells_one (x : T) : ∀ u ∈ x.cells, u.oneCell' = true := by
 cases x; simp [T.cells, Value.oneCell']
theorem owns_form {w : World} {base : Nat} {e : TypeId} {size : Nat} {v : Value} {n : Nat} {xs : List Value} (h : w.ownsRow base e size v n xs) : ∃ A cap, v = .slice A n cap := by
 rcases h.2 with ⟨rfl, rfl⟩ | ⟨g, cap, cur, rfl, _⟩
 · exact ⟨_, _, rfl⟩
 · exact ⟨_, _, rfl⟩
theorem owns_lt {w : World} {base : Nat} {e : TypeId} {size : Nat} {v : Value} {n : Nat} {xs : List Value} (h : w.ownsRow base e size v n xs) : ∀ g, v.ownBlock = some g → base ≤ g ∧ g < w.heap.size := by
 intro g hg
 rcases h.2 with ⟨rfl, h0⟩ | ⟨g', cap', cur, rfl, hb, hh, _⟩
 · cases hg
 · simp [Value.ownBlock] at hg
   subst hg
   refine ⟨hb, ?_⟩
   rcases Nat.lt_or_ge g' w.heap.size with hlt | hge
   · exact hlt
   · rw [Array.getElem?_eq_none hge] at hh; cases hh
theorem owns_fr {S : Nat → Prop} {a w : World} {base : Nat} {e : TypeId} {size : Nat} {v : Value} {n : Nat} {xs : List Value} (h : a.ownsRow base e size v n xs) (hf : Fr S a w) (hn : ∀ g, v.ownBlock = some g → ¬ S g) : w.ownsRow base e size v n xs := by
 have hl := owns_lt h
 refine ⟨h.1, ?_⟩
 rcases h.2 with h0 | ⟨g, cap, cur, rfl, hb, hg, hr⟩
 · exact .inl h0
 · exact .inr ⟨g, cap, cur, rfl, hb, (hf.block g (hl g rfl).2 (hn g rfl)).trans hg, hr⟩
section
variable {H : Type} {enc : TypeId × Value → H}
end
end Go.Proofs.YtlejelbefmkakaaGreat

namespace Go.Proofs.YtlejelbefmkakaaGreat
open Go.RowKit
def V.size : V → Nat
 | .mk _ _ _ l _ => 1 + (l.map V.size).sum
termination_by v => v
theorem V.size_mk (k n : Int) (s : ByteArray) (l : List V) (r : Int) : (V.mk k n s l r).size = 1 + (l.map V.size).sum := by rw [V.size]
def top : List Nat → Nat
 | [] => 0
 | x :: l => max x (top l)
def V.dep : V → Nat
 | .mk k _ _ l _ => if k = 3 then 1 + top (l.map V.dep) else 0
termination_by v => v
theorem V.dep_mk (k n : Int) (s : ByteArray) (l : List V) (r : Int) : (V.mk k n s l r).dep = if k = 3 then 1 + top (l.map V.dep) else 0 := by rw [V.dep]
def fok (k n : Int) (s : ByteArray) (len : Nat) (r : Int) : Bool :=
 if k = 0 then decide (n = 0) && decide (s.toList = []) && decide (r = 0) && decide (len = 0)
 else if k = 1 then decide (s.toList = []) && decide (r = 0) && decide (len = 0)
 else if k = 2 then decide (s.size ≤ 256) && decide (n = 0) && decide (r = 0) && decide (len = 0)
 else if k = 3 then decide (n = 0) && decide (s.toList = []) && decide (r = 0)
 else if k = 4 then decide (1 ≤ r) && decide (n = 0) && decide (s.toList = []) && decide (len = 0)
 else false
def V.ok : V → Bool
 | .mk k n s l r => fok k n s l.length r && (l.map V.ok).all id
termination_by v => v
theorem V.ok_mk (k n : Int) (s : ByteArray) (l : List V) (r : Int) : (V.mk k n s l r).ok = (fok k n s l.length r && l.all V.ok) := by
 rw [V.ok, List.all_map]; rfl
def V.fits (v : V) (p q : Nat) : Bool := v.ok && decide (v.size ≤ p) && decide (v.dep ≤ q)
def V.may (v : V) : Bool := v.fits 512 16
theorem V.size_pos (v : V) : 1 ≤ v.size := by cases v; rw [V.size_mk]; omega
theorem sum_take_le (l : List Nat) (i : Nat) : (l.take i).sum ≤ l.sum := by
 induction l generalizing i with
 | nil => simp
 | cons x l ih => cases i <;> simp; exact ih _
theorem sum_take_succ (l : List Nat) (i : Nat) (h : i < l.length) : (l.take (i + 1)).sum = (l.take i).sum + l[i] := by
 rw [List.take_succ_eq_append_getElem h, List.sum_append_nat]; simp
theorem le_top {l : List Nat} {x : Nat} (h : x ∈ l) : x ≤ top l := by
 induction l with
 | nil => cases h
 | cons y l ih =>
  rcases List.mem_cons.1 h with rfl | h
  · simp [top]; omega
  · have := ih h; simp [top]; omega
theorem top_le {l : List Nat} {n : Nat} (h : ∀ x ∈ l, x ≤ n) : top l ≤ n := by
 induction l with
 | nil => simp [top]
 | cons y l ih =>
  have h1 := h y (by simp)
  have h2 := ih fun x hx => h x (by simp [hx])
  simp [top]; omega
theorem len_beq (n : Nat) : ((n : Int) == 0) = decide (n = 0) := by
 rw [Bool.eq_iff_iff]; simp
theorem fok_len {k n : Int} {s : ByteArray} {len : Nat} {r : Int} (hk : k ≠ 3) (h : fok k n s len r = true) : len = 0 := by
 unfold fok at h
 by_cases h0 : k = 0
 · simp [h0] at h; omega
 · by_cases h1 : k = 1
   · simp [h1] at h; omega
   · by_cases h2 : k = 2
     · simp [h2] at h; omega
     · by_cases h4 : k = 4
       · simp [h4] at h; omega
       · simp [h0, h1, h2, hk, h4] at h
theorem fits_leaf {k n : Int} {s : ByteArray} {l : List V} {r : Int} {p q : Nat} (hk : k ≠ 3) (hp : 1 ≤ p) :
 (V.mk k n s l r).fits p q = fok k n s l.length r ∧ (fok k n s l.length r = true → (V.mk k n s l r).size = 1) := by
 by_cases h : fok k n s l.length r = true
 · have hl : l = [] := List.eq_nil_of_length_eq_zero (fok_len hk h)
   subst hl
   refine ⟨?_, fun _ => by simp [V.size_mk]⟩
   simp [V.fits, V.ok_mk, V.size_mk, V.dep_mk, hk, hp]
 · simp at h
   refine ⟨by simp [V.fits, V.ok_mk, h], fun h' => by rw [h] at h'; cases h'⟩
theorem fits_zero (v : V) (q : Nat) : v.fits 0 q = false := by
 have := v.size_pos
 simp [V.fits]; omega
def fitsTo (l : List V) (q j : Nat) : Prop := ∀ x ∈ l.take j, x.ok = true ∧ x.dep ≤ q
def sizeTo (l : List V) (j : Nat) : Nat := ((l.map V.size).take j).sum
theorem sizeTo_zero (l : List V) : sizeTo l 0 = 0 := by simp [sizeTo]
theorem sizeTo_succ (l : List V) (j : Nat) (h : j < l.length) : sizeTo l (j + 1) = sizeTo l j + l[j].size := by
 unfold sizeTo; rw [sum_take_succ _ _ (by simpa using h)]; simp
theorem sizeTo_all (l : List V) : sizeTo l l.length = (l.map V.size).sum := by
 unfold sizeTo; rw [List.take_of_length_le (by simp)]
theorem sizeTo_le (l : List V) (j : Nat) : sizeTo l j ≤ (l.map V.size).sum := sum_take_le _ _
theorem fitsTo_zero (l : List V) (q : Nat) : fitsTo l q 0 := fun x hx => by simp at hx
theorem fitsTo_succ {l : List V} {q j : Nat} (h : fitsTo l q j) (hj : j < l.length) (ho : l[j].ok = true) (hd : l[j].dep ≤ q) : fitsTo l q (j + 1) := fun x hx => by
 rw [List.take_succ_eq_append_getElem hj, List.mem_append] at hx
 rcases hx with hx | hx
 · exact h x hx
 · simp at hx; subst hx; exact ⟨ho, hd⟩
theorem fits_stop {n : Int} {s : ByteArray} {l : List V} {r : Int} {p q j : Nat} (hj : j < l.length) (hq : 1 ≤ q) (h : l[j].fits (p - 1 - sizeTo l j) (q - 1) = false) :
 (V.mk 3 n s l r).fits p q = false := by
 cases hf : (V.mk 3 n s l r).fits p q with
 | false => rfl
 | true =>
  exfalso
  simp [V.fits, V.ok_mk, V.size_mk, V.dep_mk] at hf
  obtain ⟨⟨⟨_, h1⟩, h2⟩, h3⟩ := hf
  have ho := h1 l[j] (List.getElem_mem hj)
  have hd : l[j].dep ≤ top (l.map V.dep) := le_top (List.mem_map_of_mem (List.getElem_mem hj))
  have h4 := sizeTo_succ l j hj
  have h5 := sizeTo_le l (j + 1)
  simp [V.fits, ho] at h
  have := h (by omega)
  omega
theorem fits_short {n : Int} {s : ByteArray} {l : List V} {r : Int} {p q : Nat} (h : p < 1 + l.length ∨ q = 0) : (V.mk 3 n s l r).fits p q = false := by
 have h1 : l.length ≤ (l.map V.size).sum := by
  clear h
  induction l with
  | nil => simp
  | cons x l ih => have := x.size_pos; simp; omega
 rcases h with h | h
 · simp [V.fits, V.size_mk]; omega
 · simp [V.fits, V.dep_mk]; omega
theorem fits_done {n : Int} {s : ByteArray} {l : List V} {r : Int} {p q : Nat} (hs : sizeTo l l.length ≤ p - 1) (hp : 1 ≤ p) (hq : 1 ≤ q) (h : fitsTo l (q - 1) l.length) :
 (V.mk 3 n s l r).fits p q = fok 3 n s l.length r ∧ (V.mk 3 n s l r).size = 1 + sizeTo l l.length := by
 rw [sizeTo_all] at *
 have hall : ∀ x ∈ l, x.ok = true ∧ x.dep ≤ q - 1 := by
  intro x hx; exact h x (by rw [List.take_of_length_le (Nat.le_refl _)]; exact hx)
 have ht : top (l.map V.dep) ≤ q - 1 := top_le fun d hd => by
  obtain ⟨x, hx, rfl⟩ := List.mem_map.1 hd
  exact (hall x hx).2
 refine ⟨?_, V.size_mk _ _ _ _ _⟩
 have ha : l.all V.ok = true := List.all_eq_true.2 fun x hx => (hall x hx).1
 simp only [V.fits, V.ok_mk, V.size_mk, V.dep_mk, ha, if_pos, Bool.and_true]
 rw [decide_eq_true (by omega), decide_eq_true (by omega)]
 simp
end Go.Proofs.YtlejelbefmkakaaGreat

namespace Go.Proofs.YtlejelbefmkakaaGreat
open Go.RowKit
def Took (L p q : Nat) (v : V) (w : World) (e : Ending) (w' : World) : Prop :=
 e = .returned (.bool (v.fits p q)) ∧ Fr (· = L) w w' ∧
  (v.fits p q = true → w'.cell? ⟨L, 0, none⟩ = some (.int .i64 ((p - v.size : Nat) : Int)) ∧ w'.cell? ⟨L, 1, none⟩ = some (.int .i64 (q : Int)) ∧
   w'.frozen? ⟨L, 0, none⟩ = false ∧ w'.frozen? ⟨L, 1, none⟩ = false)
theorem took_no {v : V} {w W : World} {L p q : Nat} (h : v.fits p q = false) (hF : Fr (· = L) w W) : Took L p q v w (.returned (.bool false)) W :=
 ⟨by rw [h], hF, fun h' => by rw [h] at h'; cases h'⟩
theorem took_close {k n : Int} {s : ByteArray} {A : Option Addr} {cap : Nat} {l : List T} {r : Int} {w W : World} {L p q : Nat} {b : Bool} (hk : k ≠ 3) (hp : 1 ≤ p)
 (hb : b = fok k n s l.length r) (hF : Fr (· = L) w W) (h0 : W.cell? ⟨L, 0, none⟩ = some (.int .i64 ((p : Int) - 1))) (h1 : W.cell? ⟨L, 1, none⟩ = some (.int .i64 (q : Int)))
 (f0 : W.frozen? ⟨L, 0, none⟩ = false) (f1 : W.frozen? ⟨L, 1, none⟩ = false) : Took L p q (T.mk k n s A cap l r).v w (.returned (.bool b)) W := by
 rw [T.v_mk]
 obtain ⟨e1, e2⟩ := fits_leaf (n := n) (s := s) (l := l.map T.v) (r := r) (q := q) hk hp
 rw [List.length_map] at e1 e2
 refine ⟨by rw [e1, hb], hF, fun h => ?_⟩
 rw [e1] at h
 rw [e2 h, h0]
 exact ⟨by congr 2; omega, h1, f0, f1⟩
set_option maxHeartbeats 4000000 in
theorem take_leaf (k n : Int) (s : ByteArray) (A : Option Addr) (cap : Nat) (l : List T) (r : Int) (w : World) (L p q : Nat)
 (hL : L < w.heap.size) (_ : L ≤ w.heap.size)
 (hp : w.cell? ⟨L, 0, none⟩ = some (.int .i64 (p : Int))) (hq : w.cell? ⟨L, 1, none⟩ = some (.int .i64 (q : Int)))
 (hf0 : w.frozen? ⟨L, 0, none⟩ = false) (hf1 : w.frozen? ⟨L, 1, none⟩ = false) (hp0 : 0 < p) (hp1 : p ≤ 512) (hk : k ≠ 3) :
  Calls Tryz.prog 216 #[.pointer (some ⟨L, 0, none⟩), .agg #[.int .u8 k, .int .i64 n, .string s, .slice A l.length cap, .int .i64 r]] w (Took L p q (T.mk k n s A cap l r).v w) := by
 have hp00 : ((p : Int) == 0) = false := by simp; omega
 have k3 : (k == 3) = false := by simp; exact hk
 by_cases h0 : k = 0
 · subst h0
   go_enter Tryz.func216, Tryz.ntmps216
   go_wp2
   all_goals
    go_ret
    refine took_close (by first | decide | assumption) hp0 (by first | (simp [fok, *]; done) | (simp [fok, *]; omega) | (simp [fok, len_beq, *]; done) | (simp [fok, len_beq, *]; omega) | (simp [fok, len_beq, *]; intros; omega)) (by repeat (first | exact Fr.refl _ w | refine Fr.alloc ?_ _ | refine Fr.set ?_ (by simp) _)) ?_ ?_ ?_ ?_ <;> simp [go_sem, *]
 · have k0 : (k == 0) = false := by simp; exact h0
   by_cases h1 : k = 1
   · subst h1
     go_enter Tryz.func216, Tryz.ntmps216
     go_wp2
     all_goals
      go_ret
      refine took_close (by first | decide | assumption) hp0 (by first | (simp [fok, *]; done) | (simp [fok, *]; omega) | (simp [fok, len_beq, *]; done) | (simp [fok, len_beq, *]; omega) | (simp [fok, len_beq, *]; intros; omega)) (by repeat (first | exact Fr.refl _ w | refine Fr.alloc ?_ _ | refine Fr.set ?_ (by simp) _)) ?_ ?_ ?_ ?_ <;> simp [go_sem, *]
   · have k1 : (k == 1) = false := by simp; exact h1
     by_cases h2 : k = 2
     · subst h2
       by_cases hs : s.size ≤ 256
       · have hs' : ¬ (256 : Int) < (s.size : Int) := by omega
         go_enter Tryz.func216, Tryz.ntmps216
         go_wp2
         all_goals
          go_ret
          refine took_close (by first | decide | assumption) hp0 (by first | (simp [fok, *]; done) | (simp [fok, *]; omega) | (simp [fok, len_beq, *]; done) | (simp [fok, len_beq, *]; omega) | (simp [fok, len_beq, *]; intros; omega)) (by repeat (first | exact Fr.refl _ w | refine Fr.alloc ?_ _ | refine Fr.set ?_ (by simp) _)) ?_ ?_ ?_ ?_ <;> simp [go_sem, *]
       · have hs' : (256 : Int) < (s.size : Int) := by omega
         go_enter Tryz.func216, Tryz.ntmps216
         go_wp2
         all_goals
          go_ret
          refine took_close (by first | decide | assumption) hp0 (by first | (simp [fok, *]; done) | (simp [fok, *]; omega) | (simp [fok, len_beq, *]; done) | (simp [fok, len_beq, *]; omega) | (simp [fok, len_beq, *]; intros; omega)) (by repeat (first | exact Fr.refl _ w | refine Fr.alloc ?_ _ | refine Fr.set ?_ (by simp) _)) ?_ ?_ ?_ ?_ <;> simp [go_sem, *]
     · have k2 : (k == 2) = false := by simp; exact h2
       by_cases h4 : k = 4
       · subst h4
         by_cases hr : 1 ≤ r
         · have hr' : ¬ r < 1 := by omega
           go_enter Tryz.func216, Tryz.ntmps216
           go_wp2
           all_goals
            go_ret
            refine took_close (by first | decide | assumption) hp0 (by first | (simp [fok, *]; done) | (simp [fok, *]; omega) | (simp [fok, len_beq, *]; done) | (simp [fok, len_beq, *]; omega) | (simp [fok, len_beq, *]; intros; omega)) (by repeat (first | exact Fr.refl _ w | refine Fr.alloc ?_ _ | refine Fr.set ?_ (by simp) _)) ?_ ?_ ?_ ?_ <;> simp [go_sem, *]
         · have hr' : r < 1 := by omega
           go_enter Tryz.func216, Tryz.ntmps216
           go_wp2
           all_goals
            go_ret
            refine took_close (by first | decide | assumption) hp0 (by first | (simp [fok, *]; done) | (simp [fok, *]; omega) | (simp [fok, len_beq, *]; done) | (simp [fok, len_beq, *]; omega) | (simp [fok, len_beq, *]; intros; omega)) (by repeat (first | exact Fr.refl _ w | refine Fr.alloc ?_ _ | refine Fr.set ?_ (by simp) _)) ?_ ?_ ?_ ?_ <;> simp [go_sem, *]
       · have k4 : (k == 4) = false := by simp; exact h4
         go_enter Tryz.func216, Tryz.ntmps216
         go_wp2
         all_goals
          go_ret
          refine took_close (by first | decide | assumption) hp0 (by first | (simp [fok, *]; done) | (simp [fok, *]; omega) | (simp [fok, len_beq, *]; done) | (simp [fok, len_beq, *]; omega) | (simp [fok, len_beq, *]; intros; omega)) (by repeat (first | exact Fr.refl _ w | refine Fr.alloc ?_ _ | refine Fr.set ?_ (by simp) _)) ?_ ?_ ?_ ?_ <;> simp [go_sem, *]
end Go.Proofs.YtlejelbefmkakaaGreat

namespace Go.Proofs.YtlejelbefmkakaaGreat
open Go.RowKit
structure TakeInv (w : World) (L a c : Nat) (X : Array Value) (wr : World) : Prop where
 fr : Fr (· = L) w wr
 c0 : wr.cell? ⟨L, 0, none⟩ = some (.int .i64 (a : Int))
 c1 : wr.cell? ⟨L, 1, none⟩ = some (.int .i64 (c : Int))
 f0 : wr.frozen? ⟨L, 0, none⟩ = false
 f1 : wr.frozen? ⟨L, 1, none⟩ = false
 b0 : Blk wr w.heap.size 28 X
 b1 : Blk wr (w.heap.size + 1) 28 X
theorem took_done {n : Int} {s : ByteArray} {A : Option Addr} {cap : Nat} {l : List T} {r : Int} {w W : World} {L p q : Nat} {b : Bool} (hs : sizeTo (l.map T.v) l.length ≤ p - 1) (hp : 1 ≤ p) (hq : 1 ≤ q)
 (hall : fitsTo (l.map T.v) (q - 1) l.length) (hb : b = fok 3 n s l.length r) (hF : Fr (· = L) w W)
 (h0 : W.cell? ⟨L, 0, none⟩ = some (.int .i64 ((p - 1 - sizeTo (l.map T.v) l.length : Nat) : Int))) (h1 : W.cell? ⟨L, 1, none⟩ = some (.int .i64 (((q - 1 : Nat) : Int) + 1)))
 (f0 : W.frozen? ⟨L, 0, none⟩ = false) (f1 : W.frozen? ⟨L, 1, none⟩ = false) : Took L p q (T.mk 3 n s A cap l r).v w (.returned (.bool b)) W := by
 rw [T.v_mk]
 have hl : (l.map T.v).length = l.length := List.length_map ..
 obtain ⟨e1, e2⟩ := fits_done (n := n) (s := s) (l := l.map T.v) (r := r) (by rw [hl]; exact hs) hp hq (by rw [hl]; exact hall)
 rw [hl] at e1 e2
 refine ⟨by rw [e1, hb], hF, fun h => ?_⟩
 rw [e2, h0, h1]
 exact ⟨by congr 3; omega, by congr 2; omega, f0, f1⟩
set_option maxHeartbeats 4000000 in
theorem take_any (t : T) : ∀ (w : World) (L p q lo hi : Nat), t.In w lo hi → hi ≤ L → L < w.heap.size →
 w.cell? ⟨L, 0, none⟩ = some (.int .i64 (p : Int)) → w.cell? ⟨L, 1, none⟩ = some (.int .i64 (q : Int)) →
 w.frozen? ⟨L, 0, none⟩ = false → w.frozen? ⟨L, 1, none⟩ = false → p ≤ 512 → q ≤ 16 →
 Calls Tryz.prog 216 #[.pointer (some ⟨L, 0, none⟩), t.val] w (Took L p q t.v w) := by
 induction t using T.ind with
 | h k n s A cap l r ih =>
  intro w L p q lo hi ht hh hL hp hq hf0 hf1 hp1 hq1
  have hL' : L ≤ w.heap.size := Nat.le_of_lt hL
  rw [T.val]
  by_cases hp0 : p = 0
  · subst hp0
    have e0 := fits_zero (T.mk k n s A cap l r).v q
    have hp : w.cell? ⟨L, 0, none⟩ = some (.int .i64 0) := by simpa using hp
    go_enter Tryz.func216, Tryz.ntmps216
    go_wp2
    go_ret
    exact took_no e0 ((Fr.refl _ w).alloc _)
  by_cases hk : k = 3
  · subst hk
    have hp00 : ((p : Int) == 0) = false := by simp; omega
    have hp2 : (1 : Int) ≤ p := by omega
    have fit : Fit 3 n s l.length cap r := (T.in_mk.1 ht).1
    by_cases hq0 : q = 0
    · subst hq0
      have e0 : (T.mk 3 n s A cap l r).v.fits p 0 = false := by rw [T.v_mk]; exact fits_short (.inr rfl)
      go_enter Tryz.func216, Tryz.ntmps216
      go_wp2_with fail
      go_quiet (fail)
      go_wp2
      go_ret
      exact took_no e0 (((((Fr.refl _ w).set (by simp) _).alloc _).alloc _).drewN _)
    · have hq00 : ((q : Int) == 0) = false := by simp; omega
      have hq2 : (1 : Int) ≤ q := by omega
      by_cases hlen : (p : Int) - 1 < (l.length : Int)
      · have e0 : (T.mk 3 n s A cap l r).v.fits p q = false := by rw [T.v_mk]; exact fits_short (.inl (by simp; omega))
        go_enter Tryz.func216, Tryz.ntmps216
        go_wp2_with fail
        go_quiet (fail)
        go_wp2
        go_ret
        exact took_no e0 (((((Fr.refl _ w).set (by simp) _).alloc _).alloc _).drewN _)
      · have hlen' : (l.length : Int) ≤ (p : Int) - 1 := by omega
        have hd : decide ((p : Int) - 1 < (l.length : Int)) = false := by simp; omega
        go_enter Tryz.func216, Tryz.ntmps216
        go_wp2_with fail
        go_quiet (fail)
        go_wp2
        go_loopw [68] (fun i wr => ∃ j : Nat, j ≤ l.length ∧ i = .int .i64 j ∧ fitsTo (l.map T.v) (q - 1) j ∧ sizeTo (l.map T.v) j ≤ p - 1 ∧
         TakeInv w L (p - 1 - sizeTo (l.map T.v) j) (q - 1) #[.int .u8 3, .int .i64 n, .string s, .slice A l.length cap, .int .i64 r] wr)
         (fun i _ => l.length - (intOf i).toNat)
        case atStart =>
         refine ⟨0, Nat.zero_le _, rfl, fitsTo_zero _ _, by rw [sizeTo_zero]; omega, ?_⟩
         rw [sizeTo_zero]
         refine ⟨((((((Fr.refl _ w).set (by simp) _).alloc _).alloc _).drewN _).set (by simp) _), ?_, ?_, ?_, ?_, ?_, ?_⟩
         · have e : ((p - 1 - 0 : Nat) : Int) = (p : Int) - 1 := by omega
           rw [e]
           go_simp
         · have e : ((q - 1 : Nat) : Int) = (q : Int) - 1 := by omega
           rw [e]
           refine World.cell?_setCell_same _ _ _ (u := .int .i64 (q : Int)) ?_
           go_simp
         · go_simp
         · go_simp
         · exact ((((Blk.new' (w.setCell ⟨L, 0, none⟩ (.int .i64 ((p : Int) - 1))) 28 _ (by simp)).alloc _).drewN _).far (p := ⟨L, 1, none⟩) (by simp; omega) _)
         · exact ((((Blk.new' ((w.setCell ⟨L, 0, none⟩ (.int .i64 ((p : Int) - 1))).alloc _) 28 _ (by simp)).drewN _).far (p := ⟨L, 1, none⟩) (by simp; omega) _))
        case round =>
         obtain ⟨j, hj, rfl, hall, hsz, inv⟩ := hrel
         have HA := hide hall
         clear hall
         have c0 := inv.c0
         have c1 := inv.c1
         have wf0 := inv.f0
         have wf1 := inv.f1
         have hsz0 := inv.fr.size
         have hLr : L < wr.heap.size := by omega
         have hLr' := Nat.le_of_lt hLr
         have hb0 := inv.b0.lt
         have hb1 := inv.b1.lt
         by_cases hlt : j < l.length
         · obtain ⟨b, o, k1, n1, s1, A1, cap1, l1, r1, rfl, hb0, hb1, hx, hin, e0, e1, e2, e3, e4⟩ := T.elem (ht.fr inv.fr (by omega) (fun i _ h1 => by omega)) hlt
           have IH := ih l[j] (List.getElem_mem hlt)
           rw [hx] at IH
           have HX := hide hx
           clear hx ih
           have hle := Nat.le_of_lt hlt
           go_wp2_with fail
           refine (IH _ L (p - 1 - sizeTo (l.map T.v) j) (q - 1) lo hi ?_ hh ?_ ?_ ?_ ?_ ?_ ?_ ?_).mono ?_
           · exact hin.no ((Fr.refl No wr).alloc _) (by omega)
           · simp; omega
           · go_simp
           · go_simp
           · go_simp
           · go_simp
           · omega
           · omega
           rintro e w2 ⟨rfl, fr2, took⟩
           have HT := hide took
           clear took
           cases hf : (T.mk k1 n1 s1 A1 cap1 l1 r1).v.fits (p - 1 - sizeTo (l.map T.v) j) (q - 1)
           · go_wp2
             go_ret
             refine took_no ?_ (((inv.fr.alloc _).trans fr2))
             rw [T.v_mk]
             refine fits_stop (j := j) (by simpa using hlt) (by omega) ?_
             rw [List.getElem_map, HX.out]; exact hf
           · go_wp2
             go_roundw
             case rel =>
              obtain ⟨k0, k1', k2, k3⟩ := HT.out hf
              have hs := sizeTo_succ (l.map T.v) j (by simpa using hlt)
              rw [List.getElem_map, HX.out] at hs
              simp only [V.fits, Bool.and_eq_true, decide_eq_true_eq] at hf
              obtain ⟨⟨ho, hz⟩, hdp⟩ := hf
              refine ⟨j + 1, hlt, by go_num, fitsTo_succ HA.out (by simpa using hlt) (by rw [List.getElem_map, HX.out]; exact ho) (by rw [List.getElem_map, HX.out]; exact hdp), by omega, ?_⟩
              refine ⟨(inv.fr.alloc _).trans fr2, ?_, k1', k2, k3, (inv.b0.alloc _).fr fr2 (by omega), (inv.b1.alloc _).fr fr2 (by omega)⟩
              rw [k0, hs, Nat.sub_sub _ (sizeTo _ _) (V.size _)]
             case measure => simp [intOf]; omega
         · have d1 : wr.cell? ⟨w.heap.size + 1, 1, none⟩ = some (.int .i64 n) := inv.b1.cell 1
           have d2 : wr.cell? ⟨w.heap.size + 1, 2, none⟩ = some (.string s) := inv.b1.cell 2
           have d3 : wr.cell? ⟨w.heap.size + 1, 3, none⟩ = some (.slice A l.length cap) := inv.b1.cell 3
           have d4 : wr.cell? ⟨w.heap.size + 1, 4, none⟩ = some (.int .i64 r) := inv.b1.cell 4
           have df := inv.b1.frozen 3
           have hne : ¬ L = w.heap.size + 1 := by omega
           have hne' : ¬ w.heap.size + 1 = L := by omega
           obtain rfl : l.length = j := by omega
           have HT := hide ht
           have HI := hide inv
           clear ht inv ih
           go_wp2
           all_goals
            go_ret
            refine took_done hsz (by omega) (by omega) HA.out (by first | (simp [fok, *]; done) | (simp [fok, *]; omega)) ((HI.out.fr.set (by simp) _).setNew (by simp) _) ?_ ?_ ?_ ?_ <;> simp [go_sem, *]
  · exact take_leaf k n s A cap l r w L p q hL hL' hp hq hf0 hf1 (by omega) hp1 hk
end Go.Proofs.YtlejelbefmkakaaGreat

namespace Go.Proofs.YtlejelbefmkakaaGreat
open Go.RowKit
def V.meas (v : V) : Nat := if v.may = true then v.size else 0
theorem T.val_mk (k n : Int) (s : ByteArray) (A : Option Addr) (cap : Nat) (l : List T) (r : Int) :
 (T.mk k n s A cap l r).val = .agg #[.int .u8 k, .int .i64 n, .string s, .slice A l.length cap, .int .i64 r] := rfl
set_option maxHeartbeats 1000000 in
theorem measure_any (t : T) (w : World) (lo hi : Nat) (ht : t.In w lo hi) (hh : hi ≤ w.heap.size) :
 Calls Tryz.prog 160 #[t.val] w fun e w' => e = .returned (.int .i64 (t.v.meas : Int)) ∧ Fr No w w' := by
 cases t with
 | mk k n s A cap l r =>
  have IH := take_any (.mk k n s A cap l r)
  rw [T.val_mk] at *
  have HT := hide ht
  clear ht
  go_enter Tryz.func160, Tryz.ntmps160
  go_wp2_with fail
  refine (IH _ (w.heap.size + 1) 512 16 lo hi ?_ ?_ ?_ ?_ ?_ ?_ ?_ ?_ ?_).mono ?_
  · exact HT.out.no (((Fr.refl No w).alloc _).alloc _) hh
  · omega
  · simp
  · go_simp
  · go_simp
  · go_simp
  · go_simp
  · omega
  · omega
  rintro e w2 ⟨rfl, fr2, took⟩
  have hF : Fr No w w2 := (((Fr.refl No w).alloc _).alloc _).trans' fr2 fun i hi h => by omega
  have HK := hide took
  clear took IH
  cases hf : (T.mk k n s A cap l r).v.fits 512 16
  · have hm : (T.mk k n s A cap l r).v.meas = 0 := by simp [V.meas, V.may, hf]
    have HM := hide hm
    have HF := hide hF
    clear hF hm hf
    go_wp2
    go_ret
    exact ⟨by rw [HM.out]; rfl, HF.out⟩
  · have hm : (T.mk k n s A cap l r).v.meas = (T.mk k n s A cap l r).v.size := by simp [V.meas, V.may, hf]
    have HM := hide hm
    obtain ⟨c0, c1, f0, f1⟩ := HK.out hf
    have hle : (T.mk k n s A cap l r).v.size ≤ 512 := by
     simp [V.fits] at hf; omega
    clear hm hf
    generalize (T.mk k n s A cap l r).v.size = z at *
    have e : ((512 - z : Nat) : Int) = 512 - (z : Int) := by omega
    rw [e] at c0
    clear e
    go_wp2
    go_ret
    exact ⟨by rw [HM.out]; go_num, hF⟩
set_option maxHeartbeats 1000000 in
theorem may_any (t : T) (w : World) (lo hi : Nat) (ht : t.In w lo hi) (hh : hi ≤ w.heap.size) :
 Calls Tryz.prog 86 #[t.val] w fun e w' => e = .returned (.bool t.v.may) ∧ Fr No w w' := by
 have IH := fun w' h h' => measure_any t w' lo hi h h'
 cases hm : t.v.may
 · have HM : t.v.meas = 0 := by simp [V.meas, hm]
   rw [HM] at IH
   cases t with
   | mk k n s A cap l r =>
    rw [T.val_mk] at *
    go_enter Tryz.func86, Tryz.ntmps86
    go_wp2_with fail
    refine (IH _ (ht.no ((Fr.refl No w).alloc _) hh) (by simp; omega)).mono ?_
    rintro e w2 ⟨rfl, fr2⟩
    go_wp2
    go_ret
    exact ⟨rfl, ((Fr.refl No w).alloc _).trans fr2⟩
 · have HM : 0 < t.v.meas := by simp [V.meas, hm]; exact t.v.size_pos
   cases t with
   | mk k n s A cap l r =>
    rw [T.val_mk] at *
    generalize (T.mk k n s A cap l r).v.meas = z at *
    go_enter Tryz.func86, Tryz.ntmps86
    go_wp2_with fail
    refine (IH _ (ht.no ((Fr.refl No w).alloc _) hh) (by simp; omega)).mono ?_
    rintro e w2 ⟨rfl, fr2⟩
    go_wp2
    go_ret
    exact ⟨by simp, ((Fr.refl No w).alloc _).trans fr2⟩
end Go.Proofs.YtlejelbefmkakaaGreat

/- Texts joined: T, O1, U1, V, X1, X2, B1. -/
import Derived.WalkKit
import Derived.WalkSpells
import Derived.Deep.Draws
import Derived.Laws.Rows
import Derived.Test.YtlejelbefmkakaaGreatProg
import Derived.Lib.SmallJoins
import Derived.Deep.Slices
import Derived.Deep.Fields
import Derived.ChangeSame
import Derived.SizedLaws
import Derived.Deep.AppendLies
import Derived.WalkLawsBesides
import Derived.BigQuiet
import Derived.Deep.QuietTactic
import Derived.Deep.LoopGhost
/- Plain trees: what a value of the program is as data (V), and how it lies in memory (T): no program in sight. -/
namespace Go.Proofs.YtlejelbefmkakaaGreat
open Go.RowKit

/-- A value as plain data: kind, number, text, list, reference. -/
inductive V where
  | mk (k n : Int) (s : ByteArray) (l : List V) (r : Int)

/-- A value as it lies in memory: besides, where its list lies, and the list's capacity. -/
inductive T where
  | mk (k n : Int) (s : ByteArray) (A : Option Addr) (cap : Nat) (l : List T) (r : Int)

/-- The plain data of a value in memory. -/
def T.v : T → V
  | .mk k n s _ _ l r => .mk k n s (l.map T.v) r
termination_by t => t

theorem T.v_mk (k n : Int) (s : ByteArray) (A : Option Addr) (cap : Nat) (l : List T) (r : Int) : (T.mk k n s A cap l r).v = .mk k n s (l.map T.v) r := by
  rw [T.v]

/-- The five cells of a value. -/
def T.cells : T → List Value
  | .mk k n s A cap l r => [.int .u8 k, .int .i64 n, .string s, .slice A l.length cap, .int .i64 r]

/-- A value as the program handles it. -/
def T.val : T → Value
  | .mk k n s A cap l r => .agg #[.int .u8 k, .int .i64 n, .string s, .slice A l.length cap, .int .i64 r]

/-- Five cells in a row. -/
def Five (w : World) (b o : Nat) (t : T) : Prop := ∀ j u, t.cells[j]? = some u → w.cell? ⟨b, o + j, none⟩ = some u

/-- The bounds of a value's own fields. -/
structure Fit (k n : Int) (s : ByteArray) (len cap : Nat) (r : Int) : Prop where
  k0 : 0 ≤ k
  k1 : k < 256
  n0 : -9223372036854775808 ≤ n
  n1 : n ≤ 9223372036854775807
  s1 : s.size ≤ 140737488351232
  len1 : len * 64 ≤ 140737488351232
  cap1 : len ≤ cap
  r0 : -9223372036854775808 ≤ r
  r1 : r ≤ 9223372036854775807

/-- A tree lies in the blocks from lo on, below hi. -/
def T.In (w : World) (lo hi : Nat) : T → Prop
  | .mk k n s A cap l r => Fit k n s l.length cap r ∧ (l ≠ [] → ∃ b o, A = some ⟨b, o, none⟩ ∧ lo ≤ b ∧ b < hi ∧ ∀ i x, l[i]? = some x → Five w b (o + i * 5) x) ∧ ∀ x ∈ l, T.In w lo hi x
termination_by t => t

theorem T.in_mk {w : World} {lo hi : Nat} {k n : Int} {s : ByteArray} {A : Option Addr} {cap : Nat} {l : List T} {r : Int} :
    (T.mk k n s A cap l r).In w lo hi ↔ Fit k n s l.length cap r ∧ (l ≠ [] → ∃ b o, A = some ⟨b, o, none⟩ ∧ lo ≤ b ∧ b < hi ∧ ∀ i x, l[i]? = some x → Five w b (o + i * 5) x) ∧ ∀ x ∈ l, x.In w lo hi := by
  rw [T.In]

/-- Induction over a tree: from its parts to it. -/
theorem T.ind {p : T → Prop} (h : ∀ k n s A cap l r, (∀ x ∈ l, p x) → p (.mk k n s A cap l r)) (t : T) : p t :=
  T.rec (motive_1 := p) (motive_2 := fun l => ∀ x ∈ l, p x) (fun k n s A cap l r ih => h k n s A cap l r ih) (by simp) (fun x l hx hl => by
    intro y hy
    rcases List.mem_cons.1 hy with rfl | hy
    · exact hx
    · exact hl y hy) t

theorem V.ind {p : V → Prop} (h : ∀ k n s l r, (∀ x ∈ l, p x) → p (.mk k n s l r)) (v : V) : p v :=
  V.rec (motive_1 := p) (motive_2 := fun l => ∀ x ∈ l, p x) (fun k n s l r ih => h k n s l r ih) (by simp) (fun x l hx hl => by
    intro y hy
    rcases List.mem_cons.1 hy with rfl | hy
    · exact hx
    · exact hl y hy) v

/-- What lies in a range of blocks lies there in every world that has these blocks. -/
theorem T.In.keep {w w' : World} {lo hi : Nat} (hk : ∀ b o, lo ≤ b → b < hi → w'.cell? ⟨b, o, none⟩ = w.cell? ⟨b, o, none⟩) (t : T) : t.In w lo hi → t.In w' lo hi := by
  induction t using T.ind with
  | h k n s A cap l r ih =>
    rw [T.in_mk, T.in_mk]
    rintro ⟨h1, h2, h3⟩
    refine ⟨h1, fun hl => ?_, fun x hx => ih x hx (h3 x hx)⟩
    obtain ⟨b, o, rfl, hb0, hb1, hc⟩ := h2 hl
    exact ⟨b, o, rfl, hb0, hb1, fun i x hx j u hu => (hk b _ hb0 hb1).trans (hc i x hx j u hu)⟩

theorem T.In.below {w w' : World} {lo hi B : Nat} {t : T} (h : t.In w lo hi) (hb : Below B w w') (hB : hi ≤ B) : t.In w' lo hi :=
  T.In.keep (fun b o _ h1 => hb.cell (p := ⟨b, o, none⟩) (Nat.lt_of_lt_of_le h1 hB)) t h

theorem T.In.more {w : World} {lo hi lo' hi' : Nat} (hl : lo' ≤ lo) (hh : hi ≤ hi') (t : T) : t.In w lo hi → t.In w lo' hi' := by
  induction t using T.ind with
  | h k n s A cap l r ih =>
    rw [T.in_mk, T.in_mk]
    rintro ⟨h1, h2, h3⟩
    refine ⟨h1, fun hl' => ?_, fun x hx => ih x hx (h3 x hx)⟩
    obtain ⟨b, o, rfl, hb0, hb1, hc⟩ := h2 hl'
    exact ⟨b, o, rfl, by omega, by omega, hc⟩

/-- A fact kept from the walk. -/
theorem hide {p : Prop} (h : p) : Hid p := h

/-! ### A block that is known whole -/
def Blk (w : World) (g : Nat) (t : TypeId) (cs : Array Value) : Prop := w.heap[g]? = some (.cells cs t (0, 0))

section
variable {w w' : World} {g : Nat} {t : TypeId} {cs : Array Value}
theorem Blk.lt (h : Blk w g t cs) : g < w.heap.size := by
  rcases Nat.lt_or_ge g w.heap.size with hlt | hge
  · exact hlt
  · unfold Blk at h; rw [Array.getElem?_eq_none hge] at h; cases h
theorem Blk.cell (h : Blk w g t cs) (i : Nat) : w.cell? ⟨g, i, none⟩ = cs[i]? := cell_of_row w g i cs t (0, 0) h
theorem Blk.frozen (h : Blk w g t cs) (i : Nat) : w.frozen? ⟨g, i, none⟩ = false := by
  unfold Blk at h
  simp [World.frozen?, h]
theorem Blk.new (w : World) (t : TypeId) (cs : Array Value) : Blk (w.alloc (.cells cs t)) w.heap.size t cs := heap_alloc_new w _
theorem Blk.new' (w : World) (t : TypeId) (cs : Array Value) {g : Nat} (h : w.heap.size = g) : Blk (w.alloc (.cells cs t)) g t cs := by subst h; exact Blk.new w t cs
theorem Blk.drew (h : Blk w g t cs) : Blk w.drew g t cs := h
theorem Blk.drewN (h : Blk w g t cs) (n : Nat) : Blk (w.drewN n) g t cs := h
theorem Blk.alloc (h : Blk w g t cs) (o : Obj) : Blk (w.alloc o) g t cs := (Below.heap_alloc w o g h.lt).trans h
theorem Blk.set_ (h : Blk w g t cs) (i : Nat) (u : Value) : Blk (w.setCell ⟨g, i, none⟩ u) g t (cs.setIfInBounds i u) := by
  unfold Blk at h ⊢
  simp [World.setCell, Array.getElem?_modify, h]
theorem Blk.far (h : Blk w g t cs) {p : Addr} (hp : g ≠ p.block) (u : Value) : Blk (w.setCell p u) g t cs := (Below.heap_setCell w p u g hp).trans h
theorem Blk.ne_ {g' : Nat} {t' : TypeId} {cs' : Array Value} (h : Blk w g t cs) (h' : Blk w g' t' cs') (hne : t ≠ t') : g ≠ g' := by
  rintro rfl
  unfold Blk at h h'
  rw [h] at h'
  injection h' with h'
  injection h' with _ ht
  exact hne ht
end

/-! ### Frames: which old blocks may have turned -/

/-- Of the blocks that there were, those of S alone may have turned. -/
structure Fr (S : Nat → Prop) (w w' : World) : Prop where
  os : w'.os = w.os
  tape : w'.tape = w.tape
  output : w'.output = w.output
  size : w.heap.size ≤ w'.heap.size
  block : ∀ b, b < w.heap.size → ¬ S b → w'.heap[b]? = w.heap[b]?

/-- No block. -/
def No (_ : Nat) : Prop := False

section
variable {S S' : Nat → Prop} {a b c w w' : World}

theorem Fr.refl (S : Nat → Prop) (w : World) : Fr S w w := ⟨rfl, rfl, rfl, Nat.le_refl _, fun _ _ _ => rfl⟩

theorem Fr.trans' (h : Fr S a b) (k : Fr S' b c) (hs : ∀ i, i < a.heap.size → S' i → S i) : Fr S a c :=
  ⟨k.os.trans h.os, k.tape.trans h.tape, k.output.trans h.output, Nat.le_trans h.size k.size, fun i hi hn =>
    (k.block i (Nat.lt_of_lt_of_le hi h.size) (fun hS => hn (hs i hi hS))).trans (h.block i hi hn)⟩

theorem Fr.trans (h : Fr S a b) (k : Fr S b c) : Fr S a c := h.trans' k fun _ _ h => h

theorem Fr.mono (h : Fr S a b) (hs : ∀ i, i < a.heap.size → S i → S' i) : Fr S' a b := (Fr.refl S' a).trans' h hs

theorem Fr.no (h : Fr No a b) : Fr S a b := h.mono fun _ _ h => h.elim

theorem Fr.thenNo (h : Fr S a b) (k : Fr No b c) : Fr S a c := h.trans' k fun _ _ h => h.elim

theorem Fr.drew (h : Fr S a w) : Fr S a w.drew := ⟨h.os, h.tape, h.output, h.size, h.block⟩

theorem Fr.drewN (h : Fr S a w) (n : Nat) : Fr S a (w.drewN n) := ⟨h.os, h.tape, h.output, h.size, h.block⟩

theorem Fr.alloc (h : Fr S a w) (o : Obj) : Fr S a (w.alloc o) :=
  h.trans' (S' := No) ⟨rfl, rfl, rfl, by simp, fun k hk _ => Below.heap_alloc _ _ _ hk⟩ fun _ _ h => h.elim

theorem Fr.set (h : Fr S a w) {p : Addr} (hp : p.block < a.heap.size → S p.block) (u : Value) : Fr S a (w.setCell p u) :=
  ⟨h.os, h.tape, h.output, by simpa [World.setCell] using h.size, fun i hi hn => (Below.heap_setCell _ _ _ _ (by rintro rfl; exact hn (hp hi))).trans (h.block i hi hn)⟩

theorem Fr.setNew (h : Fr S a w) {p : Addr} (hp : a.heap.size ≤ p.block) (u : Value) : Fr S a (w.setCell p u) :=
  h.set (fun hlt => by omega) u

theorem Fr.grown (h : Fr S a w) {row : Option Nat} (hg : w.grownBy w' row) (hr : ∀ k, row = some k → k < a.heap.size → S k) : Fr S a w' :=
  ⟨hg.os.trans h.os, hg.tape.trans h.tape, hg.output.trans h.output, Nat.le_trans h.size hg.size, fun i hi hn =>
    (hg.block i (Nat.lt_of_lt_of_le hi h.size) (fun e => hn (hr i e.symm hi))).trans (h.block i hi hn)⟩

theorem Fr.below (h : Fr S a w) {B : Nat} (hB : B ≤ a.heap.size) (hs : ∀ i, i < B → ¬ S i) : Below B a w :=
  ⟨h.os, h.tape, h.output, h.size, fun k hk => h.block k (by omega) (hs k hk)⟩

theorem Fr.noBelow (h : Fr No a w) : Below a.heap.size a w := h.below (Nat.le_refl _) fun _ _ h => h

theorem Fr.ofBelow (h : Below a.heap.size a w) : Fr No a w := ⟨h.os, h.tape, h.output, h.size, fun b hb _ => h.block b hb⟩

theorem Fr.cell (h : Fr S a w) {b o : Nat} {s : Option Nat} (hb : b < a.heap.size) (hn : ¬ S b) : w.cell? ⟨b, o, s⟩ = a.cell? ⟨b, o, s⟩ :=
  World.cell?_of_block (w := a) (h.block b hb hn)

theorem Fr.frozen (h : Fr S a w) {b o : Nat} {s : Option Nat} (hb : b < a.heap.size) (hn : ¬ S b) : w.frozen? ⟨b, o, s⟩ = a.frozen? ⟨b, o, s⟩ :=
  World.frozen?_of_block (w := a) (h.block b hb hn)

theorem Blk.fr {g : Nat} {t : TypeId} {cs : Array Value} (h : Blk a g t cs) (hf : Fr S a w) (hn : ¬ S g) : Blk w g t cs := (hf.block g h.lt hn).trans h

theorem Fr.cells (h : Fr No a w) : ∀ b o, b < a.heap.size → w.cell? ⟨b, o, none⟩ = a.cell? ⟨b, o, none⟩ := fun _ _ hb => h.cell hb fun h => h
theorem Fr.frozens (h : Fr No a w) : ∀ b o, b < a.heap.size → w.frozen? ⟨b, o, none⟩ = a.frozen? ⟨b, o, none⟩ := fun _ _ hb => h.frozen hb fun h => h

theorem T.In.fr {lo hi : Nat} {t : T} (h : t.In a lo hi) (hf : Fr S a w) (hh : hi ≤ a.heap.size) (hs : ∀ i, lo ≤ i → i < hi → ¬ S i) : t.In w lo hi :=
  T.In.keep (fun b o h0 h1 => hf.cell (by omega) (hs b h0 h1)) t h

theorem T.In.no {lo hi : Nat} {t : T} (h : t.In a lo hi) (hf : Fr No a w) (hh : hi ≤ a.heap.size) : t.In w lo hi := h.fr hf hh fun _ _ _ h => h
end

/-- One part of a list, as the walk reads it. -/
theorem T.elem {w : World} {lo hi : Nat} {k n : Int} {s : ByteArray} {A : Option Addr} {cap : Nat} {l : List T} {r : Int} (h : (T.mk k n s A cap l r).In w lo hi) {j : Nat} (hj : j < l.length) :
    ∃ b o k1 n1 s1 A1 cap1 l1 r1, A = some ⟨b, o, none⟩ ∧ lo ≤ b ∧ b < hi ∧ l[j] = T.mk k1 n1 s1 A1 cap1 l1 r1 ∧ (T.mk k1 n1 s1 A1 cap1 l1 r1).In w lo hi ∧
      w.cell? ⟨b, o + j * 5, none⟩ = some (.int .u8 k1) ∧ w.cell? ⟨b, o + j * 5 + 1, none⟩ = some (.int .i64 n1) ∧ w.cell? ⟨b, o + j * 5 + 2, none⟩ = some (.string s1) ∧
      w.cell? ⟨b, o + j * 5 + 3, none⟩ = some (.slice A1 l1.length cap1) ∧ w.cell? ⟨b, o + j * 5 + 4, none⟩ = some (.int .i64 r1) := by
  obtain ⟨_, hA, hs⟩ := T.in_mk.1 h
  obtain ⟨b, o, rfl, h0, h1, hc⟩ := hA (by rintro rfl; simp at hj)
  have h5 := hc j l[j] (List.getElem?_eq_getElem hj)
  have hin := hs l[j] (List.getElem_mem hj)
  cases hx : l[j] with
  | mk k1 n1 s1 A1 cap1 l1 r1 =>
    rw [hx] at h5 hin
    exact ⟨b, o, k1, n1, s1, A1, cap1, l1, r1, rfl, h0, h1, rfl, hin, h5 0 _ rfl, h5 1 _ rfl, h5 2 _ rfl, h5 3 _ rfl, h5 4 _ rfl⟩

/-! ### Values in memory of their own -/

/-- The blocks of a tree's lists, each as often as it is met. -/
def T.blocks : T → List Nat
  | .mk _ _ _ A _ l _ => (if l.isEmpty then [] else (A.map Addr.block).toList) ++ (l.map T.blocks).flatten
termination_by t => t

theorem T.blocks_mk (k n : Int) (s : ByteArray) (A : Option Addr) (cap : Nat) (l : List T) (r : Int) :
    (T.mk k n s A cap l r).blocks = (if l.isEmpty then [] else (A.map Addr.block).toList) ++ (l.map T.blocks).flatten := by rw [T.blocks]

theorem T.In.blocks {w : World} {lo hi : Nat} (t : T) : t.In w lo hi → ∀ b ∈ t.blocks, lo ≤ b ∧ b < hi := by
  induction t using T.ind with
  | h k n s A cap l r ih =>
    rw [T.in_mk, T.blocks_mk]
    rintro ⟨_, h2, h3⟩ b hb
    rcases List.mem_append.1 hb with hb | hb
    · cases l with
      | nil => simp at hb
      | cons x l =>
        obtain ⟨c, o, rfl, h0, h1, _⟩ := h2 (by simp)
        simp at hb
        subst hb
        exact ⟨h0, h1⟩
    · obtain ⟨bs, hbs, hb⟩ := List.mem_flatten.1 hb
      obtain ⟨x, hx, rfl⟩ := List.mem_map.1 hbs
      exact ih x hx (h3 x hx) b hb

/-- A tree in memory of its own: no block is met twice, no cell is frozen. -/
structure T.Ow (w : World) (lo hi : Nat) (t : T) : Prop where
  inn : t.In w lo hi
  nodup : t.blocks.Nodup
  free : ∀ b ∈ t.blocks, ∀ o, w.frozen? ⟨b, o, none⟩ = false

/-- Trees in memory of their own, apart from each other. -/
structure Forest (w : World) (lo hi : Nat) (l : List T) : Prop where
  inn : ∀ x ∈ l, x.In w lo hi
  nodup : (l.map T.blocks).flatten.Nodup
  free : ∀ b ∈ (l.map T.blocks).flatten, ∀ o, w.frozen? ⟨b, o, none⟩ = false

section
variable {S : Nat → Prop} {w w' : World} {lo hi : Nat} {t : T} {l : List T}

theorem T.Ow.fr (h : t.Ow w lo hi) (hf : Fr S w w') (hh : hi ≤ w.heap.size) (hs : ∀ i, lo ≤ i → i < hi → ¬ S i) : t.Ow w' lo hi :=
  ⟨h.inn.fr hf hh hs, h.nodup, fun b hb o => by
    have := T.In.blocks t h.inn b hb
    rw [hf.frozen (by omega) (hs b this.1 this.2)]
    exact h.free b hb o⟩

theorem T.Ow.no (h : t.Ow w lo hi) (hf : Fr No w w') (hh : hi ≤ w.heap.size) : t.Ow w' lo hi := h.fr hf hh fun _ _ _ h => h

theorem T.Ow.more {lo' hi' : Nat} (h : t.Ow w lo hi) (hl : lo' ≤ lo) (hh : hi ≤ hi') : t.Ow w lo' hi' := ⟨T.In.more hl hh t h.inn, h.nodup, h.free⟩

theorem Forest.nil (w : World) (lo hi : Nat) : Forest w lo hi [] := ⟨by simp, by simp, by simp⟩

theorem Forest.blocks (h : Forest w lo hi l) : ∀ b ∈ (l.map T.blocks).flatten, lo ≤ b ∧ b < hi := fun b hb => by
  obtain ⟨bs, hbs, hb⟩ := List.mem_flatten.1 hb
  obtain ⟨x, hx, rfl⟩ := List.mem_map.1 hbs
  exact T.In.blocks x (h.inn x hx) b hb

/-- In another world: whatever has turned is none of the forest's blocks. -/
theorem Forest.fr' (h : Forest w lo hi l) (hf : Fr S w w') (hh : hi ≤ w.heap.size) (hs : ∀ b ∈ (l.map T.blocks).flatten, ¬ S b) (hin : ∀ x ∈ l, x.In w' lo hi) : Forest w' lo hi l :=
  ⟨hin, h.nodup, fun b hb o => by
    have := h.blocks b hb
    rw [hf.frozen (by omega) (hs b hb)]
    exact h.free b hb o⟩

theorem Forest.fr (h : Forest w lo hi l) (hf : Fr S w w') (hh : hi ≤ w.heap.size) (hs : ∀ i, lo ≤ i → i < hi → ¬ S i) : Forest w' lo hi l :=
  h.fr' hf hh (fun b hb => hs b (h.blocks b hb).1 (h.blocks b hb).2) fun x hx => (h.inn x hx).fr hf hh hs

theorem Forest.no (h : Forest w lo hi l) (hf : Fr No w w') (hh : hi ≤ w.heap.size) : Forest w' lo hi l := h.fr hf hh fun _ _ _ h => h

theorem Forest.more {lo' hi' : Nat} (h : Forest w lo hi l) (hl : lo' ≤ lo) (hh : hi ≤ hi') : Forest w lo' hi' l := ⟨fun x hx => T.In.more hl hh x (h.inn x hx), h.nodup, h.free⟩

/-- A tree more, in blocks beyond. -/
theorem Forest.snoc {hi' : Nat} (h : Forest w lo hi l) (hx : t.Ow w hi hi') (h0 : lo ≤ hi) (h1 : hi ≤ hi') : Forest w lo hi' (l ++ [t]) := by
  refine ⟨fun x hx' => ?_, ?_, fun b hb => ?_⟩
  · rcases List.mem_append.1 hx' with hx' | hx'
    · exact T.In.more (Nat.le_refl _) h1 x (h.inn x hx')
    · simp at hx'; subst hx'; exact T.In.more h0 (Nat.le_refl _) _ hx.inn
  · rw [List.map_append, List.flatten_append, List.nodup_append]
    refine ⟨h.nodup, by simpa using hx.nodup, fun a ha b hb => ?_⟩
    simp at hb
    have h2 := h.blocks a ha
    have h3 := T.In.blocks t hx.inn b hb
    omega
  · rw [List.map_append, List.flatten_append, List.mem_append] at hb
    rcases hb with hb | hb
    · exact h.free b hb
    · simp at hb; exact hx.free b hb

end

/-- The cells of a block are those of some trees, one behind the other. -/
def RowIs (cs : Array Value) (o : Nat) (l : List T) : Prop := ∀ i x, l[i]? = some x → ∀ c u, x.cells[c]? = some u → cs[o + i * 5 + c]? = some u

theorem RowIs.nil (cs : Array Value) (o : Nat) : RowIs cs o [] := fun i x h => by simp at h

theorem T.cells_length (t : T) : t.cells.length = 5 := by cases t; rfl

theorem RowIs.snoc {cs cs' : Array Value} {o : Nat} {l : List T} {t : T} (h : RowIs cs o l) (hk : ∀ i, i < o + l.length * 5 → cs'[i]? = cs[i]?) (ht : ∀ c u, t.cells[c]? = some u → cs'[o + l.length * 5 + c]? = some u) :
    RowIs cs' o (l ++ [t]) := by
  intro i x hx c u hu
  have hc : c < 5 := by
    have := (List.getElem?_eq_some_iff.1 hu).1
    rw [T.cells_length] at this
    exact this
  rcases Nat.lt_or_ge i l.length with hi | hi
  · rw [List.getElem?_append_left hi] at hx
    rw [hk _ (by omega)]
    exact h i x hx c u hu
  · rw [List.getElem?_append_right hi] at hx
    have : i - l.length = 0 := by
      rcases Nat.eq_zero_or_pos (i - l.length) with h0 | h0
      · exact h0
      · rw [List.getElem?_eq_none (by simp; omega)] at hx; cases hx
    have hil : i = l.length := by omega
    subst hil
    simp at hx
    subst hx
    exact ht c u hu

/-- A value whose list lies in a block known whole. -/
theorem T.ow_mk {w : World} {lo hi g o cap : Nat} {k n : Int} {s : ByteArray} {l : List T} {r : Int} {cs : Array Value} (hf : Fit k n s l.length cap r) (hF : Forest w lo hi l) (hb : Blk w g 28 cs) (hr : RowIs cs o l)
    (h0 : lo ≤ g) (h1 : g < hi) (hg : g ∉ (l.map T.blocks).flatten) : (T.mk k n s (some ⟨g, o, none⟩) cap l r).Ow w lo hi := by
  refine ⟨T.in_mk.2 ⟨hf, fun _ => ⟨g, o, rfl, h0, h1, fun i x hx c u hu => ?_⟩, hF.inn⟩, ?_, ?_⟩
  · rw [hb.cell]; exact hr i x hx c u hu
  · rw [T.blocks_mk]
    cases l with
    | nil => simp
    | cons x l => 
      simp only [List.isEmpty_cons, Bool.false_eq_true, if_false, Option.map_some, Option.toList_some, List.singleton_append, List.nodup_cons]
      exact ⟨hg, hF.nodup⟩
  · rw [T.blocks_mk]
    intro b hb' o'
    rcases List.mem_append.1 hb' with hb' | hb'
    · cases l with
      | nil => simp at hb'
      | cons x l => simp at hb'; subst hb'; exact hb.frozen o'
    · exact hF.free b hb' o'

/-- A value without a list. -/
theorem T.ow_nil {w : World} {lo hi cap : Nat} {k n : Int} {s : ByteArray} {A : Option Addr} {r : Int} (hf : Fit k n s 0 cap r) : (T.mk k n s A cap [] r).Ow w lo hi := by
  refine ⟨T.in_mk.2 ⟨hf, fun h => absurd rfl h, by simp⟩, ?_, ?_⟩
  · rw [T.blocks_mk]; simp
  · rw [T.blocks_mk]; simp

/-- Five stores in a row. -/
theorem Blk.five {w : World} {g : Nat} {t : TypeId} {cs : Array Value} (h : Blk w g t cs) (o : Nat) (a b c d e : Value) :
    Blk (((((w.setCell ⟨g, o, none⟩ a).setCell ⟨g, o + 1, none⟩ b).setCell ⟨g, o + 2, none⟩ c).setCell ⟨g, o + 3, none⟩ d).setCell ⟨g, o + 4, none⟩ e) g t
      (((((cs.setIfInBounds o a).setIfInBounds (o + 1) b).setIfInBounds (o + 2) c).setIfInBounds (o + 3) d).setIfInBounds (o + 4) e) :=
  ((((h.set_ _ _).set_ _ _).set_ _ _).set_ _ _).set_ _ _

theorem Fr.five {S : Nat → Prop} {a w : World} (h : Fr S a w) {g : Nat} (hg : g < a.heap.size → S g) (o : Nat) (x0 x1 x2 x3 x4 : Value) :
    Fr S a (((((w.setCell ⟨g, o, none⟩ x0).setCell ⟨g, o + 1, none⟩ x1).setCell ⟨g, o + 2, none⟩ x2).setCell ⟨g, o + 3, none⟩ x3).setCell ⟨g, o + 4, none⟩ x4) :=
  ((((h.set (p := ⟨g, o, none⟩) hg _).set (p := ⟨g, o + 1, none⟩) hg _).set (p := ⟨g, o + 2, none⟩) hg _).set (p := ⟨g, o + 3, none⟩) hg _).set (p := ⟨g, o + 4, none⟩) hg _

/-- A row of trees with one more behind it. -/
theorem RowIs.five {cs : Array Value} {o : Nat} {l : List T} {k n : Int} {s : ByteArray} {A : Option Addr} {cap : Nat} {l1 : List T} {r : Int} (h : RowIs cs o l) (hs : o + l.length * 5 + 5 ≤ cs.size) :
    RowIs (((((cs.setIfInBounds (o + l.length * 5) (.int .u8 k)).setIfInBounds (o + l.length * 5 + 1) (.int .i64 n)).setIfInBounds (o + l.length * 5 + 2) (.string s)).setIfInBounds (o + l.length * 5 + 3) (.slice A l1.length cap)).setIfInBounds
      (o + l.length * 5 + 4) (.int .i64 r)) o (l ++ [T.mk k n s A cap l1 r]) := by
  refine h.snoc (fun i hi => ?_) fun c u hu => ?_
  · simp only [Array.getElem?_setIfInBounds]
    repeat rw [if_neg (by omega)]
  · match c, hu with
    | 0, hu => simp [T.cells] at hu; subst hu; simp [Array.getElem?_setIfInBounds]; omega
    | 1, hu => simp [T.cells] at hu; subst hu; simp [Array.getElem?_setIfInBounds]; omega
    | 2, hu => simp [T.cells] at hu; subst hu; simp [Array.getElem?_setIfInBounds]; omega
    | 3, hu => simp [T.cells] at hu; subst hu; simp [Array.getElem?_setIfInBounds]; omega
    | 4, hu => simp [T.cells] at hu; subst hu; simp [Array.getElem?_setIfInBounds]; omega

/-- The cells of a block of five. -/
theorem Blk.cells5 {w : World} {g : Nat} {t : TypeId} {a b c d e : Value} (h : Blk w g t #[a, b, c, d, e]) :
    w.cell? ⟨g, 0, none⟩ = some a ∧ w.cell? ⟨g, 1, none⟩ = some b ∧ w.cell? ⟨g, 2, none⟩ = some c ∧ w.cell? ⟨g, 3, none⟩ = some d ∧ w.cell? ⟨g, 4, none⟩ = some e ∧ ∀ i, w.frozen? ⟨g, i, none⟩ = false :=
  ⟨h.cell 0, h.cell 1, h.cell 2, h.cell 3, h.cell 4, h.frozen⟩

end Go.Proofs.YtlejelbefmkakaaGreat

/- A value that came in, as a tree in memory. -/
namespace Go.Proofs.YtlejelbefmkakaaGreat
open Go.Joins Go.ChangeShapes Go.WideShapes Go.RowKit Go.Deep

theorem choose_list {α : Type} {Q : Nat → α → Prop} : ∀ (n : Nat), (∀ i, i < n → ∃ x, Q i x) → ∃ l : List α, l.length = n ∧ ∀ i x, l[i]? = some x → Q i x
  | 0, _ => ⟨[], rfl, fun i x h => by simp at h⟩
  | n + 1, h => by
    obtain ⟨l, hl, hq⟩ := choose_list n fun i hi => h i (by omega)
    obtain ⟨x, hx⟩ := h n (by omega)
    refine ⟨l ++ [x], by simp [hl], fun i y hy => ?_⟩
    rcases Nat.lt_trichotomy i n with hi | rfl | hi
    · rw [List.getElem?_append_left (by omega)] at hy
      exact hq i y hy
    · rw [List.getElem?_append_right (by omega), hl] at hy
      simp at hy; subst hy; exact hx
    · rw [List.getElem?_eq_none (by simp; omega)] at hy; cases hy

theorem cell_lt {w : World} {a : Addr} {v : Value} (h : w.cell? a = some v) : a.block < w.heap.size := by
  rcases Nat.lt_or_ge a.block w.heap.size with hlt | hge
  · exact hlt
  · unfold World.cell? at h
    rw [Array.getElem?_eq_none hge] at h
    simp at h

section
variable {H : Type} {enc : TypeId × Value → H}

theorem wf_u8 {n : Int} (h : (Lit.int .u8 n).wf = true) : 0 ≤ n ∧ n < 256 := by
  obtain ⟨h0, h1⟩ : IntKind.u8.min ≤ n ∧ n ≤ IntKind.u8.max := by simpa [Lit.wf] using h
  have e0 : IntKind.u8.min = 0 := by decide
  have e1 : IntKind.u8.max = 255 := by decide
  omega

theorem wf_i64 {n : Int} (h : (Lit.int .i64 n).wf = true) : -9223372036854775808 ≤ n ∧ n ≤ 9223372036854775807 := by
  obtain ⟨h0, h1⟩ : IntKind.i64.min ≤ n ∧ n ≤ IntKind.i64.max := by simpa [Lit.wf] using h
  have e0 : IntKind.i64.min = -9223372036854775808 := by decide
  have e1 : IntKind.i64.max = 9223372036854775807 := by decide
  omega

theorem reach_eq : reachBytes = 140737488351232 := rfl
theorem cells27 : Tryz.prog.cellsOf 28 = 5 := by kernel_rfl
theorem bytes27 : Tryz.prog.bytesOf 28 = 64 := by kernel_rfl
theorem add_at (b o n : Nat) : (⟨b, o, none⟩ : Addr).add n = ⟨b, o + n, none⟩ := by
  unfold Addr.add; split <;> simp_all

theorem weights27 (ds : List (DataW H)) : (DataW.agg ds).weights Tryz.prog 28 = DataW.weightsEach Tryz.prog [25, 2, 9, 26, 22] ds := by
  rw [DataW.weights, Tryz.underlying28]; rfl

theorem weights24 (es rs : List (DataW H)) : (DataW.slice es rs).weights Tryz.prog 26 = (es.length + rs.length) * 64 :: (DataW.weightsAll Tryz.prog 28 es ++ DataW.weightsAll Tryz.prog 28 rs) := by
  rw [DataW.weights, Tryz.underlying26]; simp only [bytes27]

theorem weights9 (bs : List UInt8) : (DataW.lit (H := H) (.string bs)).weights Tryz.prog 9 = [bs.length] := by rw [DataW.weights]

theorem mem_weightsAll {P : Program} {e : TypeId} {m : Nat} : ∀ {ds : List (DataW H)} {d : DataW H}, d ∈ ds → m ∈ d.weights P e → m ∈ DataW.weightsAll P e ds
  | [], _, h, _ => by simp at h
  | d0 :: ds, d, h, hm => by
    rw [DataW.weightsAll, List.mem_append]
    rcases List.mem_cons.1 h with rfl | h
    · exact .inl hm
    · exact .inr (mem_weightsAll h hm)

set_option maxRecDepth 100000 in
set_option maxHeartbeats 1000000 in
theorem open_tree (W : World) (fuel : Nat) : ∀ (cs : List Value) (x : DataW H × List MemPlace), DataW.trod enc Tryz.prog W 0 (fun _ => true) true fuel 28 cs = some x → (∀ m ∈ x.1.weights Tryz.prog 28, m ≤ reachBytes) →
    ∃ t : T, cs = t.cells ∧ t.In W 0 W.heap.size := by
  induction fuel using Nat.strongRecOn with
  | ind fuel IH =>
    intro cs x h hw
    obtain ⟨xs, n, rfl, rfl, hlen, hxs, hg⟩ := DataW.trod_struct Tryz.underlying28 h
    rw [cells27] at hlen
    match cs, hlen, xs, hxs with
    | [c0, c1, c2, c3, c4], _, [y0, y1, y2, y3, y4], _ =>
      have g0 : DataW.trod enc Tryz.prog W 0 (fun _ => true) true n 25 [c0] = some y0 := hg 0 _ rfl
      have g1 : DataW.trod enc Tryz.prog W 0 (fun _ => true) true n 2 [c1] = some y1 := hg 1 _ rfl
      have g2 : DataW.trod enc Tryz.prog W 0 (fun _ => true) true n 9 [c2] = some y2 := hg 2 _ rfl
      have g3 : DataW.trod enc Tryz.prog W 0 (fun _ => true) true n 26 [c3] = some y3 := hg 3 _ rfl
      have g4 : DataW.trod enc Tryz.prog W 0 (fun _ => true) true n 22 [c4] = some y4 := hg 4 _ rfl
      obtain ⟨k, e0, rfl, wk⟩ := DataW.trod_int Tryz.underlying25 g0
      obtain ⟨m1, e1, rfl, wn⟩ := DataW.trod_int Tryz.underlying2 g1
      obtain ⟨s, e2, rfl, ws⟩ := DataW.trod_string Tryz.underlying9 g2
      obtain ⟨r, e4, rfl, wr⟩ := DataW.trod_int Tryz.underlying22 g4
      simp only [List.cons.injEq, and_true] at e0 e1 e2 e4
      subst e0 e1 e2 e4
      have hW : ∀ m, m ∈ (y3.1.weights Tryz.prog 26) ∨ m = s.data.toList.length → m ≤ reachBytes := by
        intro m hm
        refine hw m ?_
        rw [List.map_cons, List.map_cons, List.map_cons, List.map_cons, List.map_cons, weights27, DataW.weightsEach, DataW.weightsEach, DataW.weightsEach, DataW.weightsEach, weights9]
        rcases hm with hm | hm
        · exact List.mem_append_right _ (List.mem_append_right _ (List.mem_append_right _ (List.mem_append_left _ hm)))
        · exact List.mem_append_right _ (List.mem_append_right _ (List.mem_append_left _ (by rw [hm]; exact List.mem_singleton.2 rfl)))
      have hs : s.size ≤ 140737488351232 := by
        have := hW _ (.inr rfl)
        rw [reach_eq, Array.length_toList] at this
        exact this
      obtain ⟨k0, k1⟩ := wf_u8 wk
      obtain ⟨n0, n1⟩ := wf_i64 wn
      obtain ⟨r0, r1⟩ := wf_i64 wr
      rcases DataW.trod_slice Tryz.underlying26 g3 with ⟨e3, -⟩ | ⟨a, len, cap, elems, rest, n', rfl, e3, rfl, -, hcap, hmax, hel, hat, hsp, -⟩
      · simp only [List.cons.injEq, and_true] at e3
        subst e3
        exact ⟨T.mk k m1 s none 0 [] r, rfl, T.in_mk.2 ⟨⟨k0, k1, n0, n1, hs, by simp, Nat.le_refl _, r0, r1⟩, fun h => absurd rfl h, by simp⟩⟩
      · simp only [List.cons.injEq, and_true] at e3
        subst e3
        have hlen1 : len * 64 ≤ 140737488351232 := by
          have := hW ((elems.length + rest.length) * 64) (.inl (by rw [weights24]; simp))
          rw [reach_eq, hel] at this
          omega
        rw [cells27] at hat
        have hone : ∀ i, i < len → ∃ t : T, (∀ j u, t.cells[j]? = some u → W.cell? ((a.add (i * 5)).add j) = some u) ∧ t.In W 0 W.heap.size := by
          intro i hi
          have h1 := hat i hi
          have h2 : elems[i]? = some (elems[i]'(by omega)) := List.getElem?_eq_getElem (by omega)
          rw [h2] at h1
          obtain ⟨cs', hc, ht'⟩ := Option.bind_eq_some_iff.1 h1
          obtain ⟨t, rfl, hin⟩ := IH n' (by omega) cs' _ ht' (fun m hm => hW m (.inl (by
            rw [weights24]
            refine List.mem_cons_of_mem _ (List.mem_append_left _ ?_)
            exact mem_weightsAll (List.mem_map_of_mem (List.getElem_mem _)) hm)))
          obtain ⟨-, hcl, hcell⟩ := World.cells?_some hc
          refine ⟨t, fun j u hu => ?_, hin⟩
          have hj : j < 5 := by
            rcases Nat.lt_or_ge j 5 with h | h
            · exact h
            · rw [List.getElem?_eq_none (by rw [T.cells_length]; exact h)] at hu; cases hu
          rw [hcell j hj, hu]
        obtain ⟨l, hl, hq⟩ := choose_list len hone
        subst hl
        obtain ⟨b, o, sp⟩ := a
        refine ⟨T.mk k m1 s (some ⟨b, o, sp⟩) cap l r, rfl, T.in_mk.2 ⟨⟨k0, k1, n0, n1, hs, hlen1, hcap, r0, r1⟩, fun hne => ?_, fun x hx => ?_⟩⟩
        · have hlp : 0 < l.length := List.length_pos_iff.2 hne
          obtain ⟨hc0, -⟩ := hq 0 _ (List.getElem?_eq_getElem hlp)
          have hcc := hc0 0 _ (List.getElem?_eq_getElem (by rw [T.cells_length]; omega))
          have hspot : sp = none := by simpa [Addr.add] using World.cell?_spot hcc
          subst hspot
          have hlt := cell_lt hcc
          refine ⟨b, o, rfl, Nat.zero_le _, by simpa [Addr.add] using hlt, fun i x hx j u hu => ?_⟩
          have := (hq i x hx).1 j u hu
          rw [add_at, add_at] at this
          exact this
        · obtain ⟨i, hi, rfl⟩ := List.mem_iff_getElem.1 hx
          exact (hq i _ (List.getElem?_eq_getElem hi)).2

set_option maxRecDepth 100000 in
/-- An argument of the type Value. -/
theorem open_val {W : World} {b0 : Nat} {v : Value} {d : DataW H} {p : List MemPlace} (hv : Value.okWide Tryz.prog W .any b0 28 v) (h : DataW.Trod enc Tryz.prog W 0 (fun _ => true) true 28 v d p) (hw : ∀ m ∈ d.weights Tryz.prog 28, m ≤ reachBytes) :
    ∃ t : T, v = t.val ∧ t.In W 0 W.heap.size := by
  obtain ⟨cs, rfl, hsz⟩ := okWide_struct Tryz.underlying28 hv
  obtain ⟨fuel, hf⟩ := h
  obtain ⟨t, ht, hin⟩ := open_tree W fuel _ _ hf hw
  refine ⟨t, ?_, hin⟩
  cases t with
  | mk k n s A cap l r =>
    obtain ⟨cs⟩ := cs
    have ht' : cs = (T.mk k n s A cap l r).cells := ht
    rw [ht']
    rfl
end

end Go.Proofs.YtlejelbefmkakaaGreat

/- Rows of values in memory: what came in, what was appended. -/
namespace Go.Proofs.YtlejelbefmkakaaGreat
open Go.Joins Go.ChangeShapes Go.WideShapes Go.RowKit Go.Deep

/-- Some values that lie one behind the other. -/
def T.row (A : Option Addr) (cap : Nat) (l : List T) : T := .mk 3 0 ⟨#[]⟩ A cap l 0

/-- The cells of some values. -/
def rowCells (l : List T) : List Value := l.flatMap T.cells

theorem rowCells_length (l : List T) : (rowCells l).length = l.length * 5 := by
  induction l with
  | nil => rfl
  | cons x l ih => simp only [rowCells, List.flatMap_cons, List.length_append] at ih ⊢; rw [T.cells_length, ih]; simp only [List.length_cons]; omega

theorem rowCells_get : ∀ (l : List T) (i c : Nat) (x : T) (u : Value), l[i]? = some x → x.cells[c]? = some u → (rowCells l)[i * 5 + c]? = some u
  | [], i, c, x, u, h, _ => by simp at h
  | y :: l, 0, c, x, u, h, hu => by
    simp at h; subst h
    simp only [rowCells, List.flatMap_cons, Nat.zero_mul, Nat.zero_add]
    rw [List.getElem?_append_left]
    · exact hu
    · exact (List.getElem?_eq_some_iff.1 hu).1
  | y :: l, i + 1, c, x, u, h, hu => by
    simp only [List.getElem?_cons_succ] at h
    have := rowCells_get l i c x u h hu
    simp only [rowCells, List.flatMap_cons] at this ⊢
    rw [List.getElem?_append_right (by rw [T.cells_length]; omega), T.cells_length, show (i + 1) * 5 + c - 5 = i * 5 + c by omega]
    exact this

theorem rowCells_snoc (l : List T) (x : T) : rowCells (l ++ [x]) = rowCells l ++ x.cells := by simp [rowCells]

theorem cells_one (x : T) : ∀ u ∈ x.cells, u.oneCell' = true := by
  cases x; simp [T.cells, Value.oneCell']

theorem owns_form {w : World} {base : Nat} {e : TypeId} {size : Nat} {v : Value} {n : Nat} {xs : List Value} (h : w.ownsRow base e size v n xs) : ∃ A cap, v = .slice A n cap := by
  rcases h.2 with ⟨rfl, rfl⟩ | ⟨g, cap, cur, rfl, _⟩
  · exact ⟨_, _, rfl⟩
  · exact ⟨_, _, rfl⟩

/-- A row that the call itself owns, as a row of values. -/
theorem owns_row {w : World} {base : Nat} {A : Option Addr} {cap : Nat} {l : List T} {lo hi : Nat} (h : w.ownsRow base 28 5 (.slice A l.length cap) l.length (rowCells l)) (hl : ∀ x ∈ l, x.In w lo hi) (hlen : l.length * 64 ≤ 140737488351232) (hlo : lo ≤ base) (hhi : hi ≤ w.heap.size) :
    (T.row A cap l).In w lo w.heap.size := by
  rcases h.2 with ⟨hs, h0⟩ | ⟨g, cap', cur, hs, hb, hg, hc, hm, hsz, hx⟩
  · obtain rfl : l = [] := List.eq_nil_of_length_eq_zero h0
    simp at hs
    obtain ⟨rfl, rfl⟩ := hs
    exact T.in_mk.2 ⟨⟨by decide, by decide, by decide, by decide, by decide, by decide, Nat.le_refl _, by decide, by decide⟩, fun h => absurd rfl h, by simp⟩
  · simp at hs
    obtain ⟨rfl, rfl⟩ := hs
    refine T.in_mk.2 ⟨⟨by decide, by decide, by decide, by decide, by decide, hlen, hc, by decide, by decide⟩, fun _ => ⟨g, 0, rfl, by omega, ?_, fun i x hi' c u hu => ?_⟩, fun x hx => T.In.more (Nat.le_refl _) hhi _ (hl x hx)⟩
    · rcases Nat.lt_or_ge g w.heap.size with hlt | hge
      · exact hlt
      · rw [Array.getElem?_eq_none hge] at hg; cases hg
    · have hcell : w.cell? ⟨g, 0 + i * 5 + c, none⟩ = cur[0 + i * 5 + c]? := cell_of_row w g _ cur 28 (0, 0) hg
      rw [hcell, Nat.zero_add]
      have h1 := rowCells_get l i c x u hi' hu
      rw [← hx, List.getElem?_take] at h1
      split at h1
      · simpa using h1
      · cases h1

theorem owns_lt {w : World} {base : Nat} {e : TypeId} {size : Nat} {v : Value} {n : Nat} {xs : List Value} (h : w.ownsRow base e size v n xs) : ∀ g, v.ownBlock = some g → base ≤ g ∧ g < w.heap.size := by
  intro g hg
  rcases h.2 with ⟨rfl, h0⟩ | ⟨g', cap', cur, rfl, hb, hh, _⟩
  · cases hg
  · simp [Value.ownBlock] at hg
    subst hg
    refine ⟨hb, ?_⟩
    rcases Nat.lt_or_ge g' w.heap.size with hlt | hge
    · exact hlt
    · rw [Array.getElem?_eq_none hge] at hh; cases hh

theorem owns_fr {S : Nat → Prop} {a w : World} {base : Nat} {e : TypeId} {size : Nat} {v : Value} {n : Nat} {xs : List Value} (h : a.ownsRow base e size v n xs) (hf : Fr S a w) (hn : ∀ g, v.ownBlock = some g → ¬ S g) : w.ownsRow base e size v n xs := by
  have hl := owns_lt h
  refine ⟨h.1, ?_⟩
  rcases h.2 with h0 | ⟨g, cap, cur, rfl, hb, hg, hr⟩
  · exact .inl h0
  · exact .inr ⟨g, cap, cur, rfl, hb, (hf.block g (hl g rfl).2 (hn g rfl)).trans hg, hr⟩

/-- The cells of one of a row's values. -/
theorem T.cells_at {w : World} {lo hi b o : Nat} {k n : Int} {s : ByteArray} {cap : Nat} {l : List T} {r : Int} (h : (T.mk k n s (some ⟨b, o, none⟩) cap l r).In w lo hi) {j : Nat} (hj : j < l.length) {k1 n1 : Int} {s1 : ByteArray} {A1 : Option Addr} {cap1 : Nat} {l1 : List T} {r1 : Int}
    (hx : l[j] = T.mk k1 n1 s1 A1 cap1 l1 r1) :
    w.cell? ⟨b, o + j * 5, none⟩ = some (.int .u8 k1) ∧ w.cell? ⟨b, o + j * 5 + 1, none⟩ = some (.int .i64 n1) ∧ w.cell? ⟨b, o + j * 5 + 2, none⟩ = some (.string s1) ∧
      w.cell? ⟨b, o + j * 5 + 3, none⟩ = some (.slice A1 l1.length cap1) ∧ w.cell? ⟨b, o + j * 5 + 4, none⟩ = some (.int .i64 r1) := by
  obtain ⟨b', o', k2, n2, s2, A2, cap2, l2, r2, hbb, _, _, hx', _, e0, e1, e2, e3, e4⟩ := T.elem h hj
  simp only [Option.some.injEq, Addr.mk.injEq, and_true] at hbb
  obtain ⟨rfl, rfl⟩ := hbb
  rw [hx] at hx'
  injection hx' with q1 q2 q3 q4 q5 q6 q7
  subst q1 q2 q3 q4 q5 q6 q7
  exact ⟨e0, e1, e2, e3, e4⟩

theorem value_row : (Tryz.prog.info? 28).map (fun i => (i.zero, i.size, i.bytes)) = some (some (.agg #[.int .u8 0, .int .i64 0, .string ⟨#[]⟩, .slice none 0 0, .int .i64 0]), 5, 64) := by kernel_rfl

section
variable {H : Type} {enc : TypeId × Value → H}

set_option maxRecDepth 100000 in
/-- An argument of the type []Value. -/
theorem open_vals {W : World} {b0 : Nat} {v : Value} {d : DataW H} {p : List MemPlace} (hv : Value.okWide Tryz.prog W .any b0 26 v) (h : DataW.Trod enc Tryz.prog W 0 (fun _ => true) true 26 v d p) (hw : ∀ m ∈ d.weights Tryz.prog 26, m ≤ reachBytes) :
    ∃ A cap l, v = .slice A l.length cap ∧ (T.row A cap l).In W 0 W.heap.size := by
  obtain ⟨A, len, cap, rfl⟩ := okWide_slice Tryz.underlying26 hv
  obtain ⟨fuel, hf⟩ := h
  have hcs : Value.cells (.slice A len cap) = #[.slice A len cap] := rfl
  rw [hcs] at hf
  rcases DataW.trod_slice Tryz.underlying26 hf with ⟨e3, -⟩ | ⟨a, len', cap', elems, rest, n', rfl, e3, e5, -, hcap, hmax, hel, hat, hsp, -⟩
  · simp at e3
    obtain ⟨rfl, rfl, rfl⟩ := e3
    exact ⟨none, 0, [], rfl, T.in_mk.2 ⟨⟨by decide, by decide, by decide, by decide, by decide, by decide, Nat.le_refl _, by decide, by decide⟩, fun h => absurd rfl h, by simp⟩⟩
  · simp at e3
    obtain ⟨rfl, rfl, rfl⟩ := e3
    simp only [Prod.mk.injEq] at e5
    obtain ⟨rfl, -⟩ := e5
    have hlen1 : len * 64 ≤ 140737488351232 := by
      have := hw ((elems.length + rest.length) * 64) (by rw [weights24]; simp)
      rw [reach_eq, hel] at this
      omega
    rw [cells27] at hat
    have hone : ∀ i, i < len → ∃ t : T, (∀ j u, t.cells[j]? = some u → W.cell? ((a.add (i * 5)).add j) = some u) ∧ t.In W 0 W.heap.size := by
      intro i hi
      have h1 := hat i hi
      have h2 : elems[i]? = some (elems[i]'(by omega)) := List.getElem?_eq_getElem (by omega)
      rw [h2] at h1
      obtain ⟨cs', hc, ht'⟩ := Option.bind_eq_some_iff.1 h1
      obtain ⟨t, rfl, hin⟩ := open_tree W n' cs' _ ht' (fun m hm => hw m (by
        rw [weights24]
        refine List.mem_cons_of_mem _ (List.mem_append_left _ ?_)
        exact mem_weightsAll (List.mem_map_of_mem (List.getElem_mem _)) hm))
      obtain ⟨-, hcl, hcell⟩ := World.cells?_some hc
      refine ⟨t, fun j u hu => ?_, hin⟩
      have hj : j < 5 := by
        rcases Nat.lt_or_ge j 5 with h | h
        · exact h
        · rw [List.getElem?_eq_none (by rw [T.cells_length]; exact h)] at hu; cases hu
      rw [hcell j hj, hu]
    obtain ⟨l, hl, hq⟩ := choose_list len hone
    subst hl
    obtain ⟨b, o, sp⟩ := a
    refine ⟨some ⟨b, o, sp⟩, cap, l, rfl, T.in_mk.2 ⟨⟨by decide, by decide, by decide, by decide, by decide, hlen1, hcap, by decide, by decide⟩, fun hne => ?_, fun x hx => ?_⟩⟩
    · have hlp : 0 < l.length := List.length_pos_iff.2 hne
      obtain ⟨hc0, -⟩ := hq 0 _ (List.getElem?_eq_getElem hlp)
      have hcc := hc0 0 _ (List.getElem?_eq_getElem (by rw [T.cells_length]; omega))
      have hspot : sp = none := by simpa [Addr.add] using World.cell?_spot hcc
      subst hspot
      have hlt := cell_lt hcc
      refine ⟨b, o, rfl, Nat.zero_le _, by simpa [Addr.add] using hlt, fun i x hx j u hu => ?_⟩
      have := (hq i x hx).1 j u hu
      rw [add_at, add_at] at this
      exact this
    · obtain ⟨i, hi, rfl⟩ := List.mem_iff_getElem.1 hx
      exact (hq i _ (List.getElem?_eq_getElem hi)).2
end

end Go.Proofs.YtlejelbefmkakaaGreat

/- Plain functions on values: how many parts, how deep, whether a value may be. No program in sight. -/
namespace Go.Proofs.YtlejelbefmkakaaGreat
open Go.RowKit

/-- How many parts. -/
def V.size : V → Nat
  | .mk _ _ _ l _ => 1 + (l.map V.size).sum
termination_by v => v

theorem V.size_mk (k n : Int) (s : ByteArray) (l : List V) (r : Int) : (V.mk k n s l r).size = 1 + (l.map V.size).sum := by rw [V.size]

/-- The greatest of some numbers. -/
def top : List Nat → Nat
  | [] => 0
  | x :: l => max x (top l)

/-- How deep it is nested. -/
def V.dep : V → Nat
  | .mk k _ _ l _ => if k = 3 then 1 + top (l.map V.dep) else 0
termination_by v => v

theorem V.dep_mk (k n : Int) (s : ByteArray) (l : List V) (r : Int) : (V.mk k n s l r).dep = if k = 3 then 1 + top (l.map V.dep) else 0 := by rw [V.dep]

/-- Are the fields that a kind does not name zero, and the named one in its bounds? -/
def fok (k n : Int) (s : ByteArray) (len : Nat) (r : Int) : Bool :=
  if k = 0 then decide (n = 0) && decide (s.toList = []) && decide (r = 0) && decide (len = 0)
  else if k = 1 then decide (s.toList = []) && decide (r = 0) && decide (len = 0)
  else if k = 2 then decide (s.size ≤ 256) && decide (n = 0) && decide (r = 0) && decide (len = 0)
  else if k = 3 then decide (n = 0) && decide (s.toList = []) && decide (r = 0)
  else if k = 4 then decide (1 ≤ r) && decide (n = 0) && decide (s.toList = []) && decide (len = 0)
  else false

def V.ok : V → Bool
  | .mk k n s l r => fok k n s l.length r && (l.map V.ok).all id
termination_by v => v

theorem V.ok_mk (k n : Int) (s : ByteArray) (l : List V) (r : Int) : (V.mk k n s l r).ok = (fok k n s l.length r && l.all V.ok) := by
  rw [V.ok, List.all_map]; rfl

/-- May a value be, with so many parts and lists within lists at most? -/
def V.fits (v : V) (p q : Nat) : Bool := v.ok && decide (v.size ≤ p) && decide (v.dep ≤ q)

def V.may (v : V) : Bool := v.fits 512 16

theorem V.size_pos (v : V) : 1 ≤ v.size := by cases v; rw [V.size_mk]; omega

theorem sum_take_le (l : List Nat) (i : Nat) : (l.take i).sum ≤ l.sum := by
  induction l generalizing i with
  | nil => simp
  | cons x l ih => cases i <;> simp; exact ih _

theorem sum_take_succ (l : List Nat) (i : Nat) (h : i < l.length) : (l.take (i + 1)).sum = (l.take i).sum + l[i] := by
  rw [List.take_succ_eq_append_getElem h, List.sum_append_nat]; simp

theorem le_top {l : List Nat} {x : Nat} (h : x ∈ l) : x ≤ top l := by
  induction l with
  | nil => cases h
  | cons y l ih =>
    rcases List.mem_cons.1 h with rfl | h
    · simp [top]; omega
    · have := ih h; simp [top]; omega

theorem top_le {l : List Nat} {n : Nat} (h : ∀ x ∈ l, x ≤ n) : top l ≤ n := by
  induction l with
  | nil => simp [top]
  | cons y l ih =>
    have h1 := h y (by simp)
    have h2 := ih fun x hx => h x (by simp [hx])
    simp [top]; omega

theorem len_beq (n : Nat) : ((n : Int) == 0) = decide (n = 0) := by
  rw [Bool.eq_iff_iff]; simp

theorem fok_len {k n : Int} {s : ByteArray} {len : Nat} {r : Int} (hk : k ≠ 3) (h : fok k n s len r = true) : len = 0 := by
  unfold fok at h
  by_cases h0 : k = 0
  · simp [h0] at h; omega
  · by_cases h1 : k = 1
    · simp [h1] at h; omega
    · by_cases h2 : k = 2
      · simp [h2] at h; omega
      · by_cases h4 : k = 4
        · simp [h4] at h; omega
        · simp [h0, h1, h2, hk, h4] at h

theorem fits_leaf {k n : Int} {s : ByteArray} {l : List V} {r : Int} {p q : Nat} (hk : k ≠ 3) (hp : 1 ≤ p) :
    (V.mk k n s l r).fits p q = fok k n s l.length r ∧ (fok k n s l.length r = true → (V.mk k n s l r).size = 1) := by
  by_cases h : fok k n s l.length r = true
  · have hl : l = [] := List.eq_nil_of_length_eq_zero (fok_len hk h)
    subst hl
    refine ⟨?_, fun _ => by simp [V.size_mk]⟩
    simp [V.fits, V.ok_mk, V.size_mk, V.dep_mk, hk, hp]
  · simp at h
    refine ⟨by simp [V.fits, V.ok_mk, h], fun h' => by rw [h] at h'; cases h'⟩

theorem fits_zero (v : V) (q : Nat) : v.fits 0 q = false := by
  have := v.size_pos
  simp [V.fits]; omega

/-- How much the first j parts of a list take; whether they may be. -/
def fitsTo (l : List V) (q j : Nat) : Prop := ∀ x ∈ l.take j, x.ok = true ∧ x.dep ≤ q
def sizeTo (l : List V) (j : Nat) : Nat := ((l.map V.size).take j).sum

theorem sizeTo_zero (l : List V) : sizeTo l 0 = 0 := by simp [sizeTo]
theorem sizeTo_succ (l : List V) (j : Nat) (h : j < l.length) : sizeTo l (j + 1) = sizeTo l j + l[j].size := by
  unfold sizeTo; rw [sum_take_succ _ _ (by simpa using h)]; simp
theorem sizeTo_all (l : List V) : sizeTo l l.length = (l.map V.size).sum := by
  unfold sizeTo; rw [List.take_of_length_le (by simp)]
theorem sizeTo_le (l : List V) (j : Nat) : sizeTo l j ≤ (l.map V.size).sum := sum_take_le _ _
theorem sizeTo_mono (l : List V) {i j : Nat} (h : i ≤ j) : sizeTo l i ≤ sizeTo l j := by
  unfold sizeTo
  have := sum_take_le ((l.map V.size).take j) i
  rwa [List.take_take, Nat.min_eq_left h] at this
theorem fitsTo_zero (l : List V) (q : Nat) : fitsTo l q 0 := fun x hx => by simp at hx
theorem fitsTo_succ {l : List V} {q j : Nat} (h : fitsTo l q j) (hj : j < l.length) (ho : l[j].ok = true) (hd : l[j].dep ≤ q) : fitsTo l q (j + 1) := fun x hx => by
  rw [List.take_succ_eq_append_getElem hj, List.mem_append] at hx
  rcases hx with hx | hx
  · exact h x hx
  · simp at hx; subst hx; exact ⟨ho, hd⟩

/-- A list whose first j parts are within bounds, and the next one isn't. -/
theorem fits_stop {n : Int} {s : ByteArray} {l : List V} {r : Int} {p q j : Nat} (hj : j < l.length) (hq : 1 ≤ q) (h : l[j].fits (p - 1 - sizeTo l j) (q - 1) = false) :
    (V.mk 3 n s l r).fits p q = false := by
  cases hf : (V.mk 3 n s l r).fits p q with
  | false => rfl
  | true =>
    exfalso
    simp [V.fits, V.ok_mk, V.size_mk, V.dep_mk] at hf
    obtain ⟨⟨⟨_, h1⟩, h2⟩, h3⟩ := hf
    have ho := h1 l[j] (List.getElem_mem hj)
    have hd : l[j].dep ≤ top (l.map V.dep) := le_top (List.mem_map_of_mem (List.getElem_mem hj))
    have h4 := sizeTo_succ l j hj
    have h5 := sizeTo_le l (j + 1)
    simp [V.fits, ho] at h
    have := h (by omega)
    omega

theorem fits_short {n : Int} {s : ByteArray} {l : List V} {r : Int} {p q : Nat} (h : p < 1 + l.length ∨ q = 0) : (V.mk 3 n s l r).fits p q = false := by
  have h1 : l.length ≤ (l.map V.size).sum := by
    clear h
    induction l with
    | nil => simp
    | cons x l ih => have := x.size_pos; simp; omega
  rcases h with h | h
  · simp [V.fits, V.size_mk]; omega
  · simp [V.fits, V.dep_mk]; omega

theorem fits_done {n : Int} {s : ByteArray} {l : List V} {r : Int} {p q : Nat} (hs : sizeTo l l.length ≤ p - 1) (hp : 1 ≤ p) (hq : 1 ≤ q) (h : fitsTo l (q - 1) l.length) :
    (V.mk 3 n s l r).fits p q = fok 3 n s l.length r ∧ (V.mk 3 n s l r).size = 1 + sizeTo l l.length := by
  rw [sizeTo_all] at *
  have hall : ∀ x ∈ l, x.ok = true ∧ x.dep ≤ q - 1 := by
    intro x hx; exact h x (by rw [List.take_of_length_le (Nat.le_refl _)]; exact hx)
  have ht : top (l.map V.dep) ≤ q - 1 := top_le fun d hd => by
    obtain ⟨x, hx, rfl⟩ := List.mem_map.1 hd
    exact (hall x hx).2
  refine ⟨?_, V.size_mk _ _ _ _ _⟩
  have ha : l.all V.ok = true := List.all_eq_true.2 fun x hx => (hall x hx).1
  simp only [V.fits, V.ok_mk, V.size_mk, V.dep_mk, ha, if_pos, Bool.and_true]
  rw [decide_eq_true (by omega), decide_eq_true (by omega)]
  simp

end Go.Proofs.YtlejelbefmkakaaGreat


namespace Go.Proofs.YtlejelbefmkakaaGreat
open Go.RowKit

def Took (L p q : Nat) (v : V) (w : World) (e : Ending) (w' : World) : Prop :=
  e = .returned (.bool (v.fits p q)) ∧ Fr (· = L) w w' ∧
    (v.fits p q = true → w'.cell? ⟨L, 0, none⟩ = some (.int .i64 ((p - v.size : Nat) : Int)) ∧ w'.cell? ⟨L, 1, none⟩ = some (.int .i64 (q : Int)) ∧
      w'.frozen? ⟨L, 0, none⟩ = false ∧ w'.frozen? ⟨L, 1, none⟩ = false)

theorem took_no {v : V} {w W : World} {L p q : Nat} (h : v.fits p q = false) (hF : Fr (· = L) w W) : Took L p q v w (.returned (.bool false)) W :=
  ⟨by rw [h], hF, fun h' => by rw [h] at h'; cases h'⟩

theorem took_close {k n : Int} {s : ByteArray} {A : Option Addr} {cap : Nat} {l : List T} {r : Int} {w W : World} {L p q : Nat} {b : Bool} (hk : k ≠ 3) (hp : 1 ≤ p)
    (hb : b = fok k n s l.length r) (hF : Fr (· = L) w W) (h0 : W.cell? ⟨L, 0, none⟩ = some (.int .i64 ((p : Int) - 1))) (h1 : W.cell? ⟨L, 1, none⟩ = some (.int .i64 (q : Int)))
    (f0 : W.frozen? ⟨L, 0, none⟩ = false) (f1 : W.frozen? ⟨L, 1, none⟩ = false) : Took L p q (T.mk k n s A cap l r).v w (.returned (.bool b)) W := by
  rw [T.v_mk]
  obtain ⟨e1, e2⟩ := fits_leaf (n := n) (s := s) (l := l.map T.v) (r := r) (q := q) hk hp
  rw [List.length_map] at e1 e2
  refine ⟨by rw [e1, hb], hF, fun h => ?_⟩
  rw [e1] at h
  rw [e2 h, h0]
  exact ⟨by congr 2; omega, h1, f0, f1⟩

set_option maxHeartbeats 4000000 in
theorem take_leaf (k n : Int) (s : ByteArray) (A : Option Addr) (cap : Nat) (l : List T) (r : Int) (w : World) (L p q : Nat)
   (hL : L < w.heap.size) (_ : L ≤ w.heap.size)
   (hp : w.cell? ⟨L, 0, none⟩ = some (.int .i64 (p : Int))) (hq : w.cell? ⟨L, 1, none⟩ = some (.int .i64 (q : Int)))
   (hf0 : w.frozen? ⟨L, 0, none⟩ = false) (hf1 : w.frozen? ⟨L, 1, none⟩ = false) (hp0 : 0 < p) (hp1 : p ≤ 512) (hk : k ≠ 3) :
    Calls Tryz.prog 216 #[.pointer (some ⟨L, 0, none⟩), .agg #[.int .u8 k, .int .i64 n, .string s, .slice A l.length cap, .int .i64 r]] w (Took L p q (T.mk k n s A cap l r).v w) := by
  have hp00 : ((p : Int) == 0) = false := by simp; omega
  have k3 : (k == 3) = false := by simp; exact hk
  by_cases h0 : k = 0
  · subst h0
    go_enter Tryz.func216, Tryz.ntmps216
    go_wp2
    all_goals
      go_ret
      refine took_close (by first | decide | assumption) hp0 (by first | (simp [fok, *]; done) | (simp [fok, *]; omega) | (simp [fok, len_beq, *]; done) | (simp [fok, len_beq, *]; omega) | (simp [fok, len_beq, *]; intros; omega)) (by repeat (first | exact Fr.refl _ w | refine Fr.alloc ?_ _ | refine Fr.set ?_ (by simp) _)) ?_ ?_ ?_ ?_ <;> simp [go_sem, *]
  · have k0 : (k == 0) = false := by simp; exact h0
    by_cases h1 : k = 1
    · subst h1
      go_enter Tryz.func216, Tryz.ntmps216
      go_wp2
      all_goals
        go_ret
        refine took_close (by first | decide | assumption) hp0 (by first | (simp [fok, *]; done) | (simp [fok, *]; omega) | (simp [fok, len_beq, *]; done) | (simp [fok, len_beq, *]; omega) | (simp [fok, len_beq, *]; intros; omega)) (by repeat (first | exact Fr.refl _ w | refine Fr.alloc ?_ _ | refine Fr.set ?_ (by simp) _)) ?_ ?_ ?_ ?_ <;> simp [go_sem, *]
    · have k1 : (k == 1) = false := by simp; exact h1
      by_cases h2 : k = 2
      · subst h2
        by_cases hs : s.size ≤ 256
        · have hs' : ¬ (256 : Int) < (s.size : Int) := by omega
          go_enter Tryz.func216, Tryz.ntmps216
          go_wp2
          all_goals
            go_ret
            refine took_close (by first | decide | assumption) hp0 (by first | (simp [fok, *]; done) | (simp [fok, *]; omega) | (simp [fok, len_beq, *]; done) | (simp [fok, len_beq, *]; omega) | (simp [fok, len_beq, *]; intros; omega)) (by repeat (first | exact Fr.refl _ w | refine Fr.alloc ?_ _ | refine Fr.set ?_ (by simp) _)) ?_ ?_ ?_ ?_ <;> simp [go_sem, *]
        · have hs' : (256 : Int) < (s.size : Int) := by omega
          go_enter Tryz.func216, Tryz.ntmps216
          go_wp2
          all_goals
            go_ret
            refine took_close (by first | decide | assumption) hp0 (by first | (simp [fok, *]; done) | (simp [fok, *]; omega) | (simp [fok, len_beq, *]; done) | (simp [fok, len_beq, *]; omega) | (simp [fok, len_beq, *]; intros; omega)) (by repeat (first | exact Fr.refl _ w | refine Fr.alloc ?_ _ | refine Fr.set ?_ (by simp) _)) ?_ ?_ ?_ ?_ <;> simp [go_sem, *]
      · have k2 : (k == 2) = false := by simp; exact h2
        by_cases h4 : k = 4
        · subst h4
          by_cases hr : 1 ≤ r
          · have hr' : ¬ r < 1 := by omega
            go_enter Tryz.func216, Tryz.ntmps216
            go_wp2
            all_goals
              go_ret
              refine took_close (by first | decide | assumption) hp0 (by first | (simp [fok, *]; done) | (simp [fok, *]; omega) | (simp [fok, len_beq, *]; done) | (simp [fok, len_beq, *]; omega) | (simp [fok, len_beq, *]; intros; omega)) (by repeat (first | exact Fr.refl _ w | refine Fr.alloc ?_ _ | refine Fr.set ?_ (by simp) _)) ?_ ?_ ?_ ?_ <;> simp [go_sem, *]
          · have hr' : r < 1 := by omega
            go_enter Tryz.func216, Tryz.ntmps216
            go_wp2
            all_goals
              go_ret
              refine took_close (by first | decide | assumption) hp0 (by first | (simp [fok, *]; done) | (simp [fok, *]; omega) | (simp [fok, len_beq, *]; done) | (simp [fok, len_beq, *]; omega) | (simp [fok, len_beq, *]; intros; omega)) (by repeat (first | exact Fr.refl _ w | refine Fr.alloc ?_ _ | refine Fr.set ?_ (by simp) _)) ?_ ?_ ?_ ?_ <;> simp [go_sem, *]
        · have k4 : (k == 4) = false := by simp; exact h4
          go_enter Tryz.func216, Tryz.ntmps216
          go_wp2
          all_goals
            go_ret
            refine took_close (by first | decide | assumption) hp0 (by first | (simp [fok, *]; done) | (simp [fok, *]; omega) | (simp [fok, len_beq, *]; done) | (simp [fok, len_beq, *]; omega) | (simp [fok, len_beq, *]; intros; omega)) (by repeat (first | exact Fr.refl _ w | refine Fr.alloc ?_ _ | refine Fr.set ?_ (by simp) _)) ?_ ?_ ?_ ?_ <;> simp [go_sem, *]

end Go.Proofs.YtlejelbefmkakaaGreat


namespace Go.Proofs.YtlejelbefmkakaaGreat
open Go.RowKit

/-- Where the loop of 'take' stands behind some rounds. -/
structure TakeInv (w : World) (L a c : Nat) (X : Array Value) (wr : World) : Prop where
  fr : Fr (· = L) w wr
  c0 : wr.cell? ⟨L, 0, none⟩ = some (.int .i64 (a : Int))
  c1 : wr.cell? ⟨L, 1, none⟩ = some (.int .i64 (c : Int))
  f0 : wr.frozen? ⟨L, 0, none⟩ = false
  f1 : wr.frozen? ⟨L, 1, none⟩ = false
  b0 : Blk wr w.heap.size 28 X
  b1 : Blk wr (w.heap.size + 1) 28 X

theorem took_done {n : Int} {s : ByteArray} {A : Option Addr} {cap : Nat} {l : List T} {r : Int} {w W : World} {L p q : Nat} {b : Bool} (hs : sizeTo (l.map T.v) l.length ≤ p - 1) (hp : 1 ≤ p) (hq : 1 ≤ q)
    (hall : fitsTo (l.map T.v) (q - 1) l.length) (hb : b = fok 3 n s l.length r) (hF : Fr (· = L) w W)
    (h0 : W.cell? ⟨L, 0, none⟩ = some (.int .i64 ((p - 1 - sizeTo (l.map T.v) l.length : Nat) : Int))) (h1 : W.cell? ⟨L, 1, none⟩ = some (.int .i64 (((q - 1 : Nat) : Int) + 1)))
    (f0 : W.frozen? ⟨L, 0, none⟩ = false) (f1 : W.frozen? ⟨L, 1, none⟩ = false) : Took L p q (T.mk 3 n s A cap l r).v w (.returned (.bool b)) W := by
  rw [T.v_mk]
  have hl : (l.map T.v).length = l.length := List.length_map ..
  obtain ⟨e1, e2⟩ := fits_done (n := n) (s := s) (l := l.map T.v) (r := r) (by rw [hl]; exact hs) hp hq (by rw [hl]; exact hall)
  rw [hl] at e1 e2
  refine ⟨by rw [e1, hb], hF, fun h => ?_⟩
  rw [e2, h0, h1]
  exact ⟨by congr 3; omega, by congr 2; omega, f0, f1⟩

set_option maxHeartbeats 4000000 in
theorem take_any (t : T) : ∀ (w : World) (L p q lo hi : Nat), t.In w lo hi → hi ≤ L → L < w.heap.size →
    w.cell? ⟨L, 0, none⟩ = some (.int .i64 (p : Int)) → w.cell? ⟨L, 1, none⟩ = some (.int .i64 (q : Int)) →
    w.frozen? ⟨L, 0, none⟩ = false → w.frozen? ⟨L, 1, none⟩ = false → p ≤ 512 → q ≤ 16 →
    Calls Tryz.prog 216 #[.pointer (some ⟨L, 0, none⟩), t.val] w (Took L p q t.v w) := by
  induction t using T.ind with
  | h k n s A cap l r ih =>
    intro w L p q lo hi ht hh hL hp hq hf0 hf1 hp1 hq1
    have hL' : L ≤ w.heap.size := Nat.le_of_lt hL
    rw [T.val]
    by_cases hp0 : p = 0
    · subst hp0
      have e0 := fits_zero (T.mk k n s A cap l r).v q
      have hp : w.cell? ⟨L, 0, none⟩ = some (.int .i64 0) := by simpa using hp
      go_enter Tryz.func216, Tryz.ntmps216
      go_wp2
      go_ret
      exact took_no e0 ((Fr.refl _ w).alloc _)
    by_cases hk : k = 3
    · subst hk
      have hp00 : ((p : Int) == 0) = false := by simp; omega
      have hp2 : (1 : Int) ≤ p := by omega
      have fit : Fit 3 n s l.length cap r := (T.in_mk.1 ht).1
      by_cases hq0 : q = 0
      · subst hq0
        have e0 : (T.mk 3 n s A cap l r).v.fits p 0 = false := by rw [T.v_mk]; exact fits_short (.inr rfl)
        go_enter Tryz.func216, Tryz.ntmps216
        go_wp2_with fail
        go_quiet (fail)
        go_wp2
        go_ret
        exact took_no e0 (((((Fr.refl _ w).set (by simp) _).alloc _).alloc _).drewN _)
      · have hq00 : ((q : Int) == 0) = false := by simp; omega
        have hq2 : (1 : Int) ≤ q := by omega
        by_cases hlen : (p : Int) - 1 < (l.length : Int)
        · have e0 : (T.mk 3 n s A cap l r).v.fits p q = false := by rw [T.v_mk]; exact fits_short (.inl (by simp; omega))
          go_enter Tryz.func216, Tryz.ntmps216
          go_wp2_with fail
          go_quiet (fail)
          go_wp2
          go_ret
          exact took_no e0 (((((Fr.refl _ w).set (by simp) _).alloc _).alloc _).drewN _)
        · have hlen' : (l.length : Int) ≤ (p : Int) - 1 := by omega
          have hd : decide ((p : Int) - 1 < (l.length : Int)) = false := by simp; omega
          go_enter Tryz.func216, Tryz.ntmps216
          go_wp2_with fail
          go_quiet (fail)
          go_wp2
          go_loopw [68] (fun i wr => ∃ j : Nat, j ≤ l.length ∧ i = .int .i64 j ∧ fitsTo (l.map T.v) (q - 1) j ∧ sizeTo (l.map T.v) j ≤ p - 1 ∧
              TakeInv w L (p - 1 - sizeTo (l.map T.v) j) (q - 1) #[.int .u8 3, .int .i64 n, .string s, .slice A l.length cap, .int .i64 r] wr)
            (fun i _ => l.length - (intOf i).toNat)
          case atStart =>
            refine ⟨0, Nat.zero_le _, rfl, fitsTo_zero _ _, by rw [sizeTo_zero]; omega, ?_⟩
            rw [sizeTo_zero]
            refine ⟨((((((Fr.refl _ w).set (by simp) _).alloc _).alloc _).drewN _).set (by simp) _), ?_, ?_, ?_, ?_, ?_, ?_⟩
            · have e : ((p - 1 - 0 : Nat) : Int) = (p : Int) - 1 := by omega
              rw [e]
              go_simp
            · have e : ((q - 1 : Nat) : Int) = (q : Int) - 1 := by omega
              rw [e]
              refine World.cell?_setCell_same _ _ _ (u := .int .i64 (q : Int)) ?_
              go_simp
            · go_simp
            · go_simp
            · exact ((((Blk.new' (w.setCell ⟨L, 0, none⟩ (.int .i64 ((p : Int) - 1))) 28 _ (by simp)).alloc _).drewN _).far (p := ⟨L, 1, none⟩) (by simp; omega) _)
            · exact ((((Blk.new' ((w.setCell ⟨L, 0, none⟩ (.int .i64 ((p : Int) - 1))).alloc _) 28 _ (by simp)).drewN _).far (p := ⟨L, 1, none⟩) (by simp; omega) _))
          case round =>
            obtain ⟨j, hj, rfl, hall, hsz, inv⟩ := hrel
            have HA := hide hall
            clear hall
            have c0 := inv.c0
            have c1 := inv.c1
            have wf0 := inv.f0
            have wf1 := inv.f1
            have hsz0 := inv.fr.size
            have hLr : L < wr.heap.size := by omega
            have hLr' := Nat.le_of_lt hLr
            have hb0 := inv.b0.lt
            have hb1 := inv.b1.lt
            by_cases hlt : j < l.length
            · obtain ⟨b, o, k1, n1, s1, A1, cap1, l1, r1, rfl, hb0, hb1, hx, hin, e0, e1, e2, e3, e4⟩ := T.elem (ht.fr inv.fr (by omega) (fun i _ h1 => by omega)) hlt
              have IH := ih l[j] (List.getElem_mem hlt)
              rw [hx] at IH
              have HX := hide hx
              clear hx ih
              have hle := Nat.le_of_lt hlt
              go_wp2_with fail
              refine (IH _ L (p - 1 - sizeTo (l.map T.v) j) (q - 1) lo hi ?_ hh ?_ ?_ ?_ ?_ ?_ ?_ ?_).mono ?_
              · exact hin.no ((Fr.refl No wr).alloc _) (by omega)
              · simp; omega
              · go_simp
              · go_simp
              · go_simp
              · go_simp
              · omega
              · omega
              rintro e w2 ⟨rfl, fr2, took⟩
              have HT := hide took
              clear took
              cases hf : (T.mk k1 n1 s1 A1 cap1 l1 r1).v.fits (p - 1 - sizeTo (l.map T.v) j) (q - 1)
              · go_wp2
                go_ret
                refine took_no ?_ (((inv.fr.alloc _).trans fr2))
                rw [T.v_mk]
                refine fits_stop (j := j) (by simpa using hlt) (by omega) ?_
                rw [List.getElem_map, HX.out]; exact hf
              · go_wp2
                go_roundw
                case rel =>
                  obtain ⟨k0, k1', k2, k3⟩ := HT.out hf
                  have hs := sizeTo_succ (l.map T.v) j (by simpa using hlt)
                  rw [List.getElem_map, HX.out] at hs
                  simp only [V.fits, Bool.and_eq_true, decide_eq_true_eq] at hf
                  obtain ⟨⟨ho, hz⟩, hdp⟩ := hf
                  refine ⟨j + 1, hlt, by go_num, fitsTo_succ HA.out (by simpa using hlt) (by rw [List.getElem_map, HX.out]; exact ho) (by rw [List.getElem_map, HX.out]; exact hdp), by omega, ?_⟩
                  refine ⟨(inv.fr.alloc _).trans fr2, ?_, k1', k2, k3, (inv.b0.alloc _).fr fr2 (by omega), (inv.b1.alloc _).fr fr2 (by omega)⟩
                  rw [k0, hs, Nat.sub_sub _ (sizeTo _ _) (V.size _)]
                case measure => simp [intOf]; omega
            · have d1 : wr.cell? ⟨w.heap.size + 1, 1, none⟩ = some (.int .i64 n) := inv.b1.cell 1
              have d2 : wr.cell? ⟨w.heap.size + 1, 2, none⟩ = some (.string s) := inv.b1.cell 2
              have d3 : wr.cell? ⟨w.heap.size + 1, 3, none⟩ = some (.slice A l.length cap) := inv.b1.cell 3
              have d4 : wr.cell? ⟨w.heap.size + 1, 4, none⟩ = some (.int .i64 r) := inv.b1.cell 4
              have df := inv.b1.frozen 3
              have hne : ¬ L = w.heap.size + 1 := by omega
              have hne' : ¬ w.heap.size + 1 = L := by omega
              obtain rfl : l.length = j := by omega
              have HT := hide ht
              have HI := hide inv
              clear ht inv ih
              go_wp2
              all_goals
                go_ret
                refine took_done hsz (by omega) (by omega) HA.out (by first | (simp [fok, *]; done) | (simp [fok, *]; omega)) ((HI.out.fr.set (by simp) _).setNew (by simp) _) ?_ ?_ ?_ ?_ <;> simp [go_sem, *]
    · exact take_leaf k n s A cap l r w L p q hL hL' hp hq hf0 hf1 (by omega) hp1 hk

end Go.Proofs.YtlejelbefmkakaaGreat

/- measure, May, Parts: whether a value may be, and how many parts it has. -/
namespace Go.Proofs.YtlejelbefmkakaaGreat
open Go.RowKit

/-- How many parts; 0: it may not be. -/
def V.meas (v : V) : Nat := if v.may = true then v.size else 0

theorem T.val_mk (k n : Int) (s : ByteArray) (A : Option Addr) (cap : Nat) (l : List T) (r : Int) :
    (T.mk k n s A cap l r).val = .agg #[.int .u8 k, .int .i64 n, .string s, .slice A l.length cap, .int .i64 r] := rfl

set_option maxHeartbeats 1000000 in
theorem measure_any (t : T) (w : World) (lo hi : Nat) (ht : t.In w lo hi) (hh : hi ≤ w.heap.size) :
    Calls Tryz.prog 160 #[t.val] w fun e w' => e = .returned (.int .i64 (t.v.meas : Int)) ∧ Fr No w w' := by
  cases t with
  | mk k n s A cap l r =>
    have IH := take_any (.mk k n s A cap l r)
    rw [T.val_mk] at *
    have HT := hide ht
    clear ht
    go_enter Tryz.func160, Tryz.ntmps160
    go_wp2_with fail
    refine (IH _ (w.heap.size + 1) 512 16 lo hi ?_ ?_ ?_ ?_ ?_ ?_ ?_ ?_ ?_).mono ?_
    · exact HT.out.no (((Fr.refl No w).alloc _).alloc _) hh
    · omega
    · simp
    · go_simp
    · go_simp
    · go_simp
    · go_simp
    · omega
    · omega
    rintro e w2 ⟨rfl, fr2, took⟩
    have hF : Fr No w w2 := (((Fr.refl No w).alloc _).alloc _).trans' fr2 fun i hi h => by omega
    have HK := hide took
    clear took IH
    cases hf : (T.mk k n s A cap l r).v.fits 512 16
    · have hm : (T.mk k n s A cap l r).v.meas = 0 := by simp [V.meas, V.may, hf]
      have HM := hide hm
      have HF := hide hF
      clear hF hm hf
      go_wp2
      go_ret
      exact ⟨by rw [HM.out]; rfl, HF.out⟩
    · have hm : (T.mk k n s A cap l r).v.meas = (T.mk k n s A cap l r).v.size := by simp [V.meas, V.may, hf]
      have HM := hide hm
      obtain ⟨c0, c1, f0, f1⟩ := HK.out hf
      have hle : (T.mk k n s A cap l r).v.size ≤ 512 := by
        simp [V.fits] at hf; omega
      clear hm hf
      generalize (T.mk k n s A cap l r).v.size = z at *
      have e : ((512 - z : Nat) : Int) = 512 - (z : Int) := by omega
      rw [e] at c0
      clear e
      go_wp2
      go_ret
      exact ⟨by rw [HM.out]; go_num, hF⟩

set_option maxHeartbeats 1000000 in
theorem may_any (t : T) (w : World) (lo hi : Nat) (ht : t.In w lo hi) (hh : hi ≤ w.heap.size) :
    Calls Tryz.prog 86 #[t.val] w fun e w' => e = .returned (.bool t.v.may) ∧ Fr No w w' := by
  have IH := fun w' h h' => measure_any t w' lo hi h h'
  cases hm : t.v.may
  · have HM : t.v.meas = 0 := by simp [V.meas, hm]
    rw [HM] at IH
    cases t with
    | mk k n s A cap l r =>
      rw [T.val_mk] at *
      go_enter Tryz.func86, Tryz.ntmps86
      go_wp2_with fail
      refine (IH _ (ht.no ((Fr.refl No w).alloc _) hh) (by simp; omega)).mono ?_
      rintro e w2 ⟨rfl, fr2⟩
      go_wp2
      go_ret
      exact ⟨rfl, ((Fr.refl No w).alloc _).trans fr2⟩
  · have HM : 0 < t.v.meas := by simp [V.meas, hm]; exact t.v.size_pos
    cases t with
    | mk k n s A cap l r =>
      rw [T.val_mk] at *
      generalize (T.mk k n s A cap l r).v.meas = z at *
      go_enter Tryz.func86, Tryz.ntmps86
      go_wp2_with fail
      refine (IH _ (ht.no ((Fr.refl No w).alloc _) hh) (by simp; omega)).mono ?_
      rintro e w2 ⟨rfl, fr2⟩
      go_wp2
      go_ret
      exact ⟨by simp, ((Fr.refl No w).alloc _).trans fr2⟩

end Go.Proofs.YtlejelbefmkakaaGreat

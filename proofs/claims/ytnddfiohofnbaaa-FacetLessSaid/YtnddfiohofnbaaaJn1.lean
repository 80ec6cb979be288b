/- Texts joined: T, O1, Gt. -/
import Derived.WalkKit
import Derived.WalkSpells
import Derived.Deep.Draws
import Derived.Laws.Rows
import Derived.Test.YtnddfiohofnbaaaProg
import Derived.Lib.SmallJoins
import Derived.Deep.Slices
import Derived.Deep.Fields
import Derived.ChangeSame
import Derived.SizedLaws
/- Plain trees: what a value of the program is as data (V), and how it lies in memory (T): no program in sight. -/
namespace Go.Proofs.Ytnddfiohofnbaaa
open Go.RowKit

/-- A value as plain data: kind, number, text, list, reference. -/
inductive V where
  | mk (k n : Int) (s : ByteArray) (l : List V) (r : Int)

/-- A value as it lies in memory: besides, where its list lies, and the list's capacity. -/
inductive T where
  | mk (k n : Int) (s : ByteArray) (A : Option Addr) (cap : Nat) (l : List T) (r : Int)

/-- The plain data of a value in memory. -/
def T.v : T → V
  | .mk k n s _ _ l r => .mk k n s (l.map T.v) r
termination_by t => t

theorem T.v_mk (k n : Int) (s : ByteArray) (A : Option Addr) (cap : Nat) (l : List T) (r : Int) : (T.mk k n s A cap l r).v = .mk k n s (l.map T.v) r := by
  rw [T.v]

/-- The five cells of a value. -/
def T.cells : T → List Value
  | .mk k n s A cap l r => [.int .u8 k, .int .i64 n, .string s, .slice A l.length cap, .int .i64 r]

/-- A value as the program handles it. -/
def T.val : T → Value
  | .mk k n s A cap l r => .agg #[.int .u8 k, .int .i64 n, .string s, .slice A l.length cap, .int .i64 r]

/-- Five cells in a row. -/
def Five (w : World) (b o : Nat) (t : T) : Prop := ∀ j u, t.cells[j]? = some u → w.cell? ⟨b, o + j, none⟩ = some u

/-- The bounds of a value's own fields. -/
structure Fit (k n : Int) (s : ByteArray) (len cap : Nat) (r : Int) : Prop where
  k0 : 0 ≤ k
  k1 : k < 256
  n0 : -9223372036854775808 ≤ n
  n1 : n ≤ 9223372036854775807
  s1 : s.size ≤ 140737488351232
  len1 : len * 64 ≤ 140737488351232
  cap1 : len ≤ cap
  r0 : -9223372036854775808 ≤ r
  r1 : r ≤ 9223372036854775807

/-- A tree lies in the blocks from lo on, below hi. -/
def T.In (w : World) (lo hi : Nat) : T → Prop
  | .mk k n s A cap l r => Fit k n s l.length cap r ∧ (l ≠ [] → ∃ b o, A = some ⟨b, o, none⟩ ∧ lo ≤ b ∧ b < hi ∧ ∀ i x, l[i]? = some x → Five w b (o + i * 5) x) ∧ ∀ x ∈ l, T.In w lo hi x
termination_by t => t

theorem T.in_mk {w : World} {lo hi : Nat} {k n : Int} {s : ByteArray} {A : Option Addr} {cap : Nat} {l : List T} {r : Int} :
    (T.mk k n s A cap l r).In w lo hi ↔ Fit k n s l.length cap r ∧ (l ≠ [] → ∃ b o, A = some ⟨b, o, none⟩ ∧ lo ≤ b ∧ b < hi ∧ ∀ i x, l[i]? = some x → Five w b (o + i * 5) x) ∧ ∀ x ∈ l, x.In w lo hi := by
  rw [T.In]

/-- Induction over a tree: from its parts to it. -/
theorem T.ind {p : T → Prop} (h : ∀ k n s A cap l r, (∀ x ∈ l, p x) → p (.mk k n s A cap l r)) (t : T) : p t :=
  T.rec (motive_1 := p) (motive_2 := fun l => ∀ x ∈ l, p x) (fun k n s A cap l r ih => h k n s A cap l r ih) (by simp) (fun x l hx hl => by
    intro y hy
    rcases List.mem_cons.1 hy with rfl | hy
    · exact hx
    · exact hl y hy) t

theorem V.ind {p : V → Prop} (h : ∀ k n s l r, (∀ x ∈ l, p x) → p (.mk k n s l r)) (v : V) : p v :=
  V.rec (motive_1 := p) (motive_2 := fun l => ∀ x ∈ l, p x) (fun k n s l r ih => h k n s l r ih) (by simp) (fun x l hx hl => by
    intro y hy
    rcases List.mem_cons.1 hy with rfl | hy
    · exact hx
    · exact hl y hy) v

/-- What lies in a range of blocks lies there in every world that has these blocks. -/
theorem T.In.keep {w w' : World} {lo hi : Nat} (hk : ∀ b o, lo ≤ b → b < hi → w'.cell? ⟨b, o, none⟩ = w.cell? ⟨b, o, none⟩) (t : T) : t.In w lo hi → t.In w' lo hi := by
  induction t using T.ind with
  | h k n s A cap l r ih =>
    rw [T.in_mk, T.in_mk]
    rintro ⟨h1, h2, h3⟩
    refine ⟨h1, fun hl => ?_, fun x hx => ih x hx (h3 x hx)⟩
    obtain ⟨b, o, rfl, hb0, hb1, hc⟩ := h2 hl
    exact ⟨b, o, rfl, hb0, hb1, fun i x hx j u hu => (hk b _ hb0 hb1).trans (hc i x hx j u hu)⟩

theorem T.In.below {w w' : World} {lo hi B : Nat} {t : T} (h : t.In w lo hi) (hb : Below B w w') (hB : hi ≤ B) : t.In w' lo hi :=
  T.In.keep (fun b o _ h1 => hb.cell (p := ⟨b, o, none⟩) (Nat.lt_of_lt_of_le h1 hB)) t h

theorem T.In.more {w : World} {lo hi lo' hi' : Nat} (hl : lo' ≤ lo) (hh : hi ≤ hi') (t : T) : t.In w lo hi → t.In w lo' hi' := by
  induction t using T.ind with
  | h k n s A cap l r ih =>
    rw [T.in_mk, T.in_mk]
    rintro ⟨h1, h2, h3⟩
    refine ⟨h1, fun hl' => ?_, fun x hx => ih x hx (h3 x hx)⟩
    obtain ⟨b, o, rfl, hb0, hb1, hc⟩ := h2 hl'
    exact ⟨b, o, rfl, by omega, by omega, hc⟩

/-- A fact kept from the walk. -/
theorem hide {p : Prop} (h : p) : Hid p := h

/-! ### A block that is known whole -/
def Blk (w : World) (g : Nat) (t : TypeId) (cs : Array Value) : Prop := w.heap[g]? = some (.cells cs t (0, 0))

section
variable {w w' : World} {g : Nat} {t : TypeId} {cs : Array Value}
theorem Blk.lt (h : Blk w g t cs) : g < w.heap.size := by
  rcases Nat.lt_or_ge g w.heap.size with hlt | hge
  · exact hlt
  · unfold Blk at h; rw [Array.getElem?_eq_none hge] at h; cases h
theorem Blk.cell (h : Blk w g t cs) (i : Nat) : w.cell? ⟨g, i, none⟩ = cs[i]? := cell_of_row w g i cs t (0, 0) h
theorem Blk.frozen (h : Blk w g t cs) (i : Nat) : w.frozen? ⟨g, i, none⟩ = false := by
  unfold Blk at h
  simp [World.frozen?, h]
theorem Blk.new (w : World) (t : TypeId) (cs : Array Value) : Blk (w.alloc (.cells cs t)) w.heap.size t cs := heap_alloc_new w _
theorem Blk.new' (w : World) (t : TypeId) (cs : Array Value) {g : Nat} (h : w.heap.size = g) : Blk (w.alloc (.cells cs t)) g t cs := by subst h; exact Blk.new w t cs
theorem Blk.drew (h : Blk w g t cs) : Blk w.drew g t cs := h
theorem Blk.drewN (h : Blk w g t cs) (n : Nat) : Blk (w.drewN n) g t cs := h
theorem Blk.alloc (h : Blk w g t cs) (o : Obj) : Blk (w.alloc o) g t cs := (Below.heap_alloc w o g h.lt).trans h
theorem Blk.set_ (h : Blk w g t cs) (i : Nat) (u : Value) : Blk (w.setCell ⟨g, i, none⟩ u) g t (cs.setIfInBounds i u) := by
  unfold Blk at h ⊢
  simp [World.setCell, Array.getElem?_modify, h]
theorem Blk.far (h : Blk w g t cs) {p : Addr} (hp : g ≠ p.block) (u : Value) : Blk (w.setCell p u) g t cs := (Below.heap_setCell w p u g hp).trans h
theorem Blk.ne_ {g' : Nat} {t' : TypeId} {cs' : Array Value} (h : Blk w g t cs) (h' : Blk w g' t' cs') (hne : t ≠ t') : g ≠ g' := by
  rintro rfl
  unfold Blk at h h'
  rw [h] at h'
  injection h' with h'
  injection h' with _ ht
  exact hne ht
end

/-! ### Frames: which old blocks may have turned -/

/-- Of the blocks that there were, those of S alone may have turned. -/
structure Fr (S : Nat → Prop) (w w' : World) : Prop where
  os : w'.os = w.os
  tape : w'.tape = w.tape
  output : w'.output = w.output
  size : w.heap.size ≤ w'.heap.size
  block : ∀ b, b < w.heap.size → ¬ S b → w'.heap[b]? = w.heap[b]?

/-- No block. -/
def No (_ : Nat) : Prop := False

section
variable {S S' : Nat → Prop} {a b c w w' : World}

theorem Fr.refl (S : Nat → Prop) (w : World) : Fr S w w := ⟨rfl, rfl, rfl, Nat.le_refl _, fun _ _ _ => rfl⟩

theorem Fr.trans' (h : Fr S a b) (k : Fr S' b c) (hs : ∀ i, i < a.heap.size → S' i → S i) : Fr S a c :=
  ⟨k.os.trans h.os, k.tape.trans h.tape, k.output.trans h.output, Nat.le_trans h.size k.size, fun i hi hn =>
    (k.block i (Nat.lt_of_lt_of_le hi h.size) (fun hS => hn (hs i hi hS))).trans (h.block i hi hn)⟩

theorem Fr.trans (h : Fr S a b) (k : Fr S b c) : Fr S a c := h.trans' k fun _ _ h => h

theorem Fr.mono (h : Fr S a b) (hs : ∀ i, i < a.heap.size → S i → S' i) : Fr S' a b := (Fr.refl S' a).trans' h hs

theorem Fr.no (h : Fr No a b) : Fr S a b := h.mono fun _ _ h => h.elim

theorem Fr.thenNo (h : Fr S a b) (k : Fr No b c) : Fr S a c := h.trans' k fun _ _ h => h.elim

theorem Fr.drew (h : Fr S a w) : Fr S a w.drew := ⟨h.os, h.tape, h.output, h.size, h.block⟩

theorem Fr.drewN (h : Fr S a w) (n : Nat) : Fr S a (w.drewN n) := ⟨h.os, h.tape, h.output, h.size, h.block⟩

theorem Fr.alloc (h : Fr S a w) (o : Obj) : Fr S a (w.alloc o) :=
  h.trans' (S' := No) ⟨rfl, rfl, rfl, by simp, fun k hk _ => Below.heap_alloc _ _ _ hk⟩ fun _ _ h => h.elim

theorem Fr.set (h : Fr S a w) {p : Addr} (hp : p.block < a.heap.size → S p.block) (u : Value) : Fr S a (w.setCell p u) :=
  ⟨h.os, h.tape, h.output, by simpa [World.setCell] using h.size, fun i hi hn => (Below.heap_setCell _ _ _ _ (by rintro rfl; exact hn (hp hi))).trans (h.block i hi hn)⟩

theorem Fr.setNew (h : Fr S a w) {p : Addr} (hp : a.heap.size ≤ p.block) (u : Value) : Fr S a (w.setCell p u) :=
  h.set (fun hlt => by omega) u

theorem Fr.grown (h : Fr S a w) {row : Option Nat} (hg : w.grownBy w' row) (hr : ∀ k, row = some k → k < a.heap.size → S k) : Fr S a w' :=
  ⟨hg.os.trans h.os, hg.tape.trans h.tape, hg.output.trans h.output, Nat.le_trans h.size hg.size, fun i hi hn =>
    (hg.block i (Nat.lt_of_lt_of_le hi h.size) (fun e => hn (hr i e.symm hi))).trans (h.block i hi hn)⟩

theorem Fr.below (h : Fr S a w) {B : Nat} (hB : B ≤ a.heap.size) (hs : ∀ i, i < B → ¬ S i) : Below B a w :=
  ⟨h.os, h.tape, h.output, h.size, fun k hk => h.block k (by omega) (hs k hk)⟩

theorem Fr.noBelow (h : Fr No a w) : Below a.heap.size a w := h.below (Nat.le_refl _) fun _ _ h => h

theorem Fr.ofBelow (h : Below a.heap.size a w) : Fr No a w := ⟨h.os, h.tape, h.output, h.size, fun b hb _ => h.block b hb⟩

theorem Fr.cell (h : Fr S a w) {b o : Nat} {s : Option Nat} (hb : b < a.heap.size) (hn : ¬ S b) : w.cell? ⟨b, o, s⟩ = a.cell? ⟨b, o, s⟩ :=
  World.cell?_of_block (w := a) (h.block b hb hn)

theorem Fr.frozen (h : Fr S a w) {b o : Nat} {s : Option Nat} (hb : b < a.heap.size) (hn : ¬ S b) : w.frozen? ⟨b, o, s⟩ = a.frozen? ⟨b, o, s⟩ :=
  World.frozen?_of_block (w := a) (h.block b hb hn)

theorem Blk.fr {g : Nat} {t : TypeId} {cs : Array Value} (h : Blk a g t cs) (hf : Fr S a w) (hn : ¬ S g) : Blk w g t cs := (hf.block g h.lt hn).trans h

theorem Fr.cells (h : Fr No a w) : ∀ b o, b < a.heap.size → w.cell? ⟨b, o, none⟩ = a.cell? ⟨b, o, none⟩ := fun _ _ hb => h.cell hb fun h => h
theorem Fr.frozens (h : Fr No a w) : ∀ b o, b < a.heap.size → w.frozen? ⟨b, o, none⟩ = a.frozen? ⟨b, o, none⟩ := fun _ _ hb => h.frozen hb fun h => h

theorem T.In.fr {lo hi : Nat} {t : T} (h : t.In a lo hi) (hf : Fr S a w) (hh : hi ≤ a.heap.size) (hs : ∀ i, lo ≤ i → i < hi → ¬ S i) : t.In w lo hi :=
  T.In.keep (fun b o h0 h1 => hf.cell (by omega) (hs b h0 h1)) t h

theorem T.In.no {lo hi : Nat} {t : T} (h : t.In a lo hi) (hf : Fr No a w) (hh : hi ≤ a.heap.size) : t.In w lo hi := h.fr hf hh fun _ _ _ h => h
end

/-- One part of a list, as the walk reads it. -/
theorem T.elem {w : World} {lo hi : Nat} {k n : Int} {s : ByteArray} {A : Option Addr} {cap : Nat} {l : List T} {r : Int} (h : (T.mk k n s A cap l r).In w lo hi) {j : Nat} (hj : j < l.length) :
    ∃ b o k1 n1 s1 A1 cap1 l1 r1, A = some ⟨b, o, none⟩ ∧ lo ≤ b ∧ b < hi ∧ l[j] = T.mk k1 n1 s1 A1 cap1 l1 r1 ∧ (T.mk k1 n1 s1 A1 cap1 l1 r1).In w lo hi ∧
      w.cell? ⟨b, o + j * 5, none⟩ = some (.int .u8 k1) ∧ w.cell? ⟨b, o + j * 5 + 1, none⟩ = some (.int .i64 n1) ∧ w.cell? ⟨b, o + j * 5 + 2, none⟩ = some (.string s1) ∧
      w.cell? ⟨b, o + j * 5 + 3, none⟩ = some (.slice A1 l1.length cap1) ∧ w.cell? ⟨b, o + j * 5 + 4, none⟩ = some (.int .i64 r1) := by
  obtain ⟨_, hA, hs⟩ := T.in_mk.1 h
  obtain ⟨b, o, rfl, h0, h1, hc⟩ := hA (by rintro rfl; simp at hj)
  have h5 := hc j l[j] (List.getElem?_eq_getElem hj)
  have hin := hs l[j] (List.getElem_mem hj)
  cases hx : l[j] with
  | mk k1 n1 s1 A1 cap1 l1 r1 =>
    rw [hx] at h5 hin
    exact ⟨b, o, k1, n1, s1, A1, cap1, l1, r1, rfl, h0, h1, rfl, hin, h5 0 _ rfl, h5 1 _ rfl, h5 2 _ rfl, h5 3 _ rfl, h5 4 _ rfl⟩

/-! ### Values in memory of their own -/

/-- The blocks of a tree's lists, each as often as it is met. -/
def T.blocks : T → List Nat
  | .mk _ _ _ A _ l _ => (if l.isEmpty then [] else (A.map Addr.block).toList) ++ (l.map T.blocks).flatten
termination_by t => t

theorem T.blocks_mk (k n : Int) (s : ByteArray) (A : Option Addr) (cap : Nat) (l : List T) (r : Int) :
    (T.mk k n s A cap l r).blocks = (if l.isEmpty then [] else (A.map Addr.block).toList) ++ (l.map T.blocks).flatten := by rw [T.blocks]

theorem T.In.blocks {w : World} {lo hi : Nat} (t : T) : t.In w lo hi → ∀ b ∈ t.blocks, lo ≤ b ∧ b < hi := by
  induction t using T.ind with
  | h k n s A cap l r ih =>
    rw [T.in_mk, T.blocks_mk]
    rintro ⟨_, h2, h3⟩ b hb
    rcases List.mem_append.1 hb with hb | hb
    · cases l with
      | nil => simp at hb
      | cons x l =>
        obtain ⟨c, o, rfl, h0, h1, _⟩ := h2 (by simp)
        simp at hb
        subst hb
        exact ⟨h0, h1⟩
    · obtain ⟨bs, hbs, hb⟩ := List.mem_flatten.1 hb
      obtain ⟨x, hx, rfl⟩ := List.mem_map.1 hbs
      exact ih x hx (h3 x hx) b hb

/-- A tree in memory of its own: no block is met twice, no cell is frozen. -/
structure T.Ow (w : World) (lo hi : Nat) (t : T) : Prop where
  inn : t.In w lo hi
  nodup : t.blocks.Nodup
  free : ∀ b ∈ t.blocks, ∀ o, w.frozen? ⟨b, o, none⟩ = false

/-- Trees in memory of their own, apart from each other. -/
structure Forest (w : World) (lo hi : Nat) (l : List T) : Prop where
  inn : ∀ x ∈ l, x.In w lo hi
  nodup : (l.map T.blocks).flatten.Nodup
  free : ∀ b ∈ (l.map T.blocks).flatten, ∀ o, w.frozen? ⟨b, o, none⟩ = false

section
variable {S : Nat → Prop} {w w' : World} {lo hi : Nat} {t : T} {l : List T}

theorem T.Ow.fr (h : t.Ow w lo hi) (hf : Fr S w w') (hh : hi ≤ w.heap.size) (hs : ∀ i, lo ≤ i → i < hi → ¬ S i) : t.Ow w' lo hi :=
  ⟨h.inn.fr hf hh hs, h.nodup, fun b hb o => by
    have := T.In.blocks t h.inn b hb
    rw [hf.frozen (by omega) (hs b this.1 this.2)]
    exact h.free b hb o⟩

theorem T.Ow.no (h : t.Ow w lo hi) (hf : Fr No w w') (hh : hi ≤ w.heap.size) : t.Ow w' lo hi := h.fr hf hh fun _ _ _ h => h

theorem T.Ow.more {lo' hi' : Nat} (h : t.Ow w lo hi) (hl : lo' ≤ lo) (hh : hi ≤ hi') : t.Ow w lo' hi' := ⟨T.In.more hl hh t h.inn, h.nodup, h.free⟩

theorem Forest.nil (w : World) (lo hi : Nat) : Forest w lo hi [] := ⟨by simp, by simp, by simp⟩

theorem Forest.blocks (h : Forest w lo hi l) : ∀ b ∈ (l.map T.blocks).flatten, lo ≤ b ∧ b < hi := fun b hb => by
  obtain ⟨bs, hbs, hb⟩ := List.mem_flatten.1 hb
  obtain ⟨x, hx, rfl⟩ := List.mem_map.1 hbs
  exact T.In.blocks x (h.inn x hx) b hb

/-- In another world: whatever has turned is none of the forest's blocks. -/
theorem Forest.fr' (h : Forest w lo hi l) (hf : Fr S w w') (hh : hi ≤ w.heap.size) (hs : ∀ b ∈ (l.map T.blocks).flatten, ¬ S b) (hin : ∀ x ∈ l, x.In w' lo hi) : Forest w' lo hi l :=
  ⟨hin, h.nodup, fun b hb o => by
    have := h.blocks b hb
    rw [hf.frozen (by omega) (hs b hb)]
    exact h.free b hb o⟩

theorem Forest.fr (h : Forest w lo hi l) (hf : Fr S w w') (hh : hi ≤ w.heap.size) (hs : ∀ i, lo ≤ i → i < hi → ¬ S i) : Forest w' lo hi l :=
  h.fr' hf hh (fun b hb => hs b (h.blocks b hb).1 (h.blocks b hb).2) fun x hx => (h.inn x hx).fr hf hh hs

theorem Forest.no (h : Forest w lo hi l) (hf : Fr No w w') (hh : hi ≤ w.heap.size) : Forest w' lo hi l := h.fr hf hh fun _ _ _ h => h

theorem Forest.more {lo' hi' : Nat} (h : Forest w lo hi l) (hl : lo' ≤ lo) (hh : hi ≤ hi') : Forest w lo' hi' l := ⟨fun x hx => T.In.more hl hh x (h.inn x hx), h.nodup, h.free⟩

/-- A tree more, in blocks beyond. -/
theorem Forest.snoc {hi' : Nat} (h : Forest w lo hi l) (hx : t.Ow w hi hi') (h0 : lo ≤ hi) (h1 : hi ≤ hi') : Forest w lo hi' (l ++ [t]) := by
  refine ⟨fun x hx' => ?_, ?_, fun b hb => ?_⟩
  · rcases List.mem_append.1 hx' with hx' | hx'
    · exact T.In.more (Nat.le_refl _) h1 x (h.inn x hx')
    · simp at hx'; subst hx'; exact T.In.more h0 (Nat.le_refl _) _ hx.inn
  · rw [List.map_append, List.flatten_append, List.nodup_append]
    refine ⟨h.nodup, by simpa using hx.nodup, fun a ha b hb => ?_⟩
    simp at hb
    have h2 := h.blocks a ha
    have h3 := T.In.blocks t hx.inn b hb
    omega
  · rw [List.map_append, List.flatten_append, List.mem_append] at hb
    rcases hb with hb | hb
    · exact h.free b hb
    · simp at hb; exact hx.free b hb

end

/-- The cells of a block are those of some trees, one behind the other. -/
def RowIs (cs : Array Value) (o : Nat) (l : List T) : Prop := ∀ i x, l[i]? = some x → ∀ c u, x.cells[c]? = some u → cs[o + i * 5 + c]? = some u

theorem RowIs.nil (cs : Array Value) (o : Nat) : RowIs cs o [] := fun i x h => by simp at h

theorem T.cells_length (t : T) : t.cells.length = 5 := by cases t; rfl

theorem RowIs.snoc {cs cs' : Array Value} {o : Nat} {l : List T} {t : T} (h : RowIs cs o l) (hk : ∀ i, i < o + l.length * 5 → cs'[i]? = cs[i]?) (ht : ∀ c u, t.cells[c]? = some u → cs'[o + l.length * 5 + c]? = some u) :
    RowIs cs' o (l ++ [t]) := by
  intro i x hx c u hu
  have hc : c < 5 := by
    have := (List.getElem?_eq_some_iff.1 hu).1
    rw [T.cells_length] at this
    exact this
  rcases Nat.lt_or_ge i l.length with hi | hi
  · rw [List.getElem?_append_left hi] at hx
    rw [hk _ (by omega)]
    exact h i x hx c u hu
  · rw [List.getElem?_append_right hi] at hx
    have : i - l.length = 0 := by
      rcases Nat.eq_zero_or_pos (i - l.length) with h0 | h0
      · exact h0
      · rw [List.getElem?_eq_none (by simp; omega)] at hx; cases hx
    have hil : i = l.length := by omega
    subst hil
    simp at hx
    subst hx
    exact ht c u hu

/-- A value whose list lies in a block known whole. -/
theorem T.ow_mk {w : World} {lo hi g o cap : Nat} {k n : Int} {s : ByteArray} {l : List T} {r : Int} {cs : Array Value} (hf : Fit k n s l.length cap r) (hF : Forest w lo hi l) (hb : Blk w g 37 cs) (hr : RowIs cs o l)
    (h0 : lo ≤ g) (h1 : g < hi) (hg : g ∉ (l.map T.blocks).flatten) : (T.mk k n s (some ⟨g, o, none⟩) cap l r).Ow w lo hi := by
  refine ⟨T.in_mk.2 ⟨hf, fun _ => ⟨g, o, rfl, h0, h1, fun i x hx c u hu => ?_⟩, hF.inn⟩, ?_, ?_⟩
  · rw [hb.cell]; exact hr i x hx c u hu
  · rw [T.blocks_mk]
    cases l with
    | nil => simp
    | cons x l => 
      simp only [List.isEmpty_cons, Bool.false_eq_true, if_false, Option.map_some, Option.toList_some, List.singleton_append, List.nodup_cons]
      exact ⟨hg, hF.nodup⟩
  · rw [T.blocks_mk]
    intro b hb' o'
    rcases List.mem_append.1 hb' with hb' | hb'
    · cases l with
      | nil => simp at hb'
      | cons x l => simp at hb'; subst hb'; exact hb.frozen o'
    · exact hF.free b hb' o'

/-- A value without a list. -/
theorem T.ow_nil {w : World} {lo hi cap : Nat} {k n : Int} {s : ByteArray} {A : Option Addr} {r : Int} (hf : Fit k n s 0 cap r) : (T.mk k n s A cap [] r).Ow w lo hi := by
  refine ⟨T.in_mk.2 ⟨hf, fun h => absurd rfl h, by simp⟩, ?_, ?_⟩
  · rw [T.blocks_mk]; simp
  · rw [T.blocks_mk]; simp

/-- Five stores in a row. -/
theorem Blk.five {w : World} {g : Nat} {t : TypeId} {cs : Array Value} (h : Blk w g t cs) (o : Nat) (a b c d e : Value) :
    Blk (((((w.setCell ⟨g, o, none⟩ a).setCell ⟨g, o + 1, none⟩ b).setCell ⟨g, o + 2, none⟩ c).setCell ⟨g, o + 3, none⟩ d).setCell ⟨g, o + 4, none⟩ e) g t
      (((((cs.setIfInBounds o a).setIfInBounds (o + 1) b).setIfInBounds (o + 2) c).setIfInBounds (o + 3) d).setIfInBounds (o + 4) e) :=
  ((((h.set_ _ _).set_ _ _).set_ _ _).set_ _ _).set_ _ _

theorem Fr.five {S : Nat → Prop} {a w : World} (h : Fr S a w) {g : Nat} (hg : g < a.heap.size → S g) (o : Nat) (x0 x1 x2 x3 x4 : Value) :
    Fr S a (((((w.setCell ⟨g, o, none⟩ x0).setCell ⟨g, o + 1, none⟩ x1).setCell ⟨g, o + 2, none⟩ x2).setCell ⟨g, o + 3, none⟩ x3).setCell ⟨g, o + 4, none⟩ x4) :=
  ((((h.set (p := ⟨g, o, none⟩) hg _).set (p := ⟨g, o + 1, none⟩) hg _).set (p := ⟨g, o + 2, none⟩) hg _).set (p := ⟨g, o + 3, none⟩) hg _).set (p := ⟨g, o + 4, none⟩) hg _

/-- A row of trees with one more behind it. -/
theorem RowIs.five {cs : Array Value} {o : Nat} {l : List T} {k n : Int} {s : ByteArray} {A : Option Addr} {cap : Nat} {l1 : List T} {r : Int} (h : RowIs cs o l) (hs : o + l.length * 5 + 5 ≤ cs.size) :
    RowIs (((((cs.setIfInBounds (o + l.length * 5) (.int .u8 k)).setIfInBounds (o + l.length * 5 + 1) (.int .i64 n)).setIfInBounds (o + l.length * 5 + 2) (.string s)).setIfInBounds (o + l.length * 5 + 3) (.slice A l1.length cap)).setIfInBounds
      (o + l.length * 5 + 4) (.int .i64 r)) o (l ++ [T.mk k n s A cap l1 r]) := by
  refine h.snoc (fun i hi => ?_) fun c u hu => ?_
  · simp only [Array.getElem?_setIfInBounds]
    repeat rw [if_neg (by omega)]
  · match c, hu with
    | 0, hu => simp [T.cells] at hu; subst hu; simp [Array.getElem?_setIfInBounds]; omega
    | 1, hu => simp [T.cells] at hu; subst hu; simp [Array.getElem?_setIfInBounds]; omega
    | 2, hu => simp [T.cells] at hu; subst hu; simp [Array.getElem?_setIfInBounds]; omega
    | 3, hu => simp [T.cells] at hu; subst hu; simp [Array.getElem?_setIfInBounds]; omega
    | 4, hu => simp [T.cells] at hu; subst hu; simp [Array.getElem?_setIfInBounds]; omega

/-- The cells of a block of five. -/
theorem Blk.cells5 {w : World} {g : Nat} {t : TypeId} {a b c d e : Value} (h : Blk w g t #[a, b, c, d, e]) :
    w.cell? ⟨g, 0, none⟩ = some a ∧ w.cell? ⟨g, 1, none⟩ = some b ∧ w.cell? ⟨g, 2, none⟩ = some c ∧ w.cell? ⟨g, 3, none⟩ = some d ∧ w.cell? ⟨g, 4, none⟩ = some e ∧ ∀ i, w.frozen? ⟨g, i, none⟩ = false :=
  ⟨h.cell 0, h.cell 1, h.cell 2, h.cell 3, h.cell 4, h.frozen⟩

end Go.Proofs.Ytnddfiohofnbaaa

/- A value that came in, as a tree in memory. -/
namespace Go.Proofs.Ytnddfiohofnbaaa
open Go.Joins Go.ChangeShapes Go.WideShapes Go.RowKit Go.Deep

theorem choose_list {α : Type} {Q : Nat → α → Prop} : ∀ (n : Nat), (∀ i, i < n → ∃ x, Q i x) → ∃ l : List α, l.length = n ∧ ∀ i x, l[i]? = some x → Q i x
  | 0, _ => ⟨[], rfl, fun i x h => by simp at h⟩
  | n + 1, h => by
    obtain ⟨l, hl, hq⟩ := choose_list n fun i hi => h i (by omega)
    obtain ⟨x, hx⟩ := h n (by omega)
    refine ⟨l ++ [x], by simp [hl], fun i y hy => ?_⟩
    rcases Nat.lt_trichotomy i n with hi | rfl | hi
    · rw [List.getElem?_append_left (by omega)] at hy
      exact hq i y hy
    · rw [List.getElem?_append_right (by omega), hl] at hy
      simp at hy; subst hy; exact hx
    · rw [List.getElem?_eq_none (by simp; omega)] at hy; cases hy

theorem cell_lt {w : World} {a : Addr} {v : Value} (h : w.cell? a = some v) : a.block < w.heap.size := by
  rcases Nat.lt_or_ge a.block w.heap.size with hlt | hge
  · exact hlt
  · unfold World.cell? at h
    rw [Array.getElem?_eq_none hge] at h
    simp at h

section
variable {H : Type} {enc : TypeId × Value → H}

theorem wf_u8 {n : Int} (h : (Lit.int .u8 n).wf = true) : 0 ≤ n ∧ n < 256 := by
  obtain ⟨h0, h1⟩ : IntKind.u8.min ≤ n ∧ n ≤ IntKind.u8.max := by simpa [Lit.wf] using h
  have e0 : IntKind.u8.min = 0 := by decide
  have e1 : IntKind.u8.max = 255 := by decide
  omega

theorem wf_i64 {n : Int} (h : (Lit.int .i64 n).wf = true) : -9223372036854775808 ≤ n ∧ n ≤ 9223372036854775807 := by
  obtain ⟨h0, h1⟩ : IntKind.i64.min ≤ n ∧ n ≤ IntKind.i64.max := by simpa [Lit.wf] using h
  have e0 : IntKind.i64.min = -9223372036854775808 := by decide
  have e1 : IntKind.i64.max = 9223372036854775807 := by decide
  omega

theorem reach_eq : reachBytes = 140737488351232 := rfl
theorem cells27 : Try.prog.cellsOf 37 = 5 := by kernel_rfl
theorem bytes27 : Try.prog.bytesOf 37 = 64 := by kernel_rfl
theorem add_at (b o n : Nat) : (⟨b, o, none⟩ : Addr).add n = ⟨b, o + n, none⟩ := by
  unfold Addr.add; split <;> simp_all

theorem weights27 (ds : List (DataW H)) : (DataW.agg ds).weights Try.prog 37 = DataW.weightsEach Try.prog [34, 2, 9, 35, 28] ds := by
  rw [DataW.weights, Try.underlying37]; rfl

theorem weights24 (es rs : List (DataW H)) : (DataW.slice es rs).weights Try.prog 35 = (es.length + rs.length) * 64 :: (DataW.weightsAll Try.prog 37 es ++ DataW.weightsAll Try.prog 37 rs) := by
  rw [DataW.weights, Try.underlying35]; simp only [bytes27]

theorem weights9 (bs : List UInt8) : (DataW.lit (H := H) (.string bs)).weights Try.prog 9 = [bs.length] := by rw [DataW.weights]

theorem mem_weightsAll {P : Program} {e : TypeId} {m : Nat} : ∀ {ds : List (DataW H)} {d : DataW H}, d ∈ ds → m ∈ d.weights P e → m ∈ DataW.weightsAll P e ds
  | [], _, h, _ => by simp at h
  | d0 :: ds, d, h, hm => by
    rw [DataW.weightsAll, List.mem_append]
    rcases List.mem_cons.1 h with rfl | h
    · exact .inl hm
    · exact .inr (mem_weightsAll h hm)

set_option maxRecDepth 100000 in
set_option maxHeartbeats 1000000 in
theorem open_tree (W : World) (fuel : Nat) : ∀ (cs : List Value) (x : DataW H × List MemPlace), DataW.trod enc Try.prog W 0 (fun _ => true) true fuel 37 cs = some x → (∀ m ∈ x.1.weights Try.prog 37, m ≤ reachBytes) →
    ∃ t : T, cs = t.cells ∧ t.In W 0 W.heap.size := by
  induction fuel using Nat.strongRecOn with
  | ind fuel IH =>
    intro cs x h hw
    obtain ⟨xs, n, rfl, rfl, hlen, hxs, hg⟩ := DataW.trod_struct Try.underlying37 h
    rw [cells27] at hlen
    match cs, hlen, xs, hxs with
    | [c0, c1, c2, c3, c4], _, [y0, y1, y2, y3, y4], _ =>
      have g0 : DataW.trod enc Try.prog W 0 (fun _ => true) true n 34 [c0] = some y0 := hg 0 _ rfl
      have g1 : DataW.trod enc Try.prog W 0 (fun _ => true) true n 2 [c1] = some y1 := hg 1 _ rfl
      have g2 : DataW.trod enc Try.prog W 0 (fun _ => true) true n 9 [c2] = some y2 := hg 2 _ rfl
      have g3 : DataW.trod enc Try.prog W 0 (fun _ => true) true n 35 [c3] = some y3 := hg 3 _ rfl
      have g4 : DataW.trod enc Try.prog W 0 (fun _ => true) true n 28 [c4] = some y4 := hg 4 _ rfl
      obtain ⟨k, e0, rfl, wk⟩ := DataW.trod_int Try.underlying34 g0
      obtain ⟨m1, e1, rfl, wn⟩ := DataW.trod_int Try.underlying2 g1
      obtain ⟨s, e2, rfl, ws⟩ := DataW.trod_string Try.underlying9 g2
      obtain ⟨r, e4, rfl, wr⟩ := DataW.trod_int Try.underlying28 g4
      simp only [List.cons.injEq, and_true] at e0 e1 e2 e4
      subst e0 e1 e2 e4
      have hW : ∀ m, m ∈ (y3.1.weights Try.prog 35) ∨ m = s.data.toList.length → m ≤ reachBytes := by
        intro m hm
        refine hw m ?_
        rw [List.map_cons, List.map_cons, List.map_cons, List.map_cons, List.map_cons, weights27, DataW.weightsEach, DataW.weightsEach, DataW.weightsEach, DataW.weightsEach, weights9]
        rcases hm with hm | hm
        · exact List.mem_append_right _ (List.mem_append_right _ (List.mem_append_right _ (List.mem_append_left _ hm)))
        · exact List.mem_append_right _ (List.mem_append_right _ (List.mem_append_left _ (by rw [hm]; exact List.mem_singleton.2 rfl)))
      have hs : s.size ≤ 140737488351232 := by
        have := hW _ (.inr rfl)
        rw [reach_eq, Array.length_toList] at this
        exact this
      obtain ⟨k0, k1⟩ := wf_u8 wk
      obtain ⟨n0, n1⟩ := wf_i64 wn
      obtain ⟨r0, r1⟩ := wf_i64 wr
      rcases DataW.trod_slice Try.underlying35 g3 with ⟨e3, -⟩ | ⟨a, len, cap, elems, rest, n', rfl, e3, rfl, -, hcap, hmax, hel, hat, hsp, -⟩
      · simp only [List.cons.injEq, and_true] at e3
        subst e3
        exact ⟨T.mk k m1 s none 0 [] r, rfl, T.in_mk.2 ⟨⟨k0, k1, n0, n1, hs, by simp, Nat.le_refl _, r0, r1⟩, fun h => absurd rfl h, by simp⟩⟩
      · simp only [List.cons.injEq, and_true] at e3
        subst e3
        have hlen1 : len * 64 ≤ 140737488351232 := by
          have := hW ((elems.length + rest.length) * 64) (.inl (by rw [weights24]; simp))
          rw [reach_eq, hel] at this
          omega
        rw [cells27] at hat
        have hone : ∀ i, i < len → ∃ t : T, (∀ j u, t.cells[j]? = some u → W.cell? ((a.add (i * 5)).add j) = some u) ∧ t.In W 0 W.heap.size := by
          intro i hi
          have h1 := hat i hi
          have h2 : elems[i]? = some (elems[i]'(by omega)) := List.getElem?_eq_getElem (by omega)
          rw [h2] at h1
          obtain ⟨cs', hc, ht'⟩ := Option.bind_eq_some_iff.1 h1
          obtain ⟨t, rfl, hin⟩ := IH n' (by omega) cs' _ ht' (fun m hm => hW m (.inl (by
            rw [weights24]
            refine List.mem_cons_of_mem _ (List.mem_append_left _ ?_)
            exact mem_weightsAll (List.mem_map_of_mem (List.getElem_mem _)) hm)))
          obtain ⟨-, hcl, hcell⟩ := World.cells?_some hc
          refine ⟨t, fun j u hu => ?_, hin⟩
          have hj : j < 5 := by
            rcases Nat.lt_or_ge j 5 with h | h
            · exact h
            · rw [List.getElem?_eq_none (by rw [T.cells_length]; exact h)] at hu; cases hu
          rw [hcell j hj, hu]
        obtain ⟨l, hl, hq⟩ := choose_list len hone
        subst hl
        obtain ⟨b, o, sp⟩ := a
        refine ⟨T.mk k m1 s (some ⟨b, o, sp⟩) cap l r, rfl, T.in_mk.2 ⟨⟨k0, k1, n0, n1, hs, hlen1, hcap, r0, r1⟩, fun hne => ?_, fun x hx => ?_⟩⟩
        · have hlp : 0 < l.length := List.length_pos_iff.2 hne
          obtain ⟨hc0, -⟩ := hq 0 _ (List.getElem?_eq_getElem hlp)
          have hcc := hc0 0 _ (List.getElem?_eq_getElem (by rw [T.cells_length]; omega))
          have hspot : sp = none := by simpa [Addr.add] using World.cell?_spot hcc
          subst hspot
          have hlt := cell_lt hcc
          refine ⟨b, o, rfl, Nat.zero_le _, by simpa [Addr.add] using hlt, fun i x hx j u hu => ?_⟩
          have := (hq i x hx).1 j u hu
          rw [add_at, add_at] at this
          exact this
        · obtain ⟨i, hi, rfl⟩ := List.mem_iff_getElem.1 hx
          exact (hq i _ (List.getElem?_eq_getElem hi)).2

set_option maxRecDepth 100000 in
/-- An argument of the type Value. -/
theorem open_val {W : World} {b0 : Nat} {v : Value} {d : DataW H} {p : List MemPlace} (hv : Value.okWide Try.prog W .any b0 37 v) (h : DataW.Trod enc Try.prog W 0 (fun _ => true) true 37 v d p) (hw : ∀ m ∈ d.weights Try.prog 37, m ≤ reachBytes) :
    ∃ t : T, v = t.val ∧ t.In W 0 W.heap.size := by
  obtain ⟨cs, rfl, hsz⟩ := okWide_struct Try.underlying37 hv
  obtain ⟨fuel, hf⟩ := h
  obtain ⟨t, ht, hin⟩ := open_tree W fuel _ _ hf hw
  refine ⟨t, ?_, hin⟩
  cases t with
  | mk k n s A cap l r =>
    obtain ⟨cs⟩ := cs
    have ht' : cs = (T.mk k n s A cap l r).cells := ht
    rw [ht']
    rfl
end

end Go.Proofs.Ytnddfiohofnbaaa

/- Trees of any type in memory: cells, and where the lists of them lie; what came in is one. No program in sight. -/
namespace Go.Proofs.Ytnddfiohofnbaaa
open Go.Joins Go.ChangeShapes Go.WideShapes Go.RowKit Go.Deep

/-- A value of any type in memory: its cells, and for each of its slices where it lies and what is in it. -/
inductive G where
  | mk (c : List Value) (subs : List (Option Addr × List G))

def G.c : G → List Value | .mk c _ => c
def G.subs : G → List (Option Addr × List G) | .mk _ s => s

theorem G.sub_lt {c : List Value} {subs : List (Option Addr × List G)} {A : Option Addr} {l : List G} {x : G} (h : (A, l) ∈ subs) (hx : x ∈ l) : SizeOf.sizeOf x < SizeOf.sizeOf (G.mk c subs) := by
  have h1 := List.sizeOf_lt_of_mem h
  have h2 := List.sizeOf_lt_of_mem hx
  simp at h1 ⊢
  omega

theorem G.ind {p : G → Prop} (h : ∀ c subs, (∀ A l, (A, l) ∈ subs → ∀ x ∈ l, p x) → p (.mk c subs)) (g : G) : p g :=
  match g with
  | .mk c subs => h c subs fun A l _hl x _hx => G.ind h x
termination_by g
decreasing_by exact G.sub_lt _hl _hx

/-- A tree lies in the blocks from lo on, below hi. -/
def G.In (w : World) (lo hi : Nat) : G → Prop
  | .mk _ subs => ∀ A l, (hs : (A, l) ∈ subs) → (l ≠ [] → ∃ b o, A = some ⟨b, o, none⟩ ∧ lo ≤ b ∧ b < hi ∧ ∀ i x, l[i]? = some x → ∀ j u, x.c[j]? = some u → w.cell? ⟨b, o + i * x.c.length + j, none⟩ = some u) ∧ ∀ x ∈ l, G.In w lo hi x
termination_by g => g
decreasing_by
  have h1 := List.sizeOf_lt_of_mem hs
  have h2 := List.sizeOf_lt_of_mem ‹x ∈ l›
  simp at h1 ⊢
  omega

theorem G.in_mk {w : World} {lo hi : Nat} {c : List Value} {subs : List (Option Addr × List G)} :
    (G.mk c subs).In w lo hi ↔ ∀ A l, (A, l) ∈ subs → (l ≠ [] → ∃ b o, A = some ⟨b, o, none⟩ ∧ lo ≤ b ∧ b < hi ∧ ∀ i x, l[i]? = some x → ∀ j u, x.c[j]? = some u → w.cell? ⟨b, o + i * x.c.length + j, none⟩ = some u) ∧ ∀ x ∈ l, G.In w lo hi x := by
  rw [G.In]

/-- What lies in a range of blocks lies there in every world that has these blocks. -/
theorem G.In.keep {w w' : World} {lo hi : Nat} (hk : ∀ b o, lo ≤ b → b < hi → w'.cell? ⟨b, o, none⟩ = w.cell? ⟨b, o, none⟩) (g : G) : g.In w lo hi → g.In w' lo hi := by
  induction g using G.ind with
  | h c subs ih =>
    rw [G.in_mk, G.in_mk]
    intro h A l hs
    obtain ⟨h1, h2⟩ := h A l hs
    refine ⟨fun hl => ?_, fun x hx => ih A l hs x hx (h2 x hx)⟩
    obtain ⟨b, o, rfl, hb0, hb1, hc⟩ := h1 hl
    exact ⟨b, o, rfl, hb0, hb1, fun i x hx j u hu => (hk b _ hb0 hb1).trans (hc i x hx j u hu)⟩

theorem G.In.more {w : World} {lo hi lo' hi' : Nat} (hl : lo' ≤ lo) (hh : hi ≤ hi') (g : G) : g.In w lo hi → g.In w lo' hi' := by
  induction g using G.ind with
  | h c subs ih =>
    rw [G.in_mk, G.in_mk]
    intro h A l hs
    obtain ⟨h1, h2⟩ := h A l hs
    refine ⟨fun hl => ?_, fun x hx => ih A l hs x hx (h2 x hx)⟩
    obtain ⟨b, o, rfl, hb0, hb1, hc⟩ := h1 hl
    exact ⟨b, o, rfl, by omega, by omega, hc⟩

section
variable {S : Nat → Prop} {a w : World} {lo hi : Nat} {g : G}

theorem G.In.fr (h : g.In a lo hi) (hf : Fr S a w) (hh : hi ≤ a.heap.size) (hs : ∀ i, lo ≤ i → i < hi → ¬ S i) : g.In w lo hi :=
  G.In.keep (fun b o h0 h1 => hf.cell (by omega) (hs b h0 h1)) g h

theorem G.In.no (h : g.In a lo hi) (hf : Fr No a w) (hh : hi ≤ a.heap.size) : g.In w lo hi := h.fr hf hh fun _ _ _ h => h
end

/-! ### Shapes -/

/-- What a cell of a type is. -/
inductive Fd where
  | int (k : IntKind)
  | bool
  | str
  | sl (e : TypeId) (size : Nat)

/-- Cells of a shape; what lists there are. -/
def FitsF : List Fd → List Value → List (Option Addr × List G) → Prop
  | [], c, s => c = [] ∧ s = []
  | .int k :: fs, v :: c, s => (∃ n, v = .int k n ∧ (Lit.int k n).wf = true) ∧ FitsF fs c s
  | .bool :: fs, v :: c, s => (∃ b, v = .bool b) ∧ FitsF fs c s
  | .str :: fs, v :: c, s => (∃ b : ByteArray, v = .string b ∧ b.size ≤ 140737488351232) ∧ FitsF fs c s
  | .sl _ size :: fs, v :: c, x :: s => (∃ cap, v = .slice x.1 x.2.length cap ∧ x.2.length ≤ cap ∧ x.2.length * size ≤ 140737488351232) ∧ FitsF fs c s
  | _, _, _ => False

/-- The types of the lists of a shape. -/
def sls : List Fd → List TypeId
  | [] => []
  | .sl e _ :: fs => e :: sls fs
  | .int _ :: fs => sls fs
  | .bool :: fs => sls fs
  | .str :: fs => sls fs

theorem sls_append : ∀ (f1 f2 : List Fd), sls (f1 ++ f2) = sls f1 ++ sls f2
  | [], _ => rfl
  | .sl _ _ :: fs, f2 => by simp [sls, sls_append fs f2]
  | .int _ :: fs, f2 => by simp [sls, sls_append fs f2]
  | .bool :: fs, f2 => by simp [sls, sls_append fs f2]
  | .str :: fs, f2 => by simp [sls, sls_append fs f2]

theorem FitsF.subs : ∀ {fs : List Fd} {c : List Value} {s : List (Option Addr × List G)}, FitsF fs c s → c.length = fs.length ∧ s.length = (sls fs).length
  | [], c, s, h => by obtain ⟨rfl, rfl⟩ := h; simp [sls]
  | .int k :: fs, [], s, h => h.elim
  | .int k :: fs, v :: c, s, h => by have := FitsF.subs h.2; simp [sls, this]
  | .bool :: fs, [], s, h => h.elim
  | .bool :: fs, v :: c, s, h => by have := FitsF.subs h.2; simp [sls, this]
  | .str :: fs, [], s, h => h.elim
  | .str :: fs, v :: c, s, h => by have := FitsF.subs h.2; simp [sls, this]
  | .sl e z :: fs, [], s, h => h.elim
  | .sl e z :: fs, v :: c, [], h => h.elim
  | .sl e z :: fs, v :: c, x :: s, h => by have := FitsF.subs h.2; simp [sls, this]

theorem FitsF.append : ∀ {f1 f2 : List Fd} {c1 c2 : List Value} {s1 s2 : List (Option Addr × List G)}, FitsF f1 c1 s1 → FitsF f2 c2 s2 → FitsF (f1 ++ f2) (c1 ++ c2) (s1 ++ s2)
  | [], _, c, _, s, _, h, h2 => by obtain ⟨rfl, rfl⟩ := h; exact h2
  | .int k :: fs, _, [], _, s, _, h, _ => h.elim
  | .int k :: fs, _, v :: c, _, s, _, h, h2 => ⟨h.1, FitsF.append h.2 h2⟩
  | .bool :: fs, _, [], _, s, _, h, _ => h.elim
  | .bool :: fs, _, v :: c, _, s, _, h, h2 => ⟨h.1, FitsF.append h.2 h2⟩
  | .str :: fs, _, [], _, s, _, h, _ => h.elim
  | .str :: fs, _, v :: c, _, s, _, h, h2 => ⟨h.1, FitsF.append h.2 h2⟩
  | .sl e z :: fs, _, [], _, s, _, h, _ => h.elim
  | .sl e z :: fs, _, v :: c, _, [], _, h, _ => h.elim
  | .sl e z :: fs, _, v :: c, _, x :: s, _, h, h2 => ⟨h.1, FitsF.append h.2 h2⟩

/-- A tree of a type, the shapes of the types being given. -/
inductive HasTy (flat : TypeId → List Fd) : TypeId → G → Prop
  | mk (t : TypeId) (c : List Value) (subs : List (Option Addr × List G)) (h : FitsF (flat t) c subs) (hk : ∀ (i : Nat) (e : TypeId) (A : Option Addr) (l : List G) (x : G), (sls (flat t))[i]? = some e → subs[i]? = some (A, l) → x ∈ l → HasTy flat e x) : HasTy flat t (.mk c subs)

/-- The shapes of a program's types. -/
def flatFs (rec : TypeId → Option (List Fd)) (P : Program) : Nat → List Field → Option (List Fd)
  | _, [] => some []
  | o, f :: fs => match rec f.type with
    | none => none
    | some fl => if f.offset = o ∧ P.cellsOf f.type = fl.length then (flatFs rec P (o + fl.length) fs).map (fl ++ ·) else none

def flatOf (P : Program) : Nat → TypeId → Option (List Fd)
  | 0, _ => none
  | n + 1, t => match P.underlying t with
    | some (.int k) => some [.int k]
    | some .bool => some [.bool]
    | some .string => some [.str]
    | some (.slice e) => some [.sl e (P.bytesOf e)]
    | some (.struct fs) => match flatFs (flatOf P n) P 0 fs.toList with
      | none => none
      | some fl => if P.cellsOf t = fl.length then some fl else none
    | _ => none

section
variable {H : Type} {enc : TypeId × Value → H} {P : Program} {W : World} {flat : TypeId → List Fd}

/-- What cells of a shape lead to, as it came in. -/
def Opn (W : World) (flat : TypeId → List Fd) (fs : List Fd) (cs : List Value) : Prop :=
  ∃ subs, FitsF fs cs subs ∧ (∀ (i : Nat) (e : TypeId) (A : Option Addr) (l : List G) (x : G), (sls fs)[i]? = some e → subs[i]? = some (A, l) → x ∈ l → HasTy flat e x) ∧
    ∀ A l, (A, l) ∈ subs → (l ≠ [] → ∃ b o, A = some ⟨b, o, none⟩ ∧ 0 ≤ b ∧ b < W.heap.size ∧ ∀ i x, l[i]? = some x → ∀ j u, x.c[j]? = some u → W.cell? ⟨b, o + i * x.c.length + j, none⟩ = some u) ∧ ∀ x ∈ l, G.In W 0 W.heap.size x

theorem Opn.append {f1 f2 : List Fd} {c1 c2 : List Value} (h1 : Opn W flat f1 c1) (h2 : Opn W flat f2 c2) : Opn W flat (f1 ++ f2) (c1 ++ c2) := by
  obtain ⟨s1, a1, b1, d1⟩ := h1
  obtain ⟨s2, a2, b2, d2⟩ := h2
  refine ⟨s1 ++ s2, a1.append a2, fun i e A l x he hs hx => ?_, fun A l h => ?_⟩
  · rw [sls_append] at he
    have hl := a1.subs.2
    rcases Nat.lt_or_ge i s1.length with hi | hi
    · rw [List.getElem?_append_left hi] at hs
      rw [List.getElem?_append_left (by omega)] at he
      exact b1 i e A l x he hs hx
    · rw [List.getElem?_append_right hi] at hs
      rw [List.getElem?_append_right (by omega), ← hl] at he
      exact b2 _ e A l x he hs hx
  · rcases List.mem_append.1 h with h | h
    · exact d1 A l h
    · exact d2 A l h

theorem Opn.tree {t : TypeId} {cs : List Value} (h : Opn W flat (flat t) cs) : ∃ g : G, cs = g.c ∧ HasTy flat t g ∧ g.In W 0 W.heap.size := by
  obtain ⟨subs, a, b, d⟩ := h
  exact ⟨.mk cs subs, rfl, .mk t cs subs a b, G.in_mk.2 d⟩

theorem hasTy_length {t : TypeId} {g : G} (h : HasTy flat t g) : g.c.length = (flat t).length := by
  cases h with
  | mk t c subs h hk => exact h.subs.1

theorem weights_struct {t : TypeId} {fs : Array Field} (ht : P.underlying t = some (.struct fs)) (ds : List (DataW H)) : (DataW.agg ds).weights P t = DataW.weightsEach P (fs.toList.map (·.type)) ds := by
  rw [DataW.weights, ht]
theorem weights_slice {t e : TypeId} (ht : P.underlying t = some (.slice e)) (es rs : List (DataW H)) : (DataW.slice es rs).weights P t = (es.length + rs.length) * P.bytesOf e :: (DataW.weightsAll P e es ++ DataW.weightsAll P e rs) := by
  rw [DataW.weights, ht]

/-- The fields of a struct, one behind the other. -/
theorem open_fields {S : TypeId → Prop} {rec : TypeId → Option (List Fd)} {R : TypeId → List Value → DataW H × List MemPlace → Prop} (hrec : ∀ t fl cs x, rec t = some fl → (∀ e ∈ sls fl, S e) → R t cs x → (∀ m ∈ x.1.weights P t, m ≤ reachBytes) → Opn W flat fl cs) :
    ∀ (fs : List Field) (o : Nat) (fl : List Fd) (cs : List Value) (xs : List (DataW H × List MemPlace)), flatFs rec P o fs = some fl → (∀ e ∈ sls fl, S e) → xs.length = fs.length → cs.length = o + fl.length →
      (∀ (i : Nat) (f : Field) x, fs[i]? = some f → xs[i]? = some x → R f.type ((cs.drop f.offset).take (P.cellsOf f.type)) x) → (∀ m ∈ DataW.weightsEach P (fs.map (·.type)) (xs.map (·.1)), m ≤ reachBytes) →
      Opn W flat fl (cs.drop o)
  | [], o, fl, cs, xs, h, _, _, hl, _, _ => by
    simp only [flatFs, Option.some.injEq] at h
    subst h
    rw [List.drop_eq_nil_of_le (by simp at hl; omega)]
    exact ⟨[], ⟨rfl, rfl⟩, by simp, by simp⟩
  | f :: fs, o, fl, cs, [], h, _, hx, _, _, _ => by simp at hx
  | f :: fs, o, fl, cs, x :: xs, h, hsl, hx, hl, hR, hw => by
    unfold flatFs at h
    cases hf : rec f.type with
    | none => rw [hf] at h; cases h
    | some f1 =>
      rw [hf] at h
      simp only at h
      split at h
      · rename_i hc
        obtain ⟨rest, hr, rfl⟩ := Option.map_eq_some_iff.1 h
        have h0 := hR 0 f x rfl rfl
        rw [hc.1, hc.2] at h0
        have hw0 : ∀ m ∈ x.1.weights P f.type, m ≤ reachBytes := fun m hm => hw m (by
          rw [List.map_cons, List.map_cons, DataW.weightsEach]
          exact List.mem_append_left _ hm)
        have h1 := hrec f.type f1 _ x hf (fun e he => hsl e (by rw [sls_append]; exact List.mem_append_left _ he)) h0 hw0
        have h2 := open_fields hrec fs (o + f1.length) rest cs xs hr (fun e he => hsl e (by rw [sls_append]; exact List.mem_append_right _ he)) (by simpa using hx) (by simp at hl; omega) (fun i f' x' hf' hx' => hR (i + 1) f' x' (by simpa using hf') (by simpa using hx')) (fun m hm => hw m (by
          rw [List.map_cons, List.map_cons, DataW.weightsEach]
          exact List.mem_append_right _ hm))
        have e : cs.drop o = (cs.drop o).take f1.length ++ cs.drop (o + f1.length) := by
          rw [← List.drop_drop, List.take_append_drop]
        rw [e]
        exact h1.append h2
      · cases h

/-- Whatever came in of a type of a known shape is a tree. -/
theorem open_flat {S : TypeId → Prop} (hS : ∀ t, S t → flatOf P 6 t = some (flat t)) (hK : ∀ t, S t → ∀ e ∈ sls (flat t), S e) (hC : ∀ t, S t → P.cellsOf t = (flat t).length ∧ 0 < (flat t).length) (fuel : Nat) :
    ∀ (n : Nat) (t : TypeId) (fl : List Fd), (∀ e ∈ sls fl, S e) → flatOf P n t = some fl → ∀ (cs : List Value) (x : DataW H × List MemPlace), DataW.trod enc P W 0 (fun _ => true) true fuel t cs = some x → (∀ m ∈ x.1.weights P t, m ≤ reachBytes) → Opn W flat fl cs := by
  induction fuel using Nat.strongRecOn with
  | ind fuel IH =>
    intro n
    cases n with
    | zero => intro t fl _ h; cases h
    | succ n =>
      intro t fl hsl h cs x hx hw
      unfold flatOf at h
      split at h
      · rename_i k hu
        simp only [Option.some.injEq] at h
        subst h
        obtain ⟨m, rfl, rfl, hwf⟩ := DataW.trod_int hu hx
        exact ⟨[], ⟨⟨m, rfl, hwf⟩, rfl, rfl⟩, by simp, by simp⟩
      · rename_i hu
        simp only [Option.some.injEq] at h
        subst h
        obtain ⟨b, rfl, rfl⟩ := DataW.trod_bool hu hx
        exact ⟨[], ⟨⟨b, rfl⟩, rfl, rfl⟩, by simp, by simp⟩
      · rename_i hu
        simp only [Option.some.injEq] at h
        subst h
        obtain ⟨s, rfl, rfl, -⟩ := DataW.trod_string hu hx
        have hs : s.size ≤ 140737488351232 := by
          have := hw s.data.toList.length (by rw [DataW.weights]; simp)
          rw [reach_eq, Array.length_toList] at this
          exact this
        exact ⟨[], ⟨⟨s, rfl, hs⟩, rfl, rfl⟩, by simp, by simp⟩
      · rename_i e hu
        simp only [Option.some.injEq] at h
        subst h
        have hSe : S e := hsl e (by simp [sls])
        rcases DataW.trod_slice hu hx with ⟨rfl, rfl⟩ | ⟨a, len, cap, elems, rest, n', rfl, rfl, rfl, -, hcap, hmax, hel, hat, hsp, -⟩
        · refine ⟨[(none, [])], ⟨⟨0, rfl, Nat.le_refl _, by simp⟩, rfl, rfl⟩, fun i e' A l x _ hs hx' => ?_, fun A l h => ?_⟩
          · cases i with
            | zero => simp at hs; obtain ⟨rfl, rfl⟩ := hs; simp at hx'
            | succ i => simp at hs
          · simp at h; obtain ⟨rfl, rfl⟩ := h; exact ⟨fun h => absurd rfl h, by simp⟩
        · have hlen1 : len * P.bytesOf e ≤ 140737488351232 := by
            have := hw ((elems.length + rest.length) * P.bytesOf e) (by rw [weights_slice hu]; simp)
            rw [reach_eq, hel] at this
            exact Nat.le_trans (Nat.mul_le_mul_right _ (Nat.le_add_right _ _)) this
          have hce := hC e hSe
          have hone : ∀ i, i < len → ∃ g : G, (∀ j u, g.c[j]? = some u → W.cell? ((a.add (i * P.cellsOf e)).add j) = some u) ∧ HasTy flat e g ∧ g.In W 0 W.heap.size := by
            intro i hi
            have h1 := hat i hi
            have h2 : elems[i]? = some (elems[i]'(by omega)) := List.getElem?_eq_getElem (by omega)
            rw [h2] at h1
            obtain ⟨cs', hc, ht'⟩ := Option.bind_eq_some_iff.1 h1
            obtain ⟨g, rfl, hty, hin⟩ := Opn.tree (IH n' (by omega) 6 e (flat e) (hK e hSe) (hS e hSe) cs' _ ht' (fun m hm => hw m (by
              rw [weights_slice hu]
              refine List.mem_cons_of_mem _ (List.mem_append_left _ ?_)
              exact mem_weightsAll (List.mem_map_of_mem (List.getElem_mem _)) hm)))
            obtain ⟨-, hcl, hcell⟩ := World.cells?_some hc
            refine ⟨g, fun j u hu => ?_, hty, hin⟩
            have hj : j < g.c.length := (List.getElem?_eq_some_iff.1 hu).1
            rw [hcell j (by rw [hce.1, ← hasTy_length hty]; exact hj), hu]
          obtain ⟨l, hl, hq⟩ := choose_list len hone
          subst hl
          obtain ⟨b, o, sp⟩ := a
          refine ⟨[(some ⟨b, o, sp⟩, l)], ⟨⟨cap, rfl, hcap, hlen1⟩, rfl, rfl⟩, fun i e' A l' x he hs hx' => ?_, fun A l' h => ?_⟩
          · cases i with
            | zero =>
              simp [sls] at hs he
              obtain ⟨rfl, rfl⟩ := hs
              subst he
              obtain ⟨k, hk, rfl⟩ := List.mem_iff_getElem.1 hx'
              exact (hq k _ (List.getElem?_eq_getElem hk)).2.1
            | succ i => simp at hs
          · simp at h
            obtain ⟨rfl, rfl⟩ := h
            refine ⟨fun hne => ?_, fun x hx' => ?_⟩
            · have hlp : 0 < l'.length := List.length_pos_iff.2 hne
              obtain ⟨hc0, hty0, -⟩ := hq 0 _ (List.getElem?_eq_getElem hlp)
              have hcl0 : 0 < (l'[0]).c.length := by rw [hasTy_length hty0]; exact hce.2
              have hcc := hc0 0 _ (List.getElem?_eq_getElem hcl0)
              have hspot : sp = none := by simpa [Addr.add] using World.cell?_spot hcc
              subst hspot
              have hlt := cell_lt hcc
              refine ⟨b, o, rfl, Nat.zero_le _, by simpa [Addr.add] using hlt, fun i x hx j u hu => ?_⟩
              have hqi := hq i x hx
              have := hqi.1 j u hu
              rw [add_at, add_at, hce.1, ← hasTy_length hqi.2.1] at this
              exact this
            · obtain ⟨k, hk, rfl⟩ := List.mem_iff_getElem.1 hx'
              exact (hq k _ (List.getElem?_eq_getElem hk)).2.2
      · rename_i fs hu
        cases hff : flatFs (flatOf P n) P 0 fs.toList with
        | none => rw [hff] at h; cases h
        | some fl' =>
          rw [hff] at h
          simp only at h
          split at h
          · rename_i hcl
            simp only [Option.some.injEq] at h
            subst h
            obtain ⟨xs, n', rfl, rfl, hlen, hxs, hg⟩ := DataW.trod_struct hu hx
            have := open_fields (H := H) (P := P) (W := W) (flat := flat) (S := S) (rec := flatOf P n) (R := fun t cs x => DataW.trod enc P W 0 (fun _ => true) true n' t cs = some x)
              (fun t fl cs x h1 h5 h2 h3 => IH n' (by omega) n t fl h5 h1 cs x h2 h3)
              fs.toList 0 fl' cs xs hff hsl (by simpa using hxs) (by rw [hlen, hcl]; simp) (fun i f x hf hx' => by rw [hg i f (by simpa using hf)]; exact hx') (fun m hm => hw m (by rw [weights_struct hu]; exact hm))
            rw [List.drop_zero] at this
            exact this
          · cases h
      · cases h
end

end Go.Proofs.Ytnddfiohofnbaaa

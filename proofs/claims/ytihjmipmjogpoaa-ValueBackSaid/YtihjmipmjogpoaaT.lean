/- Plain trees: what a value of the program is as data (V), and how it lies in memory (T): no program in sight. -/
import Derived.WalkKit
import Derived.WalkSpells
import Derived.Deep.Draws
import Derived.Laws.Rows
namespace Go.Proofs.Ytihjmipmjogpoaa
open Go.RowKit

/-- A value as plain data: kind, number, text, list, reference. -/
inductive V where
  | mk (k n : Int) (s : ByteArray) (l : List V) (r : Int)

/-- A value as it lies in memory: besides, where its list lies, and the list's capacity. -/
inductive T where
  | mk (k n : Int) (s : ByteArray) (A : Option Addr) (cap : Nat) (l : List T) (r : Int)

/-- The plain data of a value in memory. -/
def T.v : T → V
  | .mk k n s _ _ l r => .mk k n s (l.map T.v) r
termination_by t => t

theorem T.v_mk (k n : Int) (s : ByteArray) (A : Option Addr) (cap : Nat) (l : List T) (r : Int) : (T.mk k n s A cap l r).v = .mk k n s (l.map T.v) r := by
  rw [T.v]

/-- The five cells of a value. -/
def T.cells : T → List Value
  | .mk k n s A cap l r => [.int .u8 k, .int .i64 n, .string s, .slice A l.length cap, .int .i64 r]

/-- A value as the program handles it. -/
def T.val : T → Value
  | .mk k n s A cap l r => .agg #[.int .u8 k, .int .i64 n, .string s, .slice A l.length cap, .int .i64 r]

/-- Five cells in a row. -/
def Five (w : World) (b o : Nat) (t : T) : Prop := ∀ j u, t.cells[j]? = some u → w.cell? ⟨b, o + j, none⟩ = some u

/-- The bounds of a value's own fields. -/
structure Fit (k n : Int) (s : ByteArray) (len cap : Nat) (r : Int) : Prop where
  k0 : 0 ≤ k
  k1 : k < 256
  n0 : -9223372036854775808 ≤ n
  n1 : n ≤ 9223372036854775807
  s1 : s.size ≤ 140737488351232
  len1 : len * 64 ≤ 140737488351232
  cap1 : len ≤ cap
  r0 : -9223372036854775808 ≤ r
  r1 : r ≤ 9223372036854775807

/-- A tree lies in the blocks from lo on, below hi. -/
def T.In (w : World) (lo hi : Nat) : T → Prop
  | .mk k n s A cap l r => Fit k n s l.length cap r ∧ (l ≠ [] → ∃ b o, A = some ⟨b, o, none⟩ ∧ lo ≤ b ∧ b < hi ∧ ∀ i x, l[i]? = some x → Five w b (o + i * 5) x) ∧ ∀ x ∈ l, T.In w lo hi x
termination_by t => t

theorem T.in_mk {w : World} {lo hi : Nat} {k n : Int} {s : ByteArray} {A : Option Addr} {cap : Nat} {l : List T} {r : Int} :
    (T.mk k n s A cap l r).In w lo hi ↔ Fit k n s l.length cap r ∧ (l ≠ [] → ∃ b o, A = some ⟨b, o, none⟩ ∧ lo ≤ b ∧ b < hi ∧ ∀ i x, l[i]? = some x → Five w b (o + i * 5) x) ∧ ∀ x ∈ l, x.In w lo hi := by
  rw [T.In]

/-- Induction over a tree: from its parts to it. -/
theorem T.ind {p : T → Prop} (h : ∀ k n s A cap l r, (∀ x ∈ l, p x) → p (.mk k n s A cap l r)) (t : T) : p t :=
  T.rec (motive_1 := p) (motive_2 := fun l => ∀ x ∈ l, p x) (fun k n s A cap l r ih => h k n s A cap l r ih) (by simp) (fun x l hx hl => by
    intro y hy
    rcases List.mem_cons.1 hy with rfl | hy
    · exact hx
    · exact hl y hy) t

theorem V.ind {p : V → Prop} (h : ∀ k n s l r, (∀ x ∈ l, p x) → p (.mk k n s l r)) (v : V) : p v :=
  V.rec (motive_1 := p) (motive_2 := fun l => ∀ x ∈ l, p x) (fun k n s l r ih => h k n s l r ih) (by simp) (fun x l hx hl => by
    intro y hy
    rcases List.mem_cons.1 hy with rfl | hy
    · exact hx
    · exact hl y hy) v

/-- What lies in a range of blocks lies there in every world that has these blocks. -/
theorem T.In.keep {w w' : World} {lo hi : Nat} (hk : ∀ b o, lo ≤ b → b < hi → w'.cell? ⟨b, o, none⟩ = w.cell? ⟨b, o, none⟩) (t : T) : t.In w lo hi → t.In w' lo hi := by
  induction t using T.ind with
  | h k n s A cap l r ih =>
    rw [T.in_mk, T.in_mk]
    rintro ⟨h1, h2, h3⟩
    refine ⟨h1, fun hl => ?_, fun x hx => ih x hx (h3 x hx)⟩
    obtain ⟨b, o, rfl, hb0, hb1, hc⟩ := h2 hl
    exact ⟨b, o, rfl, hb0, hb1, fun i x hx j u hu => (hk b _ hb0 hb1).trans (hc i x hx j u hu)⟩

theorem T.In.below {w w' : World} {lo hi B : Nat} {t : T} (h : t.In w lo hi) (hb : Below B w w') (hB : hi ≤ B) : t.In w' lo hi :=
  T.In.keep (fun b o _ h1 => hb.cell (p := ⟨b, o, none⟩) (Nat.lt_of_lt_of_le h1 hB)) t h

theorem T.In.more {w : World} {lo hi lo' hi' : Nat} (hl : lo' ≤ lo) (hh : hi ≤ hi') (t : T) : t.In w lo hi → t.In w lo' hi' := by
  induction t using T.ind with
  | h k n s A cap l r ih =>
    rw [T.in_mk, T.in_mk]
    rintro ⟨h1, h2, h3⟩
    refine ⟨h1, fun hl' => ?_, fun x hx => ih x hx (h3 x hx)⟩
    obtain ⟨b, o, rfl, hb0, hb1, hc⟩ := h2 hl'
    exact ⟨b, o, rfl, by omega, by omega, hc⟩

/-- A fact kept from the walk. -/
theorem hide {p : Prop} (h : p) : Hid p := h

/-! ### A block that is known whole -/
def Blk (w : World) (g : Nat) (t : TypeId) (cs : Array Value) : Prop := w.heap[g]? = some (.cells cs t (0, 0))

section
variable {w w' : World} {g : Nat} {t : TypeId} {cs : Array Value}
theorem Blk.lt (h : Blk w g t cs) : g < w.heap.size := by
  rcases Nat.lt_or_ge g w.heap.size with hlt | hge
  · exact hlt
  · unfold Blk at h; rw [Array.getElem?_eq_none hge] at h; cases h
theorem Blk.cell (h : Blk w g t cs) (i : Nat) : w.cell? ⟨g, i, none⟩ = cs[i]? := cell_of_row w g i cs t (0, 0) h
theorem Blk.frozen (h : Blk w g t cs) (i : Nat) : w.frozen? ⟨g, i, none⟩ = false := by
  unfold Blk at h
  simp [World.frozen?, h]
theorem Blk.new (w : World) (t : TypeId) (cs : Array Value) : Blk (w.alloc (.cells cs t)) w.heap.size t cs := heap_alloc_new w _
theorem Blk.new' (w : World) (t : TypeId) (cs : Array Value) {g : Nat} (h : w.heap.size = g) : Blk (w.alloc (.cells cs t)) g t cs := by subst h; exact Blk.new w t cs
theorem Blk.drew (h : Blk w g t cs) : Blk w.drew g t cs := h
theorem Blk.drewN (h : Blk w g t cs) (n : Nat) : Blk (w.drewN n) g t cs := h
theorem Blk.alloc (h : Blk w g t cs) (o : Obj) : Blk (w.alloc o) g t cs := (Below.heap_alloc w o g h.lt).trans h
theorem Blk.set_ (h : Blk w g t cs) (i : Nat) (u : Value) : Blk (w.setCell ⟨g, i, none⟩ u) g t (cs.setIfInBounds i u) := by
  unfold Blk at h ⊢
  simp [World.setCell, Array.getElem?_modify, h]
theorem Blk.far (h : Blk w g t cs) {p : Addr} (hp : g ≠ p.block) (u : Value) : Blk (w.setCell p u) g t cs := (Below.heap_setCell w p u g hp).trans h
theorem Blk.ne_ {g' : Nat} {t' : TypeId} {cs' : Array Value} (h : Blk w g t cs) (h' : Blk w g' t' cs') (hne : t ≠ t') : g ≠ g' := by
  rintro rfl
  unfold Blk at h h'
  rw [h] at h'
  injection h' with h'
  injection h' with _ ht
  exact hne ht
end

/-! ### Frames: which old blocks may have turned -/

/-- Of the blocks that there were, those of S alone may have turned. -/
structure Fr (S : Nat → Prop) (w w' : World) : Prop where
  os : w'.os = w.os
  tape : w'.tape = w.tape
  output : w'.output = w.output
  size : w.heap.size ≤ w'.heap.size
  block : ∀ b, b < w.heap.size → ¬ S b → w'.heap[b]? = w.heap[b]?

/-- No block. -/
def No (_ : Nat) : Prop := False

section
variable {S S' : Nat → Prop} {a b c w w' : World}

theorem Fr.refl (S : Nat → Prop) (w : World) : Fr S w w := ⟨rfl, rfl, rfl, Nat.le_refl _, fun _ _ _ => rfl⟩

theorem Fr.trans' (h : Fr S a b) (k : Fr S' b c) (hs : ∀ i, i < a.heap.size → S' i → S i) : Fr S a c :=
  ⟨k.os.trans h.os, k.tape.trans h.tape, k.output.trans h.output, Nat.le_trans h.size k.size, fun i hi hn =>
    (k.block i (Nat.lt_of_lt_of_le hi h.size) (fun hS => hn (hs i hi hS))).trans (h.block i hi hn)⟩

theorem Fr.trans (h : Fr S a b) (k : Fr S b c) : Fr S a c := h.trans' k fun _ _ h => h

theorem Fr.mono (h : Fr S a b) (hs : ∀ i, i < a.heap.size → S i → S' i) : Fr S' a b := (Fr.refl S' a).trans' h hs

theorem Fr.no (h : Fr No a b) : Fr S a b := h.mono fun _ _ h => h.elim

theorem Fr.thenNo (h : Fr S a b) (k : Fr No b c) : Fr S a c := h.trans' k fun _ _ h => h.elim

theorem Fr.drew (h : Fr S a w) : Fr S a w.drew := ⟨h.os, h.tape, h.output, h.size, h.block⟩

theorem Fr.drewN (h : Fr S a w) (n : Nat) : Fr S a (w.drewN n) := ⟨h.os, h.tape, h.output, h.size, h.block⟩

theorem Fr.alloc (h : Fr S a w) (o : Obj) : Fr S a (w.alloc o) :=
  h.trans' (S' := No) ⟨rfl, rfl, rfl, by simp, fun k hk _ => Below.heap_alloc _ _ _ hk⟩ fun _ _ h => h.elim

theorem Fr.set (h : Fr S a w) {p : Addr} (hp : p.block < a.heap.size → S p.block) (u : Value) : Fr S a (w.setCell p u) :=
  ⟨h.os, h.tape, h.output, by simpa [World.setCell] using h.size, fun i hi hn => (Below.heap_setCell _ _ _ _ (by rintro rfl; exact hn (hp hi))).trans (h.block i hi hn)⟩

theorem Fr.setNew (h : Fr S a w) {p : Addr} (hp : a.heap.size ≤ p.block) (u : Value) : Fr S a (w.setCell p u) :=
  h.set (fun hlt => by omega) u

theorem Fr.grown (h : Fr S a w) {row : Option Nat} (hg : w.grownBy w' row) (hr : ∀ k, row = some k → k < a.heap.size → S k) : Fr S a w' :=
  ⟨hg.os.trans h.os, hg.tape.trans h.tape, hg.output.trans h.output, Nat.le_trans h.size hg.size, fun i hi hn =>
    (hg.block i (Nat.lt_of_lt_of_le hi h.size) (fun e => hn (hr i e.symm hi))).trans (h.block i hi hn)⟩

theorem Fr.below (h : Fr S a w) {B : Nat} (hB : B ≤ a.heap.size) (hs : ∀ i, i < B → ¬ S i) : Below B a w :=
  ⟨h.os, h.tape, h.output, h.size, fun k hk => h.block k (by omega) (hs k hk)⟩

theorem Fr.noBelow (h : Fr No a w) : Below a.heap.size a w := h.below (Nat.le_refl _) fun _ _ h => h

theorem Fr.ofBelow (h : Below a.heap.size a w) : Fr No a w := ⟨h.os, h.tape, h.output, h.size, fun b hb _ => h.block b hb⟩

theorem Fr.cell (h : Fr S a w) {b o : Nat} {s : Option Nat} (hb : b < a.heap.size) (hn : ¬ S b) : w.cell? ⟨b, o, s⟩ = a.cell? ⟨b, o, s⟩ :=
  World.cell?_of_block (w := a) (h.block b hb hn)

theorem Fr.frozen (h : Fr S a w) {b o : Nat} {s : Option Nat} (hb : b < a.heap.size) (hn : ¬ S b) : w.frozen? ⟨b, o, s⟩ = a.frozen? ⟨b, o, s⟩ :=
  World.frozen?_of_block (w := a) (h.block b hb hn)

theorem Blk.fr {g : Nat} {t : TypeId} {cs : Array Value} (h : Blk a g t cs) (hf : Fr S a w) (hn : ¬ S g) : Blk w g t cs := (hf.block g h.lt hn).trans h

theorem Fr.cells (h : Fr No a w) : ∀ b o, b < a.heap.size → w.cell? ⟨b, o, none⟩ = a.cell? ⟨b, o, none⟩ := fun _ _ hb => h.cell hb fun h => h
theorem Fr.frozens (h : Fr No a w) : ∀ b o, b < a.heap.size → w.frozen? ⟨b, o, none⟩ = a.frozen? ⟨b, o, none⟩ := fun _ _ hb => h.frozen hb fun h => h

theorem T.In.fr {lo hi : Nat} {t : T} (h : t.In a lo hi) (hf : Fr S a w) (hh : hi ≤ a.heap.size) (hs : ∀ i, lo ≤ i → i < hi → ¬ S i) : t.In w lo hi :=
  T.In.keep (fun b o h0 h1 => hf.cell (by omega) (hs b h0 h1)) t h

theorem T.In.no {lo hi : Nat} {t : T} (h : t.In a lo hi) (hf : Fr No a w) (hh : hi ≤ a.heap.size) : t.In w lo hi := h.fr hf hh fun _ _ _ h => h
end

/-- One part of a list, as the walk reads it. -/
theorem T.elem {w : World} {lo hi : Nat} {k n : Int} {s : ByteArray} {A : Option Addr} {cap : Nat} {l : List T} {r : Int} (h : (T.mk k n s A cap l r).In w lo hi) {j : Nat} (hj : j < l.length) :
    ∃ b o k1 n1 s1 A1 cap1 l1 r1, A = some ⟨b, o, none⟩ ∧ lo ≤ b ∧ b < hi ∧ l[j] = T.mk k1 n1 s1 A1 cap1 l1 r1 ∧ (T.mk k1 n1 s1 A1 cap1 l1 r1).In w lo hi ∧
      w.cell? ⟨b, o + j * 5, none⟩ = some (.int .u8 k1) ∧ w.cell? ⟨b, o + j * 5 + 1, none⟩ = some (.int .i64 n1) ∧ w.cell? ⟨b, o + j * 5 + 2, none⟩ = some (.string s1) ∧
      w.cell? ⟨b, o + j * 5 + 3, none⟩ = some (.slice A1 l1.length cap1) ∧ w.cell? ⟨b, o + j * 5 + 4, none⟩ = some (.int .i64 r1) := by
  obtain ⟨_, hA, hs⟩ := T.in_mk.1 h
  obtain ⟨b, o, rfl, h0, h1, hc⟩ := hA (by rintro rfl; simp at hj)
  have h5 := hc j l[j] (List.getElem?_eq_getElem hj)
  have hin := hs l[j] (List.getElem_mem hj)
  cases hx : l[j] with
  | mk k1 n1 s1 A1 cap1 l1 r1 =>
    rw [hx] at h5 hin
    exact ⟨b, o, k1, n1, s1, A1, cap1, l1, r1, rfl, h0, h1, rfl, hin, h5 0 _ rfl, h5 1 _ rfl, h5 2 _ rfl, h5 3 _ rfl, h5 4 _ rfl⟩

/-! ### Values in memory of their own -/

/-- The blocks of a tree's lists, each as often as it is met. -/
def T.blocks : T → List Nat
  | .mk _ _ _ A _ l _ => (if l.isEmpty then [] else (A.map Addr.block).toList) ++ (l.map T.blocks).flatten
termination_by t => t

theorem T.blocks_mk (k n : Int) (s : ByteArray) (A : Option Addr) (cap : Nat) (l : List T) (r : Int) :
    (T.mk k n s A cap l r).blocks = (if l.isEmpty then [] else (A.map Addr.block).toList) ++ (l.map T.blocks).flatten := by rw [T.blocks]

theorem T.In.blocks {w : World} {lo hi : Nat} (t : T) : t.In w lo hi → ∀ b ∈ t.blocks, lo ≤ b ∧ b < hi := by
  induction t using T.ind with
  | h k n s A cap l r ih =>
    rw [T.in_mk, T.blocks_mk]
    rintro ⟨_, h2, h3⟩ b hb
    rcases List.mem_append.1 hb with hb | hb
    · cases l with
      | nil => simp at hb
      | cons x l =>
        obtain ⟨c, o, rfl, h0, h1, _⟩ := h2 (by simp)
        simp at hb
        subst hb
        exact ⟨h0, h1⟩
    · obtain ⟨bs, hbs, hb⟩ := List.mem_flatten.1 hb
      obtain ⟨x, hx, rfl⟩ := List.mem_map.1 hbs
      exact ih x hx (h3 x hx) b hb

/-- A tree in memory of its own: no block is met twice, no cell is frozen. -/
structure T.Ow (w : World) (lo hi : Nat) (t : T) : Prop where
  inn : t.In w lo hi
  nodup : t.blocks.Nodup
  free : ∀ b ∈ t.blocks, ∀ o, w.frozen? ⟨b, o, none⟩ = false

/-- Trees in memory of their own, apart from each other. -/
structure Forest (w : World) (lo hi : Nat) (l : List T) : Prop where
  inn : ∀ x ∈ l, x.In w lo hi
  nodup : (l.map T.blocks).flatten.Nodup
  free : ∀ b ∈ (l.map T.blocks).flatten, ∀ o, w.frozen? ⟨b, o, none⟩ = false

section
variable {S : Nat → Prop} {w w' : World} {lo hi : Nat} {t : T} {l : List T}

theorem T.Ow.fr (h : t.Ow w lo hi) (hf : Fr S w w') (hh : hi ≤ w.heap.size) (hs : ∀ i, lo ≤ i → i < hi → ¬ S i) : t.Ow w' lo hi :=
  ⟨h.inn.fr hf hh hs, h.nodup, fun b hb o => by
    have := T.In.blocks t h.inn b hb
    rw [hf.frozen (by omega) (hs b this.1 this.2)]
    exact h.free b hb o⟩

theorem T.Ow.no (h : t.Ow w lo hi) (hf : Fr No w w') (hh : hi ≤ w.heap.size) : t.Ow w' lo hi := h.fr hf hh fun _ _ _ h => h

theorem T.Ow.more {lo' hi' : Nat} (h : t.Ow w lo hi) (hl : lo' ≤ lo) (hh : hi ≤ hi') : t.Ow w lo' hi' := ⟨T.In.more hl hh t h.inn, h.nodup, h.free⟩

theorem Forest.nil (w : World) (lo hi : Nat) : Forest w lo hi [] := ⟨by simp, by simp, by simp⟩

theorem Forest.blocks (h : Forest w lo hi l) : ∀ b ∈ (l.map T.blocks).flatten, lo ≤ b ∧ b < hi := fun b hb => by
  obtain ⟨bs, hbs, hb⟩ := List.mem_flatten.1 hb
  obtain ⟨x, hx, rfl⟩ := List.mem_map.1 hbs
  exact T.In.blocks x (h.inn x hx) b hb

/-- In another world: whatever has turned is none of the forest's blocks. -/
theorem Forest.fr' (h : Forest w lo hi l) (hf : Fr S w w') (hh : hi ≤ w.heap.size) (hs : ∀ b ∈ (l.map T.blocks).flatten, ¬ S b) (hin : ∀ x ∈ l, x.In w' lo hi) : Forest w' lo hi l :=
  ⟨hin, h.nodup, fun b hb o => by
    have := h.blocks b hb
    rw [hf.frozen (by omega) (hs b hb)]
    exact h.free b hb o⟩

theorem Forest.fr (h : Forest w lo hi l) (hf : Fr S w w') (hh : hi ≤ w.heap.size) (hs : ∀ i, lo ≤ i → i < hi → ¬ S i) : Forest w' lo hi l :=
  h.fr' hf hh (fun b hb => hs b (h.blocks b hb).1 (h.blocks b hb).2) fun x hx => (h.inn x hx).fr hf hh hs

theorem Forest.no (h : Forest w lo hi l) (hf : Fr No w w') (hh : hi ≤ w.heap.size) : Forest w' lo hi l := h.fr hf hh fun _ _ _ h => h

theorem Forest.more {lo' hi' : Nat} (h : Forest w lo hi l) (hl : lo' ≤ lo) (hh : hi ≤ hi') : Forest w lo' hi' l := ⟨fun x hx => T.In.more hl hh x (h.inn x hx), h.nodup, h.free⟩

/-- A tree more, in blocks beyond. -/
theorem Forest.snoc {hi' : Nat} (h : Forest w lo hi l) (hx : t.Ow w hi hi') (h0 : lo ≤ hi) (h1 : hi ≤ hi') : Forest w lo hi' (l ++ [t]) := by
  refine ⟨fun x hx' => ?_, ?_, fun b hb => ?_⟩
  · rcases List.mem_append.1 hx' with hx' | hx'
    · exact T.In.more (Nat.le_refl _) h1 x (h.inn x hx')
    · simp at hx'; subst hx'; exact T.In.more h0 (Nat.le_refl _) _ hx.inn
  · rw [List.map_append, List.flatten_append, List.nodup_append]
    refine ⟨h.nodup, by simpa using hx.nodup, fun a ha b hb => ?_⟩
    simp at hb
    have h2 := h.blocks a ha
    have h3 := T.In.blocks t hx.inn b hb
    omega
  · rw [List.map_append, List.flatten_append, List.mem_append] at hb
    rcases hb with hb | hb
    · exact h.free b hb
    · simp at hb; exact hx.free b hb

end

/-- The cells of a block are those of some trees, one behind the other. -/
def RowIs (cs : Array Value) (o : Nat) (l : List T) : Prop := ∀ i x, l[i]? = some x → ∀ c u, x.cells[c]? = some u → cs[o + i * 5 + c]? = some u

theorem RowIs.nil (cs : Array Value) (o : Nat) : RowIs cs o [] := fun i x h => by simp at h

theorem T.cells_length (t : T) : t.cells.length = 5 := by cases t; rfl

theorem RowIs.snoc {cs cs' : Array Value} {o : Nat} {l : List T} {t : T} (h : RowIs cs o l) (hk : ∀ i, i < o + l.length * 5 → cs'[i]? = cs[i]?) (ht : ∀ c u, t.cells[c]? = some u → cs'[o + l.length * 5 + c]? = some u) :
    RowIs cs' o (l ++ [t]) := by
  intro i x hx c u hu
  have hc : c < 5 := by
    have := (List.getElem?_eq_some_iff.1 hu).1
    rw [T.cells_length] at this
    exact this
  rcases Nat.lt_or_ge i l.length with hi | hi
  · rw [List.getElem?_append_left hi] at hx
    rw [hk _ (by omega)]
    exact h i x hx c u hu
  · rw [List.getElem?_append_right hi] at hx
    have : i - l.length = 0 := by
      rcases Nat.eq_zero_or_pos (i - l.length) with h0 | h0
      · exact h0
      · rw [List.getElem?_eq_none (by simp; omega)] at hx; cases hx
    have hil : i = l.length := by omega
    subst hil
    simp at hx
    subst hx
    exact ht c u hu

/-- A value whose list lies in a block known whole. -/
theorem T.ow_mk {w : World} {lo hi g o cap : Nat} {k n : Int} {s : ByteArray} {l : List T} {r : Int} {cs : Array Value} (hf : Fit k n s l.length cap r) (hF : Forest w lo hi l) (hb : Blk w g 27 cs) (hr : RowIs cs o l)
    (h0 : lo ≤ g) (h1 : g < hi) (hg : g ∉ (l.map T.blocks).flatten) : (T.mk k n s (some ⟨g, o, none⟩) cap l r).Ow w lo hi := by
  refine ⟨T.in_mk.2 ⟨hf, fun _ => ⟨g, o, rfl, h0, h1, fun i x hx c u hu => ?_⟩, hF.inn⟩, ?_, ?_⟩
  · rw [hb.cell]; exact hr i x hx c u hu
  · rw [T.blocks_mk]
    cases l with
    | nil => simp
    | cons x l => 
      simp only [List.isEmpty_cons, Bool.false_eq_true, if_false, Option.map_some, Option.toList_some, List.singleton_append, List.nodup_cons]
      exact ⟨hg, hF.nodup⟩
  · rw [T.blocks_mk]
    intro b hb' o'
    rcases List.mem_append.1 hb' with hb' | hb'
    · cases l with
      | nil => simp at hb'
      | cons x l => simp at hb'; subst hb'; exact hb.frozen o'
    · exact hF.free b hb' o'

/-- A value without a list. -/
theorem T.ow_nil {w : World} {lo hi cap : Nat} {k n : Int} {s : ByteArray} {A : Option Addr} {r : Int} (hf : Fit k n s 0 cap r) : (T.mk k n s A cap [] r).Ow w lo hi := by
  refine ⟨T.in_mk.2 ⟨hf, fun h => absurd rfl h, by simp⟩, ?_, ?_⟩
  · rw [T.blocks_mk]; simp
  · rw [T.blocks_mk]; simp

/-- Five stores in a row. -/
theorem Blk.five {w : World} {g : Nat} {t : TypeId} {cs : Array Value} (h : Blk w g t cs) (o : Nat) (a b c d e : Value) :
    Blk (((((w.setCell ⟨g, o, none⟩ a).setCell ⟨g, o + 1, none⟩ b).setCell ⟨g, o + 2, none⟩ c).setCell ⟨g, o + 3, none⟩ d).setCell ⟨g, o + 4, none⟩ e) g t
      (((((cs.setIfInBounds o a).setIfInBounds (o + 1) b).setIfInBounds (o + 2) c).setIfInBounds (o + 3) d).setIfInBounds (o + 4) e) :=
  ((((h.set_ _ _).set_ _ _).set_ _ _).set_ _ _).set_ _ _

theorem Fr.five {S : Nat → Prop} {a w : World} (h : Fr S a w) {g : Nat} (hg : g < a.heap.size → S g) (o : Nat) (x0 x1 x2 x3 x4 : Value) :
    Fr S a (((((w.setCell ⟨g, o, none⟩ x0).setCell ⟨g, o + 1, none⟩ x1).setCell ⟨g, o + 2, none⟩ x2).setCell ⟨g, o + 3, none⟩ x3).setCell ⟨g, o + 4, none⟩ x4) :=
  ((((h.set (p := ⟨g, o, none⟩) hg _).set (p := ⟨g, o + 1, none⟩) hg _).set (p := ⟨g, o + 2, none⟩) hg _).set (p := ⟨g, o + 3, none⟩) hg _).set (p := ⟨g, o + 4, none⟩) hg _

/-- A row of trees with one more behind it. -/
theorem RowIs.five {cs : Array Value} {o : Nat} {l : List T} {k n : Int} {s : ByteArray} {A : Option Addr} {cap : Nat} {l1 : List T} {r : Int} (h : RowIs cs o l) (hs : o + l.length * 5 + 5 ≤ cs.size) :
    RowIs (((((cs.setIfInBounds (o + l.length * 5) (.int .u8 k)).setIfInBounds (o + l.length * 5 + 1) (.int .i64 n)).setIfInBounds (o + l.length * 5 + 2) (.string s)).setIfInBounds (o + l.length * 5 + 3) (.slice A l1.length cap)).setIfInBounds
      (o + l.length * 5 + 4) (.int .i64 r)) o (l ++ [T.mk k n s A cap l1 r]) := by
  refine h.snoc (fun i hi => ?_) fun c u hu => ?_
  · simp only [Array.getElem?_setIfInBounds]
    repeat rw [if_neg (by omega)]
  · match c, hu with
    | 0, hu => simp [T.cells] at hu; subst hu; simp [Array.getElem?_setIfInBounds]; omega
    | 1, hu => simp [T.cells] at hu; subst hu; simp [Array.getElem?_setIfInBounds]; omega
    | 2, hu => simp [T.cells] at hu; subst hu; simp [Array.getElem?_setIfInBounds]; omega
    | 3, hu => simp [T.cells] at hu; subst hu; simp [Array.getElem?_setIfInBounds]; omega
    | 4, hu => simp [T.cells] at hu; subst hu; simp [Array.getElem?_setIfInBounds]; omega

/-- The cells of a block of five. -/
theorem Blk.cells5 {w : World} {g : Nat} {t : TypeId} {a b c d e : Value} (h : Blk w g t #[a, b, c, d, e]) :
    w.cell? ⟨g, 0, none⟩ = some a ∧ w.cell? ⟨g, 1, none⟩ = some b ∧ w.cell? ⟨g, 2, none⟩ = some c ∧ w.cell? ⟨g, 3, none⟩ = some d ∧ w.cell? ⟨g, 4, none⟩ = some e ∧ ∀ i, w.frozen? ⟨g, i, none⟩ = false :=
  ⟨h.cell 0, h.cell 1, h.cell 2, h.cell 3, h.cell 4, h.frozen⟩

end Go.Proofs.Ytihjmipmjogpoaa

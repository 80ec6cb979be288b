/- Texts joined: Wo0, Gm, Fp, Gf1, Gf2, Wo1, Ga. -/
import Derived.Test.YtnddfiohofnbaaaJn3
import Derived.Laws.IdiomRangeMap
import Derived.RangeFuncRecord
import Derived.MapKept
import Derived.Maps.RangeRun
import Derived.Laws.BitsAllLaws
import Derived.LoopN
/- Worlds whose things have no code, names, lists: how they lie in memory. -/
namespace Go.Proofs.Ytnddfiohofnbaaa
open Go.RowKit

theorem lt_of_heap {w : World} {i : Nat} {o : Obj} (h : w.heap[i]? = some o) : i < w.heap.size := by
  rcases Nat.lt_or_ge i w.heap.size with hlt | hge
  · exact hlt
  · rw [Array.getElem?_eq_none hge] at h; cases h

/-! ### Maps by whole numbers -/

theorem get_map {W : World} {B : Nat} {es : Array MapEntry} {c : Nat} (h : W.heap[B]? = some (.map es c)) : (getObj B).run Try.prog W = .ok (.map es c) W := by
  simp [getObj, Sem.run, h]

theorem set_map {W : World} {B : Nat} {es : Array MapEntry} {c : Nat} (o : Obj) (h : W.heap[B]? = some (.map es c)) : (setObj B o).run Try.prog W = .ok () (W.putObj B o) := by
  simp [setObj, Sem.run, h, World.putObj]

theorem findNow_none {n : Int} : ∀ {es : List MapEntry} {i : Nat}, (∀ e ∈ es, ∃ c : Int, e.key = .int .i64 c ∧ n ≠ c) → Instr.findNow (.int .i64) (.int .i64 n) es i = some none
  | [], _, _ => rfl
  | e :: es, i, h => by
    obtain ⟨c, hc, hne⟩ := h e (by simp)
    unfold Instr.findNow
    have : Instr.sameNow (.int .i64) (.int .i64 n) e.key = some false := by rw [hc]; simp [Instr.sameNow]; exact hne
    rw [this]
    exact findNow_none fun e he => h e (by simp [he])

theorem findNow_some {n : Int} : ∀ {es : List MapEntry} {i j : Nat} {e : MapEntry}, (∀ e ∈ es, ∃ c : Int, e.key = .int .i64 c) → es[j]? = some e → e.key = .int .i64 n → (∀ k e', k < j → es[k]? = some e' → e'.key ≠ .int .i64 n) →
    Instr.findNow (.int .i64) (.int .i64 n) es i = some (some (i + j, e.val))
  | [], _, j, e, _, h, _, _ => by simp at h
  | e0 :: es, i, 0, e, _, h, hk, _ => by
    simp at h; subst h
    unfold Instr.findNow
    have : Instr.sameNow (.int .i64) (.int .i64 n) e0.key = some true := by rw [hk]; simp [Instr.sameNow]
    rw [this]; rfl
  | e0 :: es, i, j + 1, e, hall, h, hk, hb => by
    obtain ⟨c, hc⟩ := hall e0 (by simp)
    have hne : n ≠ c := fun h' => hb 0 e0 (by omega) rfl (by rw [hc, h'])
    unfold Instr.findNow
    have : Instr.sameNow (.int .i64) (.int .i64 n) e0.key = some false := by rw [hc]; simp [Instr.sameNow]; exact hne
    rw [this]
    have := findNow_some (n := n) (i := i + 1) (j := j) (fun e he => hall e (List.mem_cons_of_mem _ he)) (by simpa using h) hk (fun k e' hk' he' => hb (k + 1) e' (by omega) (by simpa using he'))
    rw [show i + (j + 1) = i + 1 + j from by omega]
    exact this

section
variable {t el kt : TypeId} {w : World} {B cl : Nat} {es : Array MapEntry}

theorem checkKey_num (hk : Try.prog.underlying kt = some (.int .i64)) (e : Bool) (n : Int) (w : World) : (Instr.checkKey e 10000 kt (.int .i64 n)).run Try.prog w = .ok () w := by
  have : ∀ d, (Instr.checkKey e (d + 1) kt (.int .i64 n)).run Try.prog w = .ok () w := fun d => by simp [Instr.checkKey, run_underlying hk]
  exact this 9999

theorem look_num {z : Value} (hk : Try.prog.underlying kt = some (.int .i64)) (ht : Try.prog.underlying t = some (.map kt el)) (hz : (zeroValue el).run Try.prog w = .ok z w) (n : Int) (hB : w.heap[B]? = some (.map es cl)) (o : Option Nat)
    (hn : o = none → ∀ e ∈ es.toList, ∃ c : Int, e.key = .int .i64 c ∧ n ≠ c) (hs : ∀ j, o = some j → ∃ e, es.toList[j]? = some e ∧ e.key = .int .i64 n ∧ (∀ e ∈ es.toList, ∃ c : Int, e.key = .int .i64 c) ∧ ∀ k e', k < j → es.toList[k]? = some e' → e'.key ≠ .int .i64 n) :
    (Instr.lookup t (.map (some B)) (.int .i64 n) true).run Try.prog w = .ok (match o.bind fun j => es.toList[j]? with | some e => .tuple #[e.val, .bool true] | none => .tuple #[z, .bool false]) w ∧
    (Instr.lookup t (.map (some B)) (.int .i64 n) false).run Try.prog w = .ok (match o.bind fun j => es.toList[j]? with | some e => e.val | none => z) w := by
  unfold Instr.lookup
  cases o with
  | none =>
    have hf := findNow_none (i := 0) (hn rfl)
    constructor <;> simp [run_underlying ht, get_map hB, checkKey_num hk, Instr.findKey, run_underlying hk, hf, Result.andThen, hz]
  | some j =>
    obtain ⟨e, h1, h2, h3, h4⟩ := hs j rfl
    have hf := findNow_some (i := 0) h3 h1 h2 h4
    have h1' : es[j]? = some e := by simpa using h1
    constructor <;> simp [run_underlying ht, get_map hB, checkKey_num hk, Instr.findKey, run_underlying hk, hf, Result.andThen, h1']

/-- A store under a number that isn't there. -/
theorem update_num (hk : Try.prog.underlying kt = some (.int .i64)) (ht : Try.prog.underlying t = some (.map kt el)) (n : Int) (val : Value) (hB : w.heap[B]? = some (.map es cl))
    (h : ∀ e ∈ es.toList, ∃ c : Int, e.key = .int .i64 c ∧ n ≠ c) :
    (Instr.mapUpdate t (.map (some B)) (.int .i64 n) val).run Try.prog w = .ok () (w.putObj B (.map (es.push { key := .int .i64 n, val := val, born := cl }) (cl + 1))) := by
  unfold Instr.mapUpdate
  simp only [Sem.run_bind, run_underlying ht, Result.andThen_ok, get_map hB, checkKey_num hk, Instr.findKey, run_underlying hk, findNow_none h, Sem.run_pure, set_map _ hB]
end

/-- A thing: its kind, home, value, numbers; it has no list of values, no code, no names. -/
structure Th where
  kind : Int
  home : Int
  v : T
  n : Int
  lost : Int
  ofr : Int
  byr : Int
  set : Int
  full : Bool

/-- A thing's cells. -/
def Th.cells (x : Th) : List Value := [.int .u8 x.kind, .int .i64 x.home] ++ (x.v.cells ++ [.slice none 0 0, .int .i64 x.n, .int .i64 x.lost, .int .i64 x.ofr, .int .i64 x.byr, .int .u8 x.set, .bool x.full, .slice none 0 0, .slice none 0 0])

/-- A thing as the program handles it. -/
def Th.val (x : Th) : Value := .agg x.cells.toArray

/-- A world in memory: its block, the maps, the slices; the things 1, 2, .. and where each lies; the facets. -/
structure Wm where
  wb : Nat
  M : Nat
  F : Nat
  P : Option Addr
  pn : Nat
  pc : Nat
  C : Option Addr
  cn : Nat
  cc : Nat
  D : Option Addr
  dc : Nat
  made : List Nat
  th : List (Nat × Th)
  fac : List (Int × Int × Int)

def Wm.cells (m : Wm) : Array Value := #[.slice m.P m.pn m.pc, .slice m.C m.cn m.cc, .map (some m.M), .map (some m.F), .int .i64 (m.th.length : Int), .slice m.D m.made.length m.dc]

/-- The entries of the map of things. -/
def ThsAre (es : List MapEntry) (l : List (Nat × Th)) : Prop :=
  es.length = l.length ∧ ∀ (i : Nat) (e : MapEntry) (x : Nat × Th), es[i]? = some e → l[i]? = some x → e.key = .int .i64 ((i : Int) + 1) ∧ e.val = .pointer (some ⟨x.1, 0, none⟩)

/-- The entries of the map of facets. -/
def FacAre (es : List MapEntry) (l : List (Int × Int × Int)) : Prop :=
  es.length = l.length ∧ ∀ (i : Nat) (e : MapEntry) (x : Int × Int × Int), es[i]? = some e → l[i]? = some x → e.key = .agg #[.int .i64 x.1, .int .u8 x.2.1] ∧ e.val = .int .i64 x.2.2

/-- The stamps of a map's entries are below its clock, and no two alike. -/
def Stm (es : List MapEntry) (cl : Nat) : Prop := (∀ x ∈ es, x.born < cl) ∧ (es.map (·.born)).Nodup

/-- The blocks of a world. -/
def Wm.B (m : Wm) (i : Nat) : Prop := i = m.wb ∨ i = m.M ∨ i = m.F ∨ (Value.slice m.D m.made.length m.dc).ownBlock = some i ∨ ∃ x ∈ m.th, i = x.1 ∨ i ∈ x.2.v.blocks

structure Wm.Ok (m : Wm) (lo : Nat) (W : World) : Prop where
  blk : Blk W m.wb 76 m.cells
  things : ∃ es cl, W.heap[m.M]? = some (.map es cl) ∧ ThsAre es.toList m.th ∧ Stm es.toList cl
  facets : ∃ es cl, W.heap[m.F]? = some (.map es cl) ∧ FacAre es.toList m.fac
  made : W.ownsRow lo 3 1 (.slice m.D m.made.length m.dc) m.made.length (m.made.map fun (n : Nat) => Value.int .i64 (n : Int))
  box : ∀ x ∈ m.th, Blk W x.1 83 x.2.cells.toArray
  vals : ∀ x ∈ m.th, x.2.v.Sh W lo W.heap.size
  lo0 : lo ≤ m.wb ∧ lo ≤ m.M ∧ lo ≤ m.F ∧ ∀ x ∈ m.th, lo ≤ x.1
  mf : m.M ≠ m.F
  dist : m.th.Pairwise fun a b => a.1 ≠ b.1
  len : m.th.length ≤ 100000
  mades : ∀ n ∈ m.made, n ≤ 512
  sides : 1 ≤ m.made.length ∧ m.made.length ≤ 16

section
variable {m : Wm} {lo : Nat} {W W' : World} {S : Nat → Prop}

theorem Wm.Ok.lt (h : m.Ok lo W) : ∀ i, m.B i → lo ≤ i ∧ i < W.heap.size := by
  obtain ⟨es, cl, hm, -⟩ := h.things
  obtain ⟨ef, cf, hf, hfe⟩ := h.facets
  obtain ⟨l0, l1, l2, l3⟩ := h.lo0
  rintro i (rfl | rfl | rfl | hi | ⟨x, hx, rfl | hi⟩)
  · exact ⟨l0, h.blk.lt⟩
  · exact ⟨l1, lt_of_heap hm⟩
  · exact ⟨l2, lt_of_heap hf⟩
  · exact owns_lt h.made i hi
  · exact ⟨l3 x hx, (h.box x hx).lt⟩
  · exact T.In.blocks _ (h.vals x hx).inn i hi

theorem Wm.Ok.fr (h : m.Ok lo W) (f : Fr S W W') (hs : ∀ i, m.B i → ¬ S i) : m.Ok lo W' := by
  obtain ⟨es, cl, hm, he⟩ := h.things
  obtain ⟨ef, cf, hf, hfe⟩ := h.facets
  exact ⟨h.blk.fr f (hs _ (.inl rfl)), ⟨es, cl, (f.block _ (lt_of_heap hm) (hs _ (.inr (.inl rfl)))).trans hm, he⟩, ⟨ef, cf, (f.block _ (lt_of_heap hf) (hs _ (.inr (.inr (.inl rfl))))).trans hf, hfe⟩,
    owns_fr h.made f fun g hg => hs g (.inr (.inr (.inr (.inl hg)))), fun x hx => (h.box x hx).fr f (hs _ (.inr (.inr (.inr (.inr ⟨x, hx, .inl rfl⟩))))),
    fun x hx => ((h.vals x hx).fr f fun b hb => hs b (.inr (.inr (.inr (.inr ⟨x, hx, .inr hb⟩))))).more (Nat.le_refl _) f.size, h.lo0, h.mf, h.dist, h.len, h.mades, h.sides⟩

theorem Wm.Ok.no (h : m.Ok lo W) (f : Fr No W W') : m.Ok lo W' := h.fr f fun _ _ h => h
end

end Go.Proofs.Ytnddfiohofnbaaa

/- Worlds of whatever things: how they lie in memory. -/
namespace Go.Proofs.Ytnddfiohofnbaaa
open Go.RowKit

/-- A world in memory: its block, the maps, the slices; the things by number, where each lies (in the map's order); the facets. -/
structure Gm where
  wb : Nat
  M : Nat
  F : Nat
  P : Option Addr
  pc : Nat
  par : List Int
  C : Option Addr
  cc : Nat
  cut : List Bool
  D : Option Addr
  dc : Nat
  made : List Int
  last : Int
  th : List (Int × Nat × Tg)
  fac : List (Int × Int × Int)

def Gm.cells (m : Gm) : Array Value := #[.slice m.P m.par.length m.pc, .slice m.C m.cut.length m.cc, .map (some m.M), .map (some m.F), .int .i64 m.last, .slice m.D m.made.length m.dc]

/-- The entries of the map of things. -/
def TgsAre (es : List MapEntry) (l : List (Int × Nat × Tg)) : Prop :=
  es.length = l.length ∧ ∀ (i : Nat) (e : MapEntry) (x : Int × Nat × Tg), es[i]? = some e → l[i]? = some x → e.key = .int .i64 x.1 ∧ e.val = .pointer (some ⟨x.2.1, 0, none⟩)

/-- What a thing has lies in the blocks from lo on; none of these is of a type that the world itself uses. -/
structure Tg.St (w : World) (lo : Nat) (x : Tg) : Prop where
  inn : x.In w lo w.heap.size
  tdV : ∀ b, (b ∈ x.v.blocks ∨ b ∈ (T.row x.VA x.vc x.vs).blocks) → ∃ cs, Blk w b 37 cs
  tdC : (G.row x.CA x.code).Td w
  tdN : ∀ b, (∃ a, x.NA = some a ∧ x.names ≠ [] ∧ a.block = b) → ∃ cs, Blk w b 139 cs
  tdM : ∀ y ∈ x.names, ∀ b ∈ y.2.blocks, ∃ cs, Blk w b 37 cs

/-- A block of what a thing has. -/
inductive Tg.Has (x : Tg) (b : Nat) : Prop
  | v (h : b ∈ x.v.blocks)
  | vs (h : b ∈ (T.row x.VA x.vc x.vs).blocks)
  | code (h : (G.row x.CA x.code).Has b)
  | nm (h : ∃ a, x.NA = some a ∧ x.names ≠ [] ∧ a.block = b)
  | nv (y : Nm) (hy : y ∈ x.names) (h : b ∈ y.2.blocks)

theorem Tg.St.ty {w : World} {lo : Nat} {x : Tg} (h : x.St w lo) {b : Nat} (hb : x.Has b) : ∃ e cs, (e = 37 ∨ e = 167 ∨ e = 170 ∨ e = 139 ∨ e = 9) ∧ Blk w b e cs := by
  cases hb with
  | v hb => obtain ⟨cs, h1⟩ := h.tdV b (.inl hb); exact ⟨_, cs, .inl rfl, h1⟩
  | vs hb => obtain ⟨cs, h1⟩ := h.tdV b (.inr hb); exact ⟨_, cs, .inl rfl, h1⟩
  | code hb => exact h.tdC b hb
  | nm hb => obtain ⟨cs, h1⟩ := h.tdN b hb; exact ⟨_, cs, .inr (.inr (.inr (.inl rfl))), h1⟩
  | nv y hy hb => obtain ⟨cs, h1⟩ := h.tdM y hy b hb; exact ⟨_, cs, .inl rfl, h1⟩

theorem Tg.In.has {w : World} {lo hi : Nat} {x : Tg} (h : x.In w lo hi) {b : Nat} (hb : x.Has b) : lo ≤ b ∧ b < hi := by
  cases hb with
  | v hb => exact T.In.blocks _ h.v b hb
  | vs hb => exact T.In.blocks _ h.vs b hb
  | code hb => exact G.In.has hb h.code.inn
  | nm hb =>
    obtain ⟨a, ha, hn, rfl⟩ := hb
    obtain ⟨b, o, hA, h0, h1, -⟩ := h.names.at_ hn
    rw [ha] at hA
    injection hA with hA
    subst hA
    exact ⟨h0, h1⟩
  | nv y hy hb => exact T.In.blocks _ (h.names.inn y hy).2 b hb

theorem T.In.keepT {w w' : World} {lo hi : Nat} (t : T) : t.In w lo hi → (∀ b ∈ t.blocks, ∀ o, w'.cell? ⟨b, o, none⟩ = w.cell? ⟨b, o, none⟩) → t.In w' lo hi := by
  induction t using T.ind with
  | h k n s A cap l r ih =>
    rw [T.in_mk, T.in_mk, T.blocks_mk]
    rintro ⟨h1, h2, h3⟩ hk
    refine ⟨h1, fun hl => ?_, fun x hx => ih x hx (h3 x hx) fun b hb => hk b (List.mem_append_right _ (List.mem_flatten.2 ⟨_, List.mem_map_of_mem hx, hb⟩))⟩
    obtain ⟨b, o, rfl, hb0, hb1, hc⟩ := h2 hl
    refine ⟨b, o, rfl, hb0, hb1, fun i x hx j u hu => (hk b (List.mem_append_left _ ?_) _).trans (hc i x hx j u hu)⟩
    cases l with
    | nil => exact absurd rfl hl
    | cons x l => simp

theorem T.In.frT {S : Nat → Prop} {w w' : World} {lo hi : Nat} {t : T} (h : t.In w lo hi) (hf : Fr S w w') (hh : hi ≤ w.heap.size) (hs : ∀ b ∈ t.blocks, ¬ S b) : t.In w' lo hi :=
  T.In.keepT t h fun b hb _ => hf.cell (by have := (T.In.blocks t h b hb).2; omega) (hs b hb)

theorem Tg.St.fr {S : Nat → Prop} {w w' : World} {lo : Nat} {x : Tg} (h : x.St w lo) (hf : Fr S w w') (hs : ∀ b, x.Has b → ¬ S b) : x.St w' lo := by
  have hin := h.inn
  refine ⟨Tg.In.more (lo := lo) (hi := w.heap.size) ⟨hin.fit, hin.v.frT hf (Nat.le_refl _) fun b hb => hs b (.v hb), hin.vs.frT hf (Nat.le_refl _) fun b hb => hs b (.vs hb),
    ⟨hin.code.len1, hin.code.cap1, hin.code.ty, hin.code.inn.frH hf (Nat.le_refl _) fun b hb => hs b (.code hb)⟩, ⟨hin.names.len1, hin.names.cap1, fun hl => ?_, fun y hy => ⟨(hin.names.inn y hy).1, (hin.names.inn y hy).2.frT hf (Nat.le_refl _) fun b hb => hs b (.nv y hy hb)⟩⟩⟩ (Nat.le_refl _) hf.size,
    fun b hb => ?_, h.tdC.fr hf fun b hb => hs b (.code hb), fun b hb => ?_, fun y hy b hb => ?_⟩
  · obtain ⟨b, o, hA, h0, h1, hc⟩ := hin.names.at_ hl
    exact ⟨b, o, hA, h0, h1, fun i x hx j u hu => (hf.cell h1 (hs b (.nm ⟨_, hA, hl, rfl⟩))).trans (hc i x hx j u hu)⟩
  · obtain ⟨cs, h1⟩ := h.tdV b hb
    exact ⟨cs, h1.fr hf (hs b (hb.elim (fun h => .v h) fun h => .vs h))⟩
  · obtain ⟨cs, h1⟩ := h.tdN b hb
    exact ⟨cs, h1.fr hf (hs b (.nm hb))⟩
  · obtain ⟨cs, h1⟩ := h.tdM y hy b hb
    exact ⟨cs, h1.fr hf (hs b (.nv y hy hb))⟩

/-- The blocks of a world. -/
def Gm.B (m : Gm) (i : Nat) : Prop := i = m.wb ∨ i = m.M ∨ i = m.F ∨ (Value.slice m.P m.par.length m.pc).ownBlock = some i ∨ (Value.slice m.C m.cut.length m.cc).ownBlock = some i ∨ (Value.slice m.D m.made.length m.dc).ownBlock = some i ∨ ∃ x ∈ m.th, i = x.2.1 ∨ x.2.2.Has i

structure Gm.Ok (m : Gm) (lo : Nat) (W : World) : Prop where
  blk : Blk W m.wb 76 m.cells
  things : ∃ es cl, W.heap[m.M]? = some (.map es cl) ∧ TgsAre es.toList m.th ∧ Stm es.toList cl
  facets : ∃ es cl, W.heap[m.F]? = some (.map es cl) ∧ FacAre es.toList m.fac ∧ Stm es.toList cl
  par : W.ownsRow lo 27 1 (.slice m.P m.par.length m.pc) m.par.length (m.par.map fun (n : Int) => Value.int .i64 n)
  cut : W.ownsRow lo 4 1 (.slice m.C m.cut.length m.cc) m.cut.length (m.cut.map fun b => Value.bool b)
  made : W.ownsRow lo 3 1 (.slice m.D m.made.length m.dc) m.made.length (m.made.map fun (n : Int) => Value.int .i64 n)
  box : ∀ x ∈ m.th, Blk W x.2.1 83 x.2.2.cells.toArray
  st : ∀ x ∈ m.th, x.2.2.St W lo
  lo0 : lo ≤ m.wb ∧ lo ≤ m.M ∧ lo ≤ m.F ∧ ∀ x ∈ m.th, lo ≤ x.2.1
  mf : m.M ≠ m.F
  keys : (m.th.map Prod.fst).Nodup
  dist : m.th.Pairwise fun a b => a.2.1 ≠ b.2.1
  len : m.th.length ≤ 1000000
  fkeys : (m.fac.map fun f => (f.1, f.2.1)).Nodup
  flen : m.fac.length ≤ 1000000
  sides : 1 ≤ m.made.length ∧ m.made.length ≤ 16 ∧ m.par.length + 1 = m.made.length ∧ m.cut.length = m.made.length

section
variable {m : Gm} {lo : Nat} {W W' : World} {S : Nat → Prop}

theorem Gm.Ok.lt (h : m.Ok lo W) : ∀ i, m.B i → lo ≤ i ∧ i < W.heap.size := by
  obtain ⟨es, cl, hm, -⟩ := h.things
  obtain ⟨ef, cf, hf, hfe⟩ := h.facets
  obtain ⟨l0, l1, l2, l3⟩ := h.lo0
  rintro i (rfl | rfl | rfl | hi | hi | hi | ⟨x, hx, rfl | hi⟩)
  · exact ⟨l0, h.blk.lt⟩
  · exact ⟨l1, lt_of_heap hm⟩
  · exact ⟨l2, lt_of_heap hf⟩
  · exact owns_lt h.par i hi
  · exact owns_lt h.cut i hi
  · exact owns_lt h.made i hi
  · exact ⟨l3 x hx, (h.box x hx).lt⟩
  · exact (h.st x hx).inn.has hi

theorem Gm.Ok.fr (h : m.Ok lo W) (f : Fr S W W') (hs : ∀ i, m.B i → ¬ S i) : m.Ok lo W' := by
  obtain ⟨es, cl, hm, he⟩ := h.things
  obtain ⟨ef, cf, hf, hfe⟩ := h.facets
  exact ⟨h.blk.fr f (hs _ (.inl rfl)), ⟨es, cl, (f.block _ (lt_of_heap hm) (hs _ (.inr (.inl rfl)))).trans hm, he⟩, ⟨ef, cf, (f.block _ (lt_of_heap hf) (hs _ (.inr (.inr (.inl rfl))))).trans hf, hfe⟩,
    owns_fr h.par f fun g hg => hs g (.inr (.inr (.inr (.inl hg)))), owns_fr h.cut f fun g hg => hs g (.inr (.inr (.inr (.inr (.inl hg))))), owns_fr h.made f fun g hg => hs g (.inr (.inr (.inr (.inr (.inr (.inl hg)))))),
    fun x hx => (h.box x hx).fr f (hs _ (.inr (.inr (.inr (.inr (.inr (.inr ⟨x, hx, .inl rfl⟩))))))),
    fun x hx => (h.st x hx).fr f fun b hb => hs b (.inr (.inr (.inr (.inr (.inr (.inr ⟨x, hx, .inr hb⟩)))))), h.lo0, h.mf, h.keys, h.dist, h.len, h.fkeys, h.flen, h.sides⟩

theorem Gm.Ok.no (h : m.Ok lo W) (f : Fr No W W') : m.Ok lo W' := h.fr f fun _ _ h => h

/-- The thing of a number. -/
def Gm.get (m : Gm) (r : Int) : Option (Nat × Tg) := (m.th.find? fun x => x.1 == r).map Prod.snd

/-- Its kind; 0: there is none. -/
def Gm.kind (m : Gm) (r : Int) : Int := ((m.get r).map fun x => x.2.kind).getD 0

theorem Gm.get_mem {r : Int} {x : Nat × Tg} (h : m.get r = some x) : (r, x) ∈ m.th := by
  unfold Gm.get at h
  obtain ⟨y, hy, rfl⟩ := Option.map_eq_some_iff.1 h
  have h1 := List.find?_some hy
  have h2 := List.mem_of_find?_eq_some hy
  have : y.1 = r := by simpa using h1
  rw [← this]
  exact h2

theorem Gm.get_none {r : Int} (h : m.get r = none) : ∀ x ∈ m.th, x.1 ≠ r := by
  unfold Gm.get at h
  rw [Option.map_eq_none_iff, List.find?_eq_none] at h
  intro x hx
  have := h x hx
  simpa using this

theorem Gm.get_of (hk : (m.th.map Prod.fst).Nodup) {x : Int × Nat × Tg} (h : x ∈ m.th) : m.get x.1 = some x.2 := by
  cases hg : m.get x.1 with
  | none => exact absurd rfl (Gm.get_none hg x h)
  | some y =>
    have h1 := Gm.get_mem hg
    obtain ⟨i, hi, hxi⟩ := List.mem_iff_getElem.1 h
    obtain ⟨j, hj, hyj⟩ := List.mem_iff_getElem.1 h1
    have : i = j := by
      refine (List.getElem_inj (h₀ := by simpa using hi) (h₁ := by simpa using hj) hk).1 ?_
      simp [hxi, hyj]
    subst this
    rw [hxi] at hyj
    rw [hyj]

set_option maxRecDepth 100000 in
/-- What a look-up of a thing answers. -/
theorem gook_thing (h : m.Ok lo W) (r : Int) : (Instr.lookup 73 (.map (some m.M)) (.int .i64 r) false).run Try.prog W = .ok (.pointer ((m.get r).map fun x => ⟨x.1, 0, none⟩)) W := by
  obtain ⟨es, cl, hm, he, hst⟩ := h.things
  have hkeys : ∀ e ∈ es.toList, ∃ c : Int, e.key = .int .i64 c := fun e hm => by
    obtain ⟨i, hi, rfl⟩ := List.mem_iff_getElem.1 hm
    have hi' : i < m.th.length := by rw [← he.1]; exact hi
    exact ⟨_, (he.2 i _ _ (List.getElem?_eq_getElem hi) (List.getElem?_eq_getElem hi')).1⟩
  have hz : (zeroValue 100).run Try.prog W = .ok (.pointer none) W := by rfl
  cases hg : m.get r with
  | none =>
    have hn := Gm.get_none hg
    have hl := (look_num (o := none) Try.underlying28 Try.underlying73 hz r hm (fun _ e hm => by
      obtain ⟨i, hi, rfl⟩ := List.mem_iff_getElem.1 hm
      have hi' : i < m.th.length := by rw [← he.1]; exact hi
      exact ⟨_, (he.2 i _ _ (List.getElem?_eq_getElem hi) (List.getElem?_eq_getElem hi')).1, fun hr => hn _ (List.getElem_mem hi') hr.symm⟩) (fun j hj => by cases hj)).2
    rw [hl]
    rfl
  | some x =>
    have hx := Gm.get_mem hg
    obtain ⟨i, hi, hxi⟩ := List.mem_iff_getElem.1 hx
    have hi' : i < es.toList.length := by rw [he.1]; exact hi
    have hat := he.2 i _ _ (List.getElem?_eq_getElem hi') (List.getElem?_eq_getElem hi)
    rw [hxi] at hat
    have hl := (look_num (o := some i) Try.underlying28 Try.underlying73 hz r hm (fun ho => by cases ho) (fun j hj => by
      simp only [Option.some.injEq] at hj
      subst hj
      refine ⟨_, List.getElem?_eq_getElem hi', hat.1, hkeys, fun k e' hk hek hkey => ?_⟩
      have hk' : k < m.th.length := by omega
      rw [(he.2 k e' _ hek (List.getElem?_eq_getElem hk')).1] at hkey
      simp only [Value.int.injEq, true_and] at hkey
      have : k = i := by
        refine (List.getElem_inj (h₀ := by simpa using hk') (h₁ := by simpa using hi) h.keys).1 ?_
        simp [hxi, hkey]
      omega)).2
    rw [hl]
    simp only [Option.bind_some, List.getElem?_eq_getElem hi', hat.2, Option.map_some]
end

end Go.Proofs.Ytnddfiohofnbaaa

/- Facets, plain: what a thing can, its root; no two things of one root can just the same. No program in sight. -/
namespace Go.Proofs.Ytnddfiohofnbaaa
open Go.RowKit

/-- What a kind can. -/
def canN (k : Int) : Nat :=
  if k = 1 then 3 else if k = 2 ∨ k = 3 then 9 else if k = 4 then 12 else if k = 5 ∨ k = 6 ∨ k = 8 ∨ k = 12 then 16 else if k = 9 then 13 else if k = 10 then 1 else if k = 11 then 8 else if k = 13 then 33 else 0

theorem canN_lt (k : Int) : canN k < 64 := by unfold canN; repeat' split <;> try decide

/-- What a thing can. -/
inductive Gm.Abl (m : Gm) : Int → Nat → Prop
  | base {r : Int} {x : Nat × Tg} (h : m.get r = some x) (hk : x.2.kind ≠ 14 ∧ x.2.kind ≠ 15 ∧ x.2.kind ≠ 16) : Gm.Abl m r (canN x.2.kind)
  | facet {r : Int} {x : Nat × Tg} {s a : Nat} (h : m.get r = some x) (hk : x.2.kind = 14) (hs : x.2.set = (s : Int)) (ha : Gm.Abl m x.2.ofr a) : Gm.Abl m r (s &&& a)
  | pass {r : Int} {x : Nat × Tg} {a : Nat} (h : m.get r = some x) (hk : x.2.kind = 15 ∨ x.2.kind = 16) (ha : Gm.Abl m x.2.ofr a) : Gm.Abl m r a

section
variable {m m' : Gm} {r t : Int} {a b : Nat}

theorem Gm.Abl.is (h : m.Abl r a) : ∃ x, m.get r = some x := by cases h with | base h _ => exact ⟨_, h⟩ | facet h _ _ _ => exact ⟨_, h⟩ | pass h _ _ => exact ⟨_, h⟩

theorem Gm.Abl.uniq (h : m.Abl r a) : ∀ {b : Nat}, m.Abl r b → a = b := by
  induction h with
  | base h hk =>
    intro b hb
    cases hb with
    | base h' _ => rw [h] at h'; cases h'; rfl
    | facet h' hk' _ _ => rw [h] at h'; cases h'; exact absurd hk' hk.1
    | pass h' hk' _ => rw [h] at h'; cases h'; exact hk'.elim (fun e => absurd e hk.2.1) fun e => absurd e hk.2.2
  | facet h hk hs ha ih =>
    intro b hb
    cases hb with
    | base h' hk' => rw [h] at h'; cases h'; exact absurd hk hk'.1
    | facet h' hk' hs' ha' =>
      rw [h] at h'; cases h'
      rw [hs] at hs'
      have := ih ha'
      subst this
      have e : (_ : Nat) = _ := Int.ofNat.inj hs'
      rw [e]
    | pass h' hk' _ => rw [h] at h'; cases h'; rcases hk' with e | e <;> rw [hk] at e <;> cases e
  | pass h hk ha ih =>
    intro b hb
    cases hb with
    | base h' hk' => rw [h] at h'; cases h'; exact hk.elim (fun e => absurd e hk'.2.1) fun e => absurd e hk'.2.2
    | facet h' hk' _ _ => rw [h] at h'; cases h'; rcases hk with e | e <;> rw [hk'] at e <;> cases e
    | pass h' hk' ha' => rw [h] at h'; cases h'; exact ih ha'

theorem Gm.Abl.lt (h : m.Abl r a) : a < 64 := by
  induction h with
  | base h hk => exact canN_lt _
  | facet h hk hs ha ih => exact Nat.lt_of_le_of_lt Nat.and_le_right ih
  | pass h hk ha ih => exact ih

/-- A world with all that another one has. -/
def Gm.Ext (m m' : Gm) : Prop := m'.wb = m.wb ∧ m.made.length = m'.made.length ∧ ∀ r x, m.get r = some x → m'.get r = some x

theorem Gm.Ext.refl (m : Gm) : m.Ext m := ⟨rfl, rfl, fun _ _ h => h⟩
theorem Gm.Ext.trans {m1 m2 m3 : Gm} (h : m1.Ext m2) (k : m2.Ext m3) : m1.Ext m3 := ⟨k.1.trans h.1, h.2.1.trans k.2.1, fun r x hx => k.2.2 r x (h.2.2 r x hx)⟩

theorem Gm.Abl.ext (h : m.Abl r a) (he : m.Ext m') : m'.Abl r a := by
  induction h with
  | base h hk => exact .base (he.2.2 _ _ h) hk
  | facet h hk hs ha ih => exact .facet (he.2.2 _ _ h) hk hs ih
  | pass h hk ha ih => exact .pass (he.2.2 _ _ h) hk ih

/-- A thing's root. -/
def Gm.root (m : Gm) (r : Int) : Int := match m.get r with
  | some x => if x.2.kind = 14 then x.2.ofr else r
  | none => r

/-- What holds of every sound world of facets. -/
structure Gm.Fs (m : Gm) : Prop where
  num : ∀ x ∈ m.th, 1 ≤ x.1 ∧ x.1 ≤ m.last
  kind : ∀ x ∈ m.th, 1 ≤ x.2.2.kind ∧ x.2.2.kind ≤ 16
  last : 0 ≤ m.last ∧ m.last ≤ 10000000
  abl : ∀ r x, m.get r = some x → ∃ a, m.Abl r a
  set : ∀ r x, m.get r = some x → x.2.kind = 14 → ∃ s : Nat, x.2.set = (s : Int) ∧ s < 64 ∧ ∃ y, m.get x.2.ofr = some y ∧ y.2.kind ≠ 14 ∧ ∃ a, m.Abl x.2.ofr a ∧ s &&& a = s ∧ s ≠ a
  fac : ∀ o s r, (o, s, r) ∈ m.fac ↔ ∃ x, m.get r = some x ∧ x.2.kind = 14 ∧ x.2.ofr = o ∧ x.2.set = s

theorem Gm.Fs.root_is (h : m.Fs) {x : Nat × Tg} (hg : m.get r = some x) : ∃ y, m.get (m.root r) = some y ∧ y.2.kind ≠ 14 := by
  unfold Gm.root
  rw [hg]
  simp only
  split
  · rename_i hk
    obtain ⟨s, -, -, y, hy, hyk, -⟩ := h.set r x hg hk
    exact ⟨y, hy, hyk⟩
  · rename_i hk
    exact ⟨x, hg, hk⟩

theorem Gm.root_of {x : Nat × Tg} (hg : m.get r = some x) (hk : x.2.kind ≠ 14) : m.root r = r := by unfold Gm.root; rw [hg]; simp [hk]
theorem Gm.root_fac {x : Nat × Tg} (hg : m.get r = some x) (hk : x.2.kind = 14) : m.root r = x.2.ofr := by unfold Gm.root; rw [hg]; simp [hk]

theorem Gm.root_root (h : m.Fs) {x : Nat × Tg} (hg : m.get r = some x) : m.root (m.root r) = m.root r := by
  obtain ⟨y, hy, hyk⟩ := h.root_is hg
  exact Gm.root_of hy hyk

/-- What a thing can is what its root can, or less. -/
theorem Gm.Fs.able_root (h : m.Fs) {x : Nat × Tg} (hg : m.get r = some x) (ha : m.Abl r a) (hb : m.Abl (m.root r) b) : a &&& b = a := by
  by_cases hk : x.2.kind = 14
  · obtain ⟨s, hs, -, y, hy, hyk, c, hc, h1, h2⟩ := h.set r x hg hk
    have hr : m.root r = x.2.ofr := by unfold Gm.root; rw [hg]; simp [hk]
    rw [hr] at hb
    have := hc.uniq hb
    subst this
    have := ha.uniq (.facet hg hk hs hc)
    rw [this, h1, h1]
  · have hr : m.root r = r := by unfold Gm.root; rw [hg]; simp [hk]
    rw [hr] at hb
    rw [ha.uniq hb, Nat.and_self]

/-- NO TWO THINGS of one root can just the same. -/
theorem Gm.Fs.one (h : m.Fs) (hk : (m.fac.map fun f => (f.1, f.2.1)).Nodup) {q : Int} {x y : Nat × Tg} (hx : m.get r = some x) (hy : m.get q = some y) (hr : m.root r = m.root q) (ha : m.Abl r a) (hb : m.Abl q a) : r = q := by
  by_cases kx : x.2.kind = 14
  · obtain ⟨s, hs, -, z, hz, -, c, hc, h1, h2⟩ := h.set r x hx kx
    have e1 : m.root r = x.2.ofr := by unfold Gm.root; rw [hx]; simp [kx]
    have e2 := ha.uniq (.facet hx kx hs hc)
    rw [h1] at e2
    by_cases ky : y.2.kind = 14
    · obtain ⟨s', hs', -, z', hz', -, c', hc', h1', h2'⟩ := h.set q y hy ky
      have e3 : m.root q = y.2.ofr := by unfold Gm.root; rw [hy]; simp [ky]
      have e4 := hb.uniq (.facet hy ky hs' hc')
      rw [h1'] at e4
      have ho : x.2.ofr = y.2.ofr := by rw [← e1, hr, e3]
      have m1 := (h.fac x.2.ofr x.2.set r).2 ⟨x, hx, kx, rfl, rfl⟩
      have m2 := (h.fac y.2.ofr y.2.set q).2 ⟨y, hy, ky, rfl, rfl⟩
      have hss : x.2.set = y.2.set := by rw [hs, hs', ← e2, ← e4]
      rw [ho, hss] at m1
      obtain ⟨i, hi, hxi⟩ := List.mem_iff_getElem.1 m1
      obtain ⟨j, hj, hyj⟩ := List.mem_iff_getElem.1 m2
      have : i = j := by
        refine (List.getElem_inj (h₀ := by simpa using hi) (h₁ := by simpa using hj) hk).1 ?_
        simp [hxi, hyj]
      subst this
      rw [hxi] at hyj
      simpa using hyj
    · have e3 : m.root q = q := by unfold Gm.root; rw [hy]; simp [ky]
      have : x.2.ofr = q := by rw [← e1, hr, e3]
      rw [this] at hc
      exact absurd (e2.symm.trans (hb.uniq hc)) h2
  · have e1 : m.root r = r := by unfold Gm.root; rw [hx]; simp [kx]
    by_cases ky : y.2.kind = 14
    · obtain ⟨s', hs', -, z', hz', -, c', hc', h1', h2'⟩ := h.set q y hy ky
      have e3 : m.root q = y.2.ofr := by unfold Gm.root; rw [hy]; simp [ky]
      have e4 := hb.uniq (.facet hy ky hs' hc')
      rw [h1'] at e4
      have : y.2.ofr = r := by rw [← e3, ← hr, e1]
      rw [this] at hc'
      exact absurd (e4.symm.trans (ha.uniq hc')) h2'
    · have e3 : m.root q = q := by unfold Gm.root; rw [hy]; simp [ky]
      rw [← e1, hr, e3]

/-- The facet of a target and a set. -/
def Tg.fac (t : Int) (s : Nat) : Tg := ⟨14, 0, T.zero, none, 0, [], 0, 0, t, 0, (s : Int), false, none, 0, [], none, 0, []⟩

/-- A facet more. -/
def Gm.addF (m : Gm) (g : Nat) (t : Int) (s : Nat) : Gm := { m with last := m.last + 1, th := m.th ++ [(m.last + 1, g, Tg.fac t s)], fac := m.fac ++ [(t, (s : Int), m.last + 1)] }

theorem Gm.get_addF {g : Nat} {s : Nat} : (m.addF g t s).get r = match m.get r with | some x => some x | none => if r = m.last + 1 then some (g, Tg.fac t s) else none := by
  unfold Gm.get Gm.addF
  simp only [List.find?_append]
  cases hf : m.th.find? (fun x => x.1 == r) with
  | some x => simp
  | none =>
    simp only [Option.none_or, Option.map_none]
    by_cases hr : r = m.last + 1
    · subst hr; simp
    · have : (m.last + 1 == r) = false := by simp; omega
      simp [this, hr]

theorem Gm.Fs.fresh (h : m.Fs) : m.get (m.last + 1) = none := by
  cases hg : m.get (m.last + 1) with
  | none => rfl
  | some x => have := (h.num _ (Gm.get_mem hg)).2; simp at this; omega

theorem Gm.Fs.ext_addF (_h : m.Fs) {g s : Nat} : m.Ext (m.addF g t s) := ⟨rfl, rfl, fun r x hx => by rw [Gm.get_addF, hx]⟩

theorem Gm.Fs.get_new (h : m.Fs) {g s : Nat} : (m.addF g t s).get (m.last + 1) = some (g, Tg.fac t s) := by
  rw [Gm.get_addF, h.fresh]; simp

theorem Gm.Fs.addF (h : m.Fs) {g s : Nat} {y : Nat × Tg} (hl : m.last < 10000000) (ht : m.get t = some y) (hty : y.2.kind ≠ 14) (hs : s < 64) (ha : m.Abl t a) (h1 : s &&& a = s) (h2 : s ≠ a) : (m.addF g t s).Fs := by
  have hext : m.Ext (m.addF g t s) := h.ext_addF
  have hcase : ∀ {q : Int} {x : Nat × Tg}, (m.addF g t s).get q = some x → m.get q = some x ∨ (q = m.last + 1 ∧ x = (g, Tg.fac t s)) := fun {q x} hx => by
    rw [Gm.get_addF] at hx
    cases hg : m.get q with
    | some z => rw [hg] at hx; exact .inl hx
    | none =>
      rw [hg] at hx
      simp only at hx
      split at hx
      · rename_i e
        exact .inr ⟨e, (Option.some.inj hx).symm⟩
      · cases hx
  refine ⟨fun x hx => ?_, fun x hx => ?_, ?_, fun q x hx => ?_, fun q x hx hk => ?_, fun o s' q => ?_⟩
  · rcases List.mem_append.1 hx with hx | hx
    · have := h.num x hx
      exact ⟨this.1, Int.le_trans this.2 (by show m.last ≤ m.last + 1; omega)⟩
    · simp at hx; subst hx
      have := h.last
      exact ⟨by show 1 ≤ m.last + 1; omega, Int.le_refl _⟩
  · rcases List.mem_append.1 hx with hx | hx
    · exact h.kind x hx
    · simp at hx; subst hx; exact ⟨by show (1 : Int) ≤ 14; decide, by show (14 : Int) ≤ 16; decide⟩
  · have := h.last
    exact ⟨by show 0 ≤ m.last + 1; omega, by show m.last + 1 ≤ _; omega⟩
  · rcases hcase hx with hx | ⟨rfl, rfl⟩
    · obtain ⟨b, hb⟩ := h.abl q x hx
      exact ⟨b, hb.ext hext⟩
    · exact ⟨_, .facet h.get_new rfl rfl (ha.ext hext)⟩
  · rcases hcase hx with hx | ⟨rfl, rfl⟩
    · obtain ⟨s', hs', h64, z, hz, hzk, c, hc, q1, q2⟩ := h.set q x hx hk
      exact ⟨s', hs', h64, z, hext.2.2 _ _ hz, hzk, c, hc.ext hext, q1, q2⟩
    · exact ⟨s, rfl, hs, y, hext.2.2 _ _ ht, hty, a, ha.ext hext, h1, h2⟩
  · show (o, s', q) ∈ m.fac ++ [(t, (s : Int), m.last + 1)] ↔ _
    rw [List.mem_append, h.fac o s' q]
    constructor
    · rintro (⟨x, hx, k1, k2, k3⟩ | hm)
      · exact ⟨x, hext.2.2 _ _ hx, k1, k2, k3⟩
      · simp at hm
        obtain ⟨rfl, rfl, rfl⟩ := hm
        exact ⟨_, h.get_new, rfl, rfl, rfl⟩
    · rintro ⟨x, hx, k1, k2, k3⟩
      rcases hcase hx with hx | ⟨rfl, rfl⟩
      · exact .inl ⟨x, hx, k1, k2, k3⟩
      · right
        simp [Tg.fac] at k2 k3
        simp [k2, k3]
end

end Go.Proofs.Ytnddfiohofnbaaa

/- Sets of abilities: Meet, Join, May, Less, Has; what a kind can. -/
namespace Go.Proofs.Ytnddfiohofnbaaa
open Go.RowKit

theorem and63 {a : Nat} (h : a < 64) : 63 &&& a = a := by
  have : a &&& 63 = a := by
    rw [show (63 : Nat) = 2 ^ 6 - 1 from rfl, Nat.and_two_pow_sub_one_eq_mod]
    exact Nat.mod_eq_of_lt h
  rw [Nat.and_comm]
  exact this

theorem and_lt {a b : Nat} (h : a < 64) : a &&& b < 64 := Nat.lt_of_le_of_lt Nat.and_le_left h

set_option maxRecDepth 100000 in
/-- What two sets have in common. -/
theorem Meet2_w {W : World} {g a b : Nat} (ha : a < 64) (hb : b < 256) (h0 : W.cell? ⟨g, 0, none⟩ = some (.int .u8 (a : Int))) (h1 : W.cell? ⟨g, 1, none⟩ = some (.int .u8 (b : Int))) (_hg : g < W.heap.size) :
    Calls Try.prog 61 #[.slice (some ⟨g, 0, none⟩) 2 2] W fun e w' => e = .returned (.int .u8 ((a &&& b : Nat) : Int)) ∧ w' = W := by
  have e1 : bits .and .u8 63 (a : Int) = (a : Int) := by
    have := u8_and_nat 63 a (by omega) (by omega)
    rw [and63 ha] at this
    exact this
  have e2 : bits .and .u8 (a : Int) (b : Int) = ((a &&& b : Nat) : Int) := u8_and_nat a b (by omega) (by omega)
  go_enter Try.func61, Try.ntmps61
  go_wp2_with fail
  refine wp_loop_rounds 3 ?_
  rw [rounds_succ]
  go_wp2_with fail
  rw [rounds_succ]
  go_wp2_with fail
  rw [rounds_succ]
  go_wp2_with fail
  go_ret
  exact ⟨rfl, rfl⟩

theorem May_w (a : Nat) (ha : a < 256) (W : World) : Calls Try.prog 80 #[.int .u8 (a : Int)] W fun e w' => e = .returned (.bool (decide (a < 64))) ∧ w' = W := by
  have e1 : bits .andNot .u8 (a : Int) 63 = ((a &&& 192 : Nat) : Int) := u8_andNot_nat a 63 ha (by omega)
  have e2 : (((a &&& 192 : Nat) : Int) == 0) = decide (a < 64) := by
    have : ∀ a : Fin 256, (((a.val &&& 192 : Nat) : Int) == 0) = decide (a.val < 64) := by decide +kernel
    exact this ⟨a, ha⟩
  go_enter Try.func80, Try.ntmps80
  go_wp2
  go_ret
  exact ⟨rfl, rfl⟩

end Go.Proofs.Ytnddfiohofnbaaa

/- What a kind can. -/
namespace Go.Proofs.Ytnddfiohofnbaaa
open Go.RowKit

theorem or0 (a : Nat) : 0 ||| a = a := by simp

set_option maxRecDepth 100000 in
theorem Join2_w {W : World} {g a b : Nat} (ha : a < 64) (hb : b < 64) (h0 : W.cell? ⟨g, 0, none⟩ = some (.int .u8 (a : Int))) (h1 : W.cell? ⟨g, 1, none⟩ = some (.int .u8 (b : Int))) (_hg : g < W.heap.size) :
    Calls Try.prog 88 #[.slice (some ⟨g, 0, none⟩) 2 2] W fun e w' => e = .returned (.int .u8 ((a ||| b : Nat) : Int)) ∧ w' = W := by
  have m0 : bits .and .u8 (a : Int) 63 = (a : Int) := by
    have := u8_and_nat a 63 (by omega) (by omega)
    rw [Nat.and_comm, and63 ha] at this
    exact this
  have m1 : bits .and .u8 (b : Int) 63 = (b : Int) := by
    have := u8_and_nat b 63 (by omega) (by omega)
    rw [Nat.and_comm, and63 hb] at this
    exact this
  have o0 : bits .or .u8 0 (a : Int) = (a : Int) := by
    have := u8_or_nat 0 a (by omega) (by omega)
    rw [or0] at this
    exact this
  have o1 : bits .or .u8 (a : Int) (b : Int) = ((a ||| b : Nat) : Int) := u8_or_nat _ b (by first | omega | exact Nat.lt_of_lt_of_le (Nat.or_lt_two_pow (n := 6) ha hb) (by decide)) (by omega)
  go_enter Try.func88, Try.ntmps88
  go_wp2_with fail
  refine wp_loop_rounds 3 ?_
  rw [rounds_succ]
  go_wp2_with fail
  rw [rounds_succ]
  go_wp2_with fail
  rw [rounds_succ]
  go_wp2_with fail
  go_ret
  exact ⟨rfl, rfl⟩

set_option maxRecDepth 100000 in
theorem Join3_w {W : World} {g a b c : Nat} (ha : a < 64) (hb : b < 64) (hc : c < 64) (h0 : W.cell? ⟨g, 0, none⟩ = some (.int .u8 (a : Int))) (h1 : W.cell? ⟨g, 1, none⟩ = some (.int .u8 (b : Int))) (h2 : W.cell? ⟨g, 2, none⟩ = some (.int .u8 (c : Int))) (_hg : g < W.heap.size) :
    Calls Try.prog 88 #[.slice (some ⟨g, 0, none⟩) 3 3] W fun e w' => e = .returned (.int .u8 (((a ||| b ||| c) : Nat) : Int)) ∧ w' = W := by
  have m0 : bits .and .u8 (a : Int) 63 = (a : Int) := by
    have := u8_and_nat a 63 (by omega) (by omega)
    rw [Nat.and_comm, and63 ha] at this
    exact this
  have m1 : bits .and .u8 (b : Int) 63 = (b : Int) := by
    have := u8_and_nat b 63 (by omega) (by omega)
    rw [Nat.and_comm, and63 hb] at this
    exact this
  have m2 : bits .and .u8 (c : Int) 63 = (c : Int) := by
    have := u8_and_nat c 63 (by omega) (by omega)
    rw [Nat.and_comm, and63 hc] at this
    exact this
  have o0 : bits .or .u8 0 (a : Int) = (a : Int) := by
    have := u8_or_nat 0 a (by omega) (by omega)
    rw [or0] at this
    exact this
  have o1 : bits .or .u8 (a : Int) (b : Int) = ((a ||| b : Nat) : Int) := u8_or_nat _ b (by first | omega | exact Nat.lt_of_lt_of_le (Nat.or_lt_two_pow (n := 6) ha hb) (by decide)) (by omega)
  have o2 : bits .or .u8 ((a ||| b : Nat) : Int) (c : Int) = (((a ||| b ||| c) : Nat) : Int) := u8_or_nat _ c (by first | omega | exact Nat.lt_of_lt_of_le (Nat.or_lt_two_pow (n := 6) ha hb) (by decide)) (by omega)
  go_enter Try.func88, Try.ntmps88
  go_wp2_with fail
  refine wp_loop_rounds 4 ?_
  rw [rounds_succ]
  go_wp2_with fail
  rw [rounds_succ]
  go_wp2_with fail
  rw [rounds_succ]
  go_wp2_with fail
  rw [rounds_succ]
  go_wp2_with fail
  go_ret
  exact ⟨rfl, rfl⟩

set_option maxRecDepth 100000 in
set_option maxHeartbeats 4000000 in
theorem can_w (k : Int) (W : World) : Calls Try.prog 62 #[.int .u8 k] W fun e w' => e = .returned (.int .u8 (canN k : Int)) ∧ Fr No W w' := by
  by_cases h1 : k = 1
  · subst h1
    have hb := Blk.new W 52 #[.int .u8 1, .int .u8 2]
    have hf := (Fr.refl No W).alloc (.cells #[.int .u8 1, .int .u8 2] 52)
    have hj := Join2_w (a := 1) (b := 2) (by decide) (by decide) (hb.cell 0) (hb.cell 1) hb.lt
    have HJ := hide hj
    have HF := hide hf
    clear hb hf hj
    go_enter Try.func62, Try.ntmps62
    go_wp2_with fail
    refine HJ.out.mono ?_
    rintro e w' ⟨rfl, rfl⟩
    go_wp2
    go_ret
    exact ⟨rfl, HF.out⟩
  by_cases h2 : k = 2
  · subst h2
    have hb := Blk.new W 52 #[.int .u8 1, .int .u8 8]
    have hf := (Fr.refl No W).alloc (.cells #[.int .u8 1, .int .u8 8] 52)
    have hj := Join2_w (a := 1) (b := 8) (by decide) (by decide) (hb.cell 0) (hb.cell 1) hb.lt
    have HJ := hide hj
    have HF := hide hf
    clear hb hf hj
    go_enter Try.func62, Try.ntmps62
    go_wp2_with fail
    refine HJ.out.mono ?_
    rintro e w' ⟨rfl, rfl⟩
    go_wp2
    go_ret
    exact ⟨rfl, HF.out⟩
  by_cases h3 : k = 3
  · subst h3
    have hb := Blk.new W 52 #[.int .u8 1, .int .u8 8]
    have hf := (Fr.refl No W).alloc (.cells #[.int .u8 1, .int .u8 8] 52)
    have hj := Join2_w (a := 1) (b := 8) (by decide) (by decide) (hb.cell 0) (hb.cell 1) hb.lt
    have HJ := hide hj
    have HF := hide hf
    clear hb hf hj
    go_enter Try.func62, Try.ntmps62
    go_wp2_with fail
    refine HJ.out.mono ?_
    rintro e w' ⟨rfl, rfl⟩
    go_wp2
    go_ret
    exact ⟨rfl, HF.out⟩
  by_cases h4 : k = 4
  · subst h4
    have hb := Blk.new W 52 #[.int .u8 8, .int .u8 4]
    have hf := (Fr.refl No W).alloc (.cells #[.int .u8 8, .int .u8 4] 52)
    have hj := Join2_w (a := 8) (b := 4) (by decide) (by decide) (hb.cell 0) (hb.cell 1) hb.lt
    have HJ := hide hj
    have HF := hide hf
    clear hb hf hj
    go_enter Try.func62, Try.ntmps62
    go_wp2_with fail
    refine HJ.out.mono ?_
    rintro e w' ⟨rfl, rfl⟩
    go_wp2
    go_ret
    exact ⟨rfl, HF.out⟩
  by_cases h5 : k = 5
  · subst h5
    go_enter Try.func62, Try.ntmps62
    go_wp2
    go_ret
    exact ⟨rfl, Fr.refl _ _⟩
  by_cases h6 : k = 6
  · subst h6
    go_enter Try.func62, Try.ntmps62
    go_wp2
    go_ret
    exact ⟨rfl, Fr.refl _ _⟩
  by_cases h8 : k = 8
  · subst h8
    go_enter Try.func62, Try.ntmps62
    go_wp2
    go_ret
    exact ⟨rfl, Fr.refl _ _⟩
  by_cases h12 : k = 12
  · subst h12
    go_enter Try.func62, Try.ntmps62
    go_wp2
    go_ret
    exact ⟨rfl, Fr.refl _ _⟩
  by_cases h9 : k = 9
  · subst h9
    have hb := Blk.new W 52 #[.int .u8 1, .int .u8 4, .int .u8 8]
    have hf := (Fr.refl No W).alloc (.cells #[.int .u8 1, .int .u8 4, .int .u8 8] 52)
    have hj := Join3_w (a := 1) (b := 4) (c := 8) (by decide) (by decide) (by decide) (hb.cell 0) (hb.cell 1) (hb.cell 2) hb.lt
    have HJ := hide hj
    have HF := hide hf
    clear hb hf hj
    go_enter Try.func62, Try.ntmps62
    go_wp2_with fail
    refine HJ.out.mono ?_
    rintro e w' ⟨rfl, rfl⟩
    go_wp2
    go_ret
    exact ⟨rfl, HF.out⟩
  by_cases h10 : k = 10
  · subst h10
    go_enter Try.func62, Try.ntmps62
    go_wp2
    go_ret
    exact ⟨rfl, Fr.refl _ _⟩
  by_cases h11 : k = 11
  · subst h11
    go_enter Try.func62, Try.ntmps62
    go_wp2
    go_ret
    exact ⟨rfl, Fr.refl _ _⟩
  by_cases h13 : k = 13
  · subst h13
    have hb := Blk.new W 52 #[.int .u8 1, .int .u8 32]
    have hf := (Fr.refl No W).alloc (.cells #[.int .u8 1, .int .u8 32] 52)
    have hj := Join2_w (a := 1) (b := 32) (by decide) (by decide) (hb.cell 0) (hb.cell 1) hb.lt
    have HJ := hide hj
    have HF := hide hf
    clear hb hf hj
    go_enter Try.func62, Try.ntmps62
    go_wp2_with fail
    refine HJ.out.mono ?_
    rintro e w' ⟨rfl, rfl⟩
    go_wp2
    go_ret
    exact ⟨rfl, HF.out⟩
  have e1 : (k == 1) = false := by simpa using h1
  have e2 : (k == 2) = false := by simpa using h2
  have e3 : (k == 3) = false := by simpa using h3
  have e4 : (k == 4) = false := by simpa using h4
  have e5 : (k == 5) = false := by simpa using h5
  have e6 : (k == 6) = false := by simpa using h6
  have e8 : (k == 8) = false := by simpa using h8
  have e12 : (k == 12) = false := by simpa using h12
  have e9 : (k == 9) = false := by simpa using h9
  have e10 : (k == 10) = false := by simpa using h10
  have e11 : (k == 11) = false := by simpa using h11
  have e13 : (k == 13) = false := by simpa using h13
  have hn : canN k = 0 := by simp [canN, h1, h2, h3, h4, h5, h6, h8, h12, h9, h10, h11, h13]
  rw [hn]
  clear hn h1 h2 h3 h4 h5 h6 h8 h12 h9 h10 h11 h13
  go_enter Try.func62, Try.ntmps62
  go_wp2
  go_ret
  exact ⟨rfl, Fr.refl _ _⟩

end Go.Proofs.Ytnddfiohofnbaaa

/- Worlds: none, Sides, side, Is, Kind, Home, Made. -/
namespace Go.Proofs.Ytnddfiohofnbaaa
open Go.RowKit

section
variable {m : Wm} {lo : Nat} {W : World}

/-- Where a number stands. -/
def Wm.at_ (m : Wm) (r : Int) : Option Nat := if 1 ≤ r ∧ r ≤ (m.th.length : Int) then some (r - 1).toNat else none

/-- The thing of a number. -/
def Wm.get (m : Wm) (r : Int) : Option (Nat × Th) := (m.at_ r).bind fun i => m.th[i]?

/-- Its kind; 0: there is none. -/
def Wm.kind (m : Wm) (r : Int) : Int := ((m.get r).map fun x => x.2.kind).getD 0

theorem Wm.get_is {m : Wm} {r : Int} : (m.get r).isSome = decide (1 ≤ r ∧ r ≤ (m.th.length : Int)) := by
  unfold Wm.get Wm.at_
  by_cases h : 1 ≤ r ∧ r ≤ (m.th.length : Int)
  · rw [if_pos h]
    have : (r - 1).toNat < m.th.length := by omega
    simp [h]
    omega
  · rw [if_neg h]
    simp [h]

theorem Wm.get_mem {m : Wm} {r : Int} {x : Nat × Th} (h : m.get r = some x) : x ∈ m.th := by
  unfold Wm.get at h
  obtain ⟨i, -, hi⟩ := Option.bind_eq_some_iff.1 h
  exact List.mem_of_getElem? hi

theorem map_neq_nil (w : World) (M : Nat) : (binOp .eql 73 (.map (some M)) (.map none)).run Try.prog w = .ok (.bool false) w := by
  have h := run_eql_map_nil (P := Try.prog) w 73 _ _ (some M) Try.underlying73
  simpa using h

set_option maxRecDepth 100000 in
/-- What a look-up of a thing answers. -/
theorem look_thing (h : m.Ok lo W) (r : Int) : (Instr.lookup 73 (.map (some m.M)) (.int .i64 r) false).run Try.prog W = .ok (.pointer ((m.get r).map fun x => ⟨x.1, 0, none⟩)) W := by
  obtain ⟨es, cl, hm, he, hst⟩ := h.things
  have hkeys : ∀ e ∈ es.toList, ∃ c : Int, e.key = .int .i64 c := fun e hm => by
    obtain ⟨i, hi, rfl⟩ := List.mem_iff_getElem.1 hm
    have hi' : i < m.th.length := by rw [← he.1]; exact hi
    exact ⟨_, (he.2 i _ _ (List.getElem?_eq_getElem hi) (List.getElem?_eq_getElem hi')).1⟩
  have hz : (zeroValue 100).run Try.prog W = .ok (.pointer none) W := by rfl
  have hl := (look_num (o := m.at_ r) Try.underlying28 Try.underlying73 hz r hm (fun ho e hm => by
    obtain ⟨i, hi, rfl⟩ := List.mem_iff_getElem.1 hm
    have hi' : i < m.th.length := by rw [← he.1]; exact hi
    refine ⟨_, (he.2 i _ _ (List.getElem?_eq_getElem hi) (List.getElem?_eq_getElem hi')).1, fun hr => ?_⟩
    unfold Wm.at_ at ho
    rw [if_pos (by omega)] at ho
    cases ho) (fun j hj => by
    unfold Wm.at_ at hj
    split at hj
    · rename_i hr
      simp only [Option.some.injEq] at hj
      subst hj
      have hi' : (r - 1).toNat < m.th.length := by omega
      have hi : (r - 1).toNat < es.toList.length := by rw [he.1]; exact hi'
      refine ⟨_, List.getElem?_eq_getElem hi, ?_, hkeys, fun k e' hk hek hkey => ?_⟩
      · rw [(he.2 _ _ _ (List.getElem?_eq_getElem hi) (List.getElem?_eq_getElem hi')).1]
        congr 1
        omega
      · have hk' : k < m.th.length := by omega
        rw [(he.2 k e' _ hek (List.getElem?_eq_getElem hk')).1] at hkey
        simp only [Value.int.injEq, true_and] at hkey
        omega
    · cases hj)).2
  rw [hl]
  unfold Wm.get
  cases ho : m.at_ r with
  | none => rfl
  | some j =>
    unfold Wm.at_ at ho
    split at ho
    · rename_i hr
      simp only [Option.some.injEq] at ho
      subst ho
      have hi' : (r - 1).toNat < m.th.length := by omega
      have hi : (r - 1).toNat < es.toList.length := by rw [he.1]; exact hi'
      have hv := (he.2 _ _ _ (List.getElem?_eq_getElem hi) (List.getElem?_eq_getElem hi')).2
      simp only [Option.bind_some, List.getElem?_eq_getElem hi, List.getElem?_eq_getElem hi', Option.map_some, hv]
    · cases ho

theorem none_w (h : m.Ok lo W) : Calls Try.prog 45 #[.pointer (some ⟨m.wb, 0, none⟩)] W fun e w' => e = .returned (.bool false) ∧ w' = W := by
  have c0 := h.blk.cell 2
  simp only [Wm.cells, List.getElem?_toArray, List.getElem?_cons_zero, List.getElem?_cons_succ] at c0
  have hq := map_neq_nil
  clear h
  go_enter Try.func45, Try.ntmps45
  go_wp2
  go_ret
  exact ⟨rfl, rfl⟩

theorem Sides_w (h : m.Ok lo W) : Calls Try.prog 38 #[.pointer (some ⟨m.wb, 0, none⟩)] W fun e w' => e = .returned (.int .i64 (m.made.length : Int)) ∧ w' = W := by
  have hN := none_w h
  have c0 := h.blk.cell 5
  simp only [Wm.cells, List.getElem?_toArray, List.getElem?_cons_zero, List.getElem?_cons_succ] at c0
  clear h
  go_enter Try.func38, Try.ntmps38
  go_wp2_with fail
  refine hN.mono ?_
  rintro e w' ⟨rfl, rfl⟩
  go_wp2
  go_ret
  exact ⟨rfl, rfl⟩

theorem side_w (h : m.Ok lo W) (s : Int) : Calls Try.prog 40 #[.pointer (some ⟨m.wb, 0, none⟩), .int .i64 s] W fun e w' => e = .returned (.bool (decide (0 ≤ s ∧ s < (m.made.length : Int)))) ∧ w' = W := by
  have hN := Sides_w h
  clear h
  by_cases h0 : 0 ≤ s
  · by_cases h1 : s < (m.made.length : Int)
    · have hd : decide (0 ≤ s ∧ s < (m.made.length : Int)) = true := by simp [h0, h1]
      rw [hd]
      go_enter Try.func40, Try.ntmps40
      go_wp2_with fail
      refine hN.mono ?_
      rintro e w' ⟨rfl, rfl⟩
      go_wp2
      go_ret
      exact ⟨rfl, rfl⟩
    · have hd : decide (0 ≤ s ∧ s < (m.made.length : Int)) = false := by simp [h0, h1]
      have h2 : decide (s < (m.made.length : Int)) = false := by simp [h1]
      rw [hd]
      clear h1
      go_enter Try.func40, Try.ntmps40
      go_wp2_with fail
      refine hN.mono ?_
      rintro e w' ⟨rfl, rfl⟩
      go_wp2
      go_ret
      exact ⟨rfl, rfl⟩
  · have hd : decide (0 ≤ s ∧ s < (m.made.length : Int)) = false := by simp [h0]
    rw [hd]
    go_enter Try.func40, Try.ntmps40
    go_wp2
    go_ret
    exact ⟨rfl, rfl⟩

theorem Is_w (h : m.Ok lo W) (r : Int) : Calls Try.prog 27 #[.pointer (some ⟨m.wb, 0, none⟩), .int .i64 r] W fun e w' => e = .returned (.bool (m.get r).isSome) ∧ w' = W := by
  have hN := none_w h
  have hl := look_thing h r
  have c0 := h.blk.cell 2
  simp only [Wm.cells, List.getElem?_toArray, List.getElem?_cons_zero, List.getElem?_cons_succ] at c0
  clear h
  go_enter Try.func27, Try.ntmps27
  go_wp2_with fail
  refine hN.mono ?_
  rintro e w' ⟨rfl, rfl⟩
  cases hg : m.get r with
  | none =>
    rw [hg] at hl
    simp only [Option.map_none] at hl
    go_wp2
    go_ret
    exact ⟨by rw [hg]; rfl, rfl⟩
  | some x =>
    rw [hg] at hl
    simp only [Option.map_some] at hl
    go_wp2
    go_ret
    exact ⟨by rw [hg]; rfl, rfl⟩
theorem Kind_w (h : m.Ok lo W) (r : Int) : Calls Try.prog 43 #[.pointer (some ⟨m.wb, 0, none⟩), .int .i64 r] W fun e w' => e = .returned (.int .u8 (m.kind r)) ∧ w' = W := by
  have hI := Is_w h r
  have hl := look_thing h r
  have c0 := h.blk.cell 2
  simp only [Wm.cells, List.getElem?_toArray, List.getElem?_cons_zero, List.getElem?_cons_succ] at c0
  unfold Wm.kind
  cases hg : m.get r with
  | none =>
    rw [hg] at hI hl
    clear h hg
    go_enter Try.func43, Try.ntmps43
    go_wp2_with fail
    refine hI.mono ?_
    rintro e w' ⟨rfl, rfl⟩
    go_wp2
    go_ret
    exact ⟨rfl, rfl⟩
  | some x =>
    have hx := Wm.get_mem hg
    have d0 : W.cell? ⟨x.1, 0, none⟩ = some (.int .u8 x.2.kind) := (h.box x hx).cell 0
    rw [hg] at hI hl
    simp only [Option.map_some] at hl
    clear h hg hx
    go_enter Try.func43, Try.ntmps43
    go_wp2_with fail
    refine hI.mono ?_
    rintro e w' ⟨rfl, rfl⟩
    go_wp2
    go_ret
    exact ⟨rfl, rfl⟩

/-- The home of a thing that is no facet. -/
theorem Home_w (h : m.Ok lo W) {r : Int} {x : Nat × Th} (hg : m.get r = some x) (hk : x.2.kind ≠ 14) : Calls Try.prog 44 #[.pointer (some ⟨m.wb, 0, none⟩), .int .i64 r] W fun e w' => e = .returned (.tuple #[.int .i64 x.2.home, .bool true]) ∧ w' = W := by
  have hI := Is_w h r
  have hl := look_thing h r
  have c0 := h.blk.cell 2
  simp only [Wm.cells, List.getElem?_toArray, List.getElem?_cons_zero, List.getElem?_cons_succ] at c0
  have hx := Wm.get_mem hg
  have d0 : W.cell? ⟨x.1, 0, none⟩ = some (.int .u8 x.2.kind) := (h.box x hx).cell 0
  have d1 : W.cell? ⟨x.1, 1, none⟩ = some (.int .i64 x.2.home) := (h.box x hx).cell 1
  have hk' : (x.2.kind == 14) = false := by simpa using hk
  rw [hg] at hI hl
  simp only [Option.map_some] at hl
  clear h hg hx hk
  go_enter Try.func44, Try.ntmps44
  go_wp2_with fail
  refine hI.mono ?_
  rintro e w' ⟨rfl, rfl⟩
  go_wp2
  go_ret2
  exact ⟨rfl, rfl⟩

theorem Made_w (h : m.Ok lo W) {s : Nat} (hs : s < m.made.length) : Calls Try.prog 12 #[.pointer (some ⟨m.wb, 0, none⟩), .int .i64 (s : Int)] W fun e w' => e = .returned (.int .i64 (m.made[s] : Int)) ∧ w' = W := by
  have hI := side_w h (s : Int)
  have hd : decide (0 ≤ (s : Int) ∧ (s : Int) < (m.made.length : Int)) = true := by simp; omega
  rw [hd] at hI
  have c0 := h.blk.cell 5
  simp only [Wm.cells, List.getElem?_toArray, List.getElem?_cons_zero, List.getElem?_cons_succ] at c0
  obtain ⟨A, c, hA⟩ := owns_form h.made
  simp only [Value.slice.injEq, true_and] at hA
  have hz : 0 < m.made.length := by omega
  obtain ⟨g, c, hA2, hg0, hg1⟩ := h.made.form hz
  simp only [Value.slice.injEq, true_and] at hA2
  have d1 : W.cell? ⟨g, s, none⟩ = some (.int .i64 (m.made[s] : Int)) := by
    have := World.ownsRow.cells h.made (g := g) (by rw [hA2.1]; rfl) s (.int .i64 (m.made[s] : Int)) (by simp [hs])
    rwa [add_at, Nat.zero_add] at this
  rw [hA2.1, hA2.2] at c0
  generalize m.made[s] = v at *
  have hb : m.wb < W.heap.size := h.blk.lt
  clear h hA hA2 hd
  go_enter Try.func12, Try.ntmps12
  go_wp2_with fail
  refine hI.mono ?_
  rintro e w' ⟨rfl, rfl⟩
  go_wp2
  go_ret
  exact ⟨rfl, rfl⟩

theorem there_w (h : m.Ok lo W) : Calls Try.prog 37 #[.pointer (some ⟨m.wb, 0, none⟩)] W fun e w' => e = .returned (.bool true) ∧ w' = W := by
  have hS := Sides_w h
  have h1 : decide (0 < m.made.length) = true := by have := h.sides; simp; omega
  clear h
  go_enter Try.func37, Try.ntmps37
  go_wp2_with fail
  refine hS.mono ?_
  rintro e w' ⟨rfl, rfl⟩
  go_wp2
  go_ret
  exact ⟨rfl, rfl⟩
end

end Go.Proofs.Ytnddfiohofnbaaa

/- Worlds of whatever things: none, Sides, side, Is, Kind, Home, Made. -/
namespace Go.Proofs.Ytnddfiohofnbaaa
open Go.RowKit

section
variable {m : Gm} {lo : Nat} {W : World}

theorem gnone_w (h : m.Ok lo W) : Calls Try.prog 45 #[.pointer (some ⟨m.wb, 0, none⟩)] W fun e w' => e = .returned (.bool false) ∧ w' = W := by
  have c0 := h.blk.cell 2
  simp only [Gm.cells, List.getElem?_toArray, List.getElem?_cons_zero, List.getElem?_cons_succ] at c0
  have hq := map_neq_nil
  clear h
  go_enter Try.func45, Try.ntmps45
  go_wp2
  go_ret
  exact ⟨rfl, rfl⟩

theorem gSides_w (h : m.Ok lo W) : Calls Try.prog 38 #[.pointer (some ⟨m.wb, 0, none⟩)] W fun e w' => e = .returned (.int .i64 (m.made.length : Int)) ∧ w' = W := by
  have hN := gnone_w h
  have c0 := h.blk.cell 5
  simp only [Gm.cells, List.getElem?_toArray, List.getElem?_cons_zero, List.getElem?_cons_succ] at c0
  clear h
  go_enter Try.func38, Try.ntmps38
  go_wp2_with fail
  refine hN.mono ?_
  rintro e w' ⟨rfl, rfl⟩
  go_wp2
  go_ret
  exact ⟨rfl, rfl⟩

theorem gside_w (h : m.Ok lo W) (s : Int) : Calls Try.prog 40 #[.pointer (some ⟨m.wb, 0, none⟩), .int .i64 s] W fun e w' => e = .returned (.bool (decide (0 ≤ s ∧ s < (m.made.length : Int)))) ∧ w' = W := by
  have hN := gSides_w h
  clear h
  by_cases h0 : 0 ≤ s
  · by_cases h1 : s < (m.made.length : Int)
    · have hd : decide (0 ≤ s ∧ s < (m.made.length : Int)) = true := by simp [h0, h1]
      rw [hd]
      go_enter Try.func40, Try.ntmps40
      go_wp2_with fail
      refine hN.mono ?_
      rintro e w' ⟨rfl, rfl⟩
      go_wp2
      go_ret
      exact ⟨rfl, rfl⟩
    · have hd : decide (0 ≤ s ∧ s < (m.made.length : Int)) = false := by simp [h0, h1]
      have h2 : decide (s < (m.made.length : Int)) = false := by simp [h1]
      rw [hd]
      clear h1
      go_enter Try.func40, Try.ntmps40
      go_wp2_with fail
      refine hN.mono ?_
      rintro e w' ⟨rfl, rfl⟩
      go_wp2
      go_ret
      exact ⟨rfl, rfl⟩
  · have hd : decide (0 ≤ s ∧ s < (m.made.length : Int)) = false := by simp [h0]
    rw [hd]
    go_enter Try.func40, Try.ntmps40
    go_wp2
    go_ret
    exact ⟨rfl, rfl⟩

theorem gIs_w (h : m.Ok lo W) (r : Int) : Calls Try.prog 27 #[.pointer (some ⟨m.wb, 0, none⟩), .int .i64 r] W fun e w' => e = .returned (.bool (m.get r).isSome) ∧ w' = W := by
  have hN := gnone_w h
  have hl := gook_thing h r
  have c0 := h.blk.cell 2
  simp only [Gm.cells, List.getElem?_toArray, List.getElem?_cons_zero, List.getElem?_cons_succ] at c0
  clear h
  go_enter Try.func27, Try.ntmps27
  go_wp2_with fail
  refine hN.mono ?_
  rintro e w' ⟨rfl, rfl⟩
  cases hg : m.get r with
  | none =>
    rw [hg] at hl
    simp only [Option.map_none] at hl
    go_wp2
    go_ret
    exact ⟨by rw [hg]; rfl, rfl⟩
  | some x =>
    rw [hg] at hl
    simp only [Option.map_some] at hl
    go_wp2
    go_ret
    exact ⟨by rw [hg]; rfl, rfl⟩
theorem gKind_w (h : m.Ok lo W) (r : Int) : Calls Try.prog 43 #[.pointer (some ⟨m.wb, 0, none⟩), .int .i64 r] W fun e w' => e = .returned (.int .u8 (m.kind r)) ∧ w' = W := by
  have hI := gIs_w h r
  have hl := gook_thing h r
  have c0 := h.blk.cell 2
  simp only [Gm.cells, List.getElem?_toArray, List.getElem?_cons_zero, List.getElem?_cons_succ] at c0
  unfold Gm.kind
  cases hg : m.get r with
  | none =>
    rw [hg] at hI hl
    clear h hg
    go_enter Try.func43, Try.ntmps43
    go_wp2_with fail
    refine hI.mono ?_
    rintro e w' ⟨rfl, rfl⟩
    go_wp2
    go_ret
    exact ⟨rfl, rfl⟩
  | some x =>
    have hx := Gm.get_mem hg
    have d0 : W.cell? ⟨x.1, 0, none⟩ = some (.int .u8 x.2.kind) := (h.box _ hx).cell 0
    rw [hg] at hI hl
    simp only [Option.map_some] at hl
    clear h hg hx
    go_enter Try.func43, Try.ntmps43
    go_wp2_with fail
    refine hI.mono ?_
    rintro e w' ⟨rfl, rfl⟩
    go_wp2
    go_ret
    exact ⟨rfl, rfl⟩

/-- The home of a thing that is no facet. -/
theorem gHome_w (h : m.Ok lo W) {r : Int} {x : Nat × Tg} (hg : m.get r = some x) (hk : x.2.kind ≠ 14) : Calls Try.prog 44 #[.pointer (some ⟨m.wb, 0, none⟩), .int .i64 r] W fun e w' => e = .returned (.tuple #[.int .i64 x.2.home, .bool true]) ∧ w' = W := by
  have hI := gIs_w h r
  have hl := gook_thing h r
  have c0 := h.blk.cell 2
  simp only [Gm.cells, List.getElem?_toArray, List.getElem?_cons_zero, List.getElem?_cons_succ] at c0
  have hx := Gm.get_mem hg
  have d0 : W.cell? ⟨x.1, 0, none⟩ = some (.int .u8 x.2.kind) := (h.box _ hx).cell 0
  have d1 : W.cell? ⟨x.1, 1, none⟩ = some (.int .i64 x.2.home) := (h.box _ hx).cell 1
  have hk' : (x.2.kind == 14) = false := by simpa using hk
  rw [hg] at hI hl
  simp only [Option.map_some] at hl
  clear h hg hx hk
  go_enter Try.func44, Try.ntmps44
  go_wp2_with fail
  refine hI.mono ?_
  rintro e w' ⟨rfl, rfl⟩
  go_wp2
  go_ret2
  exact ⟨rfl, rfl⟩

theorem gMade_w (h : m.Ok lo W) {s : Nat} (hs : s < m.made.length) : Calls Try.prog 12 #[.pointer (some ⟨m.wb, 0, none⟩), .int .i64 (s : Int)] W fun e w' => e = .returned (.int .i64 m.made[s]) ∧ w' = W := by
  have hI := gside_w h (s : Int)
  have hd : decide (0 ≤ (s : Int) ∧ (s : Int) < (m.made.length : Int)) = true := by simp; omega
  rw [hd] at hI
  have c0 := h.blk.cell 5
  simp only [Gm.cells, List.getElem?_toArray, List.getElem?_cons_zero, List.getElem?_cons_succ] at c0
  obtain ⟨A, c, hA⟩ := owns_form h.made
  simp only [Value.slice.injEq, true_and] at hA
  have hz : 0 < m.made.length := by omega
  obtain ⟨g, c, hA2, hg0, hg1⟩ := h.made.form hz
  simp only [Value.slice.injEq, true_and] at hA2
  have d1 : W.cell? ⟨g, s, none⟩ = some (.int .i64 m.made[s]) := by
    have := World.ownsRow.cells h.made (g := g) (by rw [hA2.1]; rfl) s (.int .i64 m.made[s]) (by simp [hs])
    rwa [add_at, Nat.zero_add] at this
  rw [hA2.1, hA2.2] at c0
  generalize m.made[s] = v at *
  have hb : m.wb < W.heap.size := h.blk.lt
  clear h hA hA2 hd
  go_enter Try.func12, Try.ntmps12
  go_wp2_with fail
  refine hI.mono ?_
  rintro e w' ⟨rfl, rfl⟩
  go_wp2
  go_ret
  exact ⟨rfl, rfl⟩

theorem gthere_w (h : m.Ok lo W) : Calls Try.prog 37 #[.pointer (some ⟨m.wb, 0, none⟩)] W fun e w' => e = .returned (.bool true) ∧ w' = W := by
  have hS := gSides_w h
  have h1 : decide (0 < m.made.length) = true := by have := h.sides; simp; omega
  clear h
  go_enter Try.func37, Try.ntmps37
  go_wp2_with fail
  refine hS.mono ?_
  rintro e w' ⟨rfl, rfl⟩
  go_wp2
  go_ret
  exact ⟨rfl, rfl⟩
end

end Go.Proofs.Ytnddfiohofnbaaa

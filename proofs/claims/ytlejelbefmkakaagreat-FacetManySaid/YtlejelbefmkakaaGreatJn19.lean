/- Texts joined: Gn. -/
import Derived.Test.YtlejelbefmkakaaGreatJn1
import Derived.Test.YtlejelbefmkakaaGreatJn9
import Derived.Test.YtlejelbefmkakaaGreatJn18
import Derived.Deep.Cut
namespace Go.Proofs.YtlejelbefmkakaaGreat
open Go.RowKit
theorem mk_expr {k n : Int} {s : ByteArray} {A : Option Addr} {l : List G} {z : Nat} (h : FitE k n s l.length z) (t : ∀ x ∈ l, Ty 308 x) : Ty 308 (.mk [.int .u8 k, .int .i64 n, .string s, .slice A l.length z] [(A, l)]) := by
 refine .mk _ _ _ ?_ fun i e A' l' x he hs hx => ?_
 · rw [flat_expr]
   exact ⟨⟨k, rfl, wf_of_u8 h.k0 h.k1⟩, ⟨n, rfl, wf_of_i64 h.n0 h.n1⟩, ⟨s, rfl, h.s1⟩, ⟨z, rfl, h.cap1, h.len1⟩, rfl, rfl⟩
 · rw [flat_expr] at he
   cases i with
   | zero => simp [sls] at he hs; obtain ⟨rfl, rfl⟩ := hs; subst he; exact t x hx
   | succ i => simp at hs
theorem mk_stmt {op : Int} {nm sc : ByteArray} {ab wh k1 n1 : Int} {s1 : ByteArray} {A1 : Option Addr} {l1 : List G} {z1 : Nat} {k2 n2 : Int} {s2 : ByteArray} {A2 : Option Addr} {l2 : List G} {z2 : Nat} {A3 : Option Addr} {l3 : List G} {z3 : Nat} {A4 : Option Addr} {l4 : List G} {z4 : Nat} {A5 : Option Addr} {l5 : List G} {z5 : Nat} {A6 : Option Addr} {l6 : List G} {z6 : Nat}
 (h1 : FitS op nm sc ab wh l3.length l4.length l5.length l6.length z3 z4 z5 z6) (h2 : FitE k1 n1 s1 l1.length z1) (h3 : FitE k2 n2 s2 l2.length z2) (t1 : ∀ x ∈ l1, Ty 308 x) (t2 : ∀ x ∈ l2, Ty 308 x) (t3 : ∀ x ∈ l3, Ty 311 x) (t4 : ∀ x ∈ l4, Ty 311 x) (t5 : ∀ x ∈ l5, Ty 311 x) (t6 : ∀ x ∈ l6, Ty 9 x) :
 Ty 311 (.mk (stC op nm sc ab wh k1 n1 s1 A1 l1.length z1 k2 n2 s2 A2 l2.length z2 A3 l3.length z3 A4 l4.length z4 A5 l5.length z5 A6 l6.length z6) [(A1, l1), (A2, l2), (A3, l3), (A4, l4), (A5, l5), (A6, l6)]) := by
 refine .mk _ _ _ ?_ fun i e A' l' x he hs hx => ?_
 · rw [flat_stmt]
   exact ⟨⟨op, rfl, wf_of_u8 h1.op0.1 h1.op0.2⟩, ⟨nm, rfl, h1.nm1⟩, ⟨sc, rfl, h1.sc1⟩, ⟨ab, rfl, wf_of_u8 h1.ab0.1 h1.ab0.2⟩, ⟨wh, rfl, wf_of_u8 h1.wh0.1 h1.wh0.2⟩, ⟨k1, rfl, wf_of_u8 h2.k0 h2.k1⟩, ⟨n1, rfl, wf_of_i64 h2.n0 h2.n1⟩, ⟨s1, rfl, h2.s1⟩, ⟨z1, rfl, h2.cap1, h2.len1⟩,
    ⟨k2, rfl, wf_of_u8 h3.k0 h3.k1⟩, ⟨n2, rfl, wf_of_i64 h3.n0 h3.n1⟩, ⟨s2, rfl, h3.s1⟩, ⟨z2, rfl, h3.cap1, h3.len1⟩, ⟨z3, rfl, h1.th1.2, h1.th1.1⟩, ⟨z4, rfl, h1.el1.2, h1.el1.1⟩, ⟨z5, rfl, h1.co1.2, h1.co1.1⟩, ⟨z6, rfl, h1.wi1.2, h1.wi1.1⟩, rfl, rfl⟩
 · rw [flat_stmt] at he
   have hi : i = 0 ∨ i = 1 ∨ i = 2 ∨ i = 3 ∨ i = 4 ∨ i = 5 ∨ 6 ≤ i := by omega
   rcases hi with rfl | rfl | rfl | rfl | rfl | rfl | hi
   · simp [sls] at he hs; obtain ⟨rfl, rfl⟩ := hs; subst he; exact t1 x hx
   · simp [sls] at he hs; obtain ⟨rfl, rfl⟩ := hs; subst he; exact t2 x hx
   · simp [sls] at he hs; obtain ⟨rfl, rfl⟩ := hs; subst he; exact t3 x hx
   · simp [sls] at he hs; obtain ⟨rfl, rfl⟩ := hs; subst he; exact t4 x hx
   · simp [sls] at he hs; obtain ⟨rfl, rfl⟩ := hs; subst he; exact t5 x hx
   · simp [sls] at he hs; obtain ⟨rfl, rfl⟩ := hs; subst he; exact t6 x hx
   · rw [List.getElem?_eq_none (by simp; omega)] at hs; cases hs
def OwnCP (l : List G) (w : World) (e : Ending) (w' : World) : Prop :=
 ∃ (A' : Option Addr) (c' : Nat) (l' : List G), e = .returned (.slice A' l.length c') ∧ l'.length = l.length ∧ l.length ≤ c' ∧ (∀ x ∈ l', Ty 311 x) ∧ l'.map G.er = l.map G.er ∧ (G.row A' l').In w' w.heap.size w'.heap.size ∧ (G.row A' l').Td w' ∧ Fr No w w'
def CodeC (g : G) : Prop := ∀ (A : Option Addr) (l : List G), (A, l) ∈ g.subs → ∀ (w : World) (lo hi cap : Nat), CdRow w lo hi A cap l → hi ≤ w.heap.size → Calls Tryz.prog 202 #[.slice A l.length cap] w (OwnCP l w)
def oc5 (gb : Nat) (u v : Value) (x y : G) : RcS G where
 cs i := i == 2 || i == 5
 ss i := i == 7 || i == 9
 dep j c := if j = 7 then decide (c ≤ 6) else if j = 9 then decide (c ≤ 8) else false
 E r i := match i with
  | 0 => .pointer (some ⟨gb, 5, none⟩)
  | 1 => u
  | 2 => .agg (r 2).c.toArray
  | 3 => .pointer (some ⟨gb, 9, none⟩)
  | 4 => v
  | 5 => .agg (r 5).c.toArray
  | 6 => .pointer (some ⟨gb, 5, none⟩)
  | 8 => .pointer (some ⟨gb, 9, none⟩)
  | _ => undef
 P c b lo w := Ty 308 b ∧ b.er = (if c = 2 then x else y).er ∧ b.In w lo w.heap.size ∧ b.Td w
 M f r w := if f 9 = true then setRow (if f 7 = true then setRow w gb 5 (r 2).c else w) gb 9 (r 5).c else if f 7 = true then setRow w gb 5 (r 2).c else w
theorem setRow_blk {g : Nat} {t : TypeId} : ∀ (us : List Value) (o : Nat) (w : World) (cs : Array Value), Blk w g t cs → ∃ cs', Blk (setRow w g o us) g t cs' ∧ cs'.size = cs.size
 | [], _, _, cs, h => ⟨cs, h, rfl⟩
 | u :: us, o, w, cs, h => by
  obtain ⟨cs', h1, h2⟩ := setRow_blk us (o + 1) _ _ (h.set_ o u)
  exact ⟨cs', h1, by rw [h2]; simp⟩
theorem blk_cells {w : World} {g : Nat} {t : TypeId} {cs : Array Value} (h : Blk w g t cs) {k : Nat} (hk : k < cs.size) : ∃ v, w.cell? ⟨g, k, none⟩ = some v :=
 ⟨cs[k], (h.cell k).trans (Array.getElem?_eq_getElem hk)⟩
section
variable {gb : Nat} {u v : Value} {x y : G} {f : Nat → Bool} {r : Nat → G} {w w3 : World}
theorem oc5_ok (gb : Nat) (u v : Value) (x y : G) : (oc5 gb u v x y).Ok := by
 refine ⟨fun r r' j h => ?_, fun c b lo w w' h f => ⟨h.1, h.2.1, G.In.more (Nat.le_refl _) f.size _ (h.2.2.1.no f (Nat.le_refl _)), h.2.2.2.fr f fun _ _ h => h⟩, fun f r w h => ?_, fun f i r w h => ?_, fun s c hs hc => ?_⟩
 · by_cases e2 : j = 2
   · subst e2; show Value.agg _ = Value.agg _; rw [h 2 rfl (.inr rfl)]
   by_cases e5 : j = 5
   · subst e5; show Value.agg _ = Value.agg _; rw [h 5 rfl (.inr rfl)]
   · unfold oc5
     dsimp only
     split <;> first | rfl | omega
 · simp [oc5, h 7 rfl, h 9 rfl]
 · simp [oc5] at h
   simp [oc5, upd, Ne.symm h.1, Ne.symm h.2]
 · simp [oc5] at hs hc
   rcases hs with rfl | rfl <;> rcases hc with rfl | rfl <;> rfl
theorem oc5_dep {i s : Nat} (hi : i ≤ 6) (hs : (oc5 gb u v x y).ss s = true) : (oc5 gb u v x y).dep s i = true := by
 simp [oc5] at hs
 rcases hs with rfl | rfl
 · simp [oc5, hi]
 · simp [oc5]; omega
theorem oc5_st7 (h7 : f 7 = false) (h9 : f 9 = false) (h : w = (oc5 gb u v x y).M f r w3) : setRow w gb 5 (r 2).c = (oc5 gb u v x y).M (upd f 7) r w3 := by
 subst h
 simp [oc5, upd, h7, h9]
theorem oc5_st9 (h7 : f 7 = true) (h9 : f 9 = false) (h : w = (oc5 gb u v x y).M f r w3) : setRow w gb 9 (r 5).c = (oc5 gb u v x y).M (upd f 9) r w3 := by
 subst h
 simp [oc5, upd, h7, h9]
theorem oc5_blk {t : TypeId} {cs : Array Value} (h : Blk w3 gb t cs) : ∃ cs', Blk ((oc5 gb u v x y).M f r w3) gb t cs' ∧ cs'.size = cs.size := by
 have h1 : ∃ cs', Blk (if f 7 = true then setRow w3 gb 5 (r 2).c else w3) gb t cs' ∧ cs'.size = cs.size := by
  split
  · exact setRow_blk _ _ _ _ h
  · exact ⟨cs, h, rfl⟩
 obtain ⟨cs1, h2, h3⟩ := h1
 simp only [oc5]
 split
 · obtain ⟨cs2, h4, h5⟩ := setRow_blk (r 5).c 9 _ _ h2
   exact ⟨cs2, h4, by rw [h5, h3]⟩
 · exact ⟨cs1, h2, h3⟩
end
def oc6 (gb : Nat) (A3 A4 A5 : Option Addr) (z3 z4 z5 : Nat) (l3 l4 l5 : List G) : RcS (Option Addr × Nat × List G) where
 cs i := i == 2 || i == 5 || i == 8
 ss i := i == 10 || i == 12 || i == 14
 dep j c := if j = 10 then decide (c ≤ 9) else if j = 12 then decide (c ≤ 11) else if j = 14 then decide (c ≤ 13) else if j = 5 then c == 2 else if j = 8 then c == 2 || c == 5 else false
 E r i := match i with
  | 0 => .pointer (some ⟨gb, 13, none⟩)
  | 1 => .slice A3 l3.length z3
  | 2 => .slice (r 2).1 l3.length (r 2).2.1
  | 3 => .pointer (some ⟨gb, 14, none⟩)
  | 4 => .slice A4 l4.length z4
  | 5 => .slice (r 5).1 l4.length (r 5).2.1
  | 6 => .pointer (some ⟨gb, 15, none⟩)
  | 7 => .slice A5 l5.length z5
  | 8 => .slice (r 8).1 l5.length (r 8).2.1
  | 9 => .pointer (some ⟨gb, 13, none⟩)
  | 11 => .pointer (some ⟨gb, 14, none⟩)
  | 13 => .pointer (some ⟨gb, 15, none⟩)
  | _ => undef
 P c b lo w := b.2.2.length = (if c = 2 then l3 else if c = 5 then l4 else l5).length ∧ (if c = 2 then l3 else if c = 5 then l4 else l5).length ≤ b.2.1 ∧ (∀ x ∈ b.2.2, Ty 311 x) ∧ b.2.2.map G.er = (if c = 2 then l3 else if c = 5 then l4 else l5).map G.er ∧ (G.row b.1 b.2.2).In w lo w.heap.size ∧ (G.row b.1 b.2.2).Td w
 M f r w :=
  let w1 := if f 10 = true then w.setCell ⟨gb, 13, none⟩ (.slice (r 2).1 l3.length (r 2).2.1) else w
  let w2 := if f 12 = true then w1.setCell ⟨gb, 14, none⟩ (.slice (r 5).1 l4.length (r 5).2.1) else w1
  if f 14 = true then w2.setCell ⟨gb, 15, none⟩ (.slice (r 8).1 l5.length (r 8).2.1) else w2
section
variable {gb : Nat} {A3 A4 A5 : Option Addr} {z3 z4 z5 : Nat} {l3 l4 l5 : List G} {f : Nat → Bool} {r : Nat → Option Addr × Nat × List G} {w w3 : World}
theorem oc6_ok (gb : Nat) (A3 A4 A5 : Option Addr) (z3 z4 z5 : Nat) (l3 l4 l5 : List G) : (oc6 gb A3 A4 A5 z3 z4 z5 l3 l4 l5).Ok := by
 refine ⟨fun r r' j h => ?_, fun c b lo w w' h f => ⟨h.1, h.2.1, h.2.2.1, h.2.2.2.1, G.In.more (Nat.le_refl _) f.size _ (h.2.2.2.2.1.no f (Nat.le_refl _)), h.2.2.2.2.2.fr f fun _ _ h => h⟩, fun f r w h => ?_, fun f i r w h => ?_, fun s c hs hc => ?_⟩
 · by_cases e2 : j = 2
   · subst e2; show Value.slice _ _ _ = Value.slice _ _ _; rw [h 2 rfl (.inr rfl)]
   by_cases e5 : j = 5
   · subst e5; show Value.slice _ _ _ = Value.slice _ _ _; rw [h 5 rfl (.inr rfl)]
   by_cases e8 : j = 8
   · subst e8; show Value.slice _ _ _ = Value.slice _ _ _; rw [h 8 rfl (.inr rfl)]
   · unfold oc6
     dsimp only
     split <;> first | rfl | omega
 · simp [oc6, h 10 rfl, h 12 rfl, h 14 rfl]
 · simp [oc6] at h
   simp [oc6, upd, Ne.symm h.1.1, Ne.symm h.1.2, Ne.symm h.2]
 · simp [oc6] at hs hc
   rcases hs with (rfl | rfl) | rfl <;> rcases hc with (rfl | rfl) | rfl <;> rfl
theorem oc6_dep {i s : Nat} (hi : i ≤ 9) (hs : (oc6 gb A3 A4 A5 z3 z4 z5 l3 l4 l5).ss s = true) : (oc6 gb A3 A4 A5 z3 z4 z5 l3 l4 l5).dep s i = true := by
 simp [oc6] at hs
 rcases hs with (rfl | rfl) | rfl
 · simp [oc6, hi]
 · simp [oc6]; omega
 · simp [oc6]; omega
theorem oc6_st10 (h1 : f 10 = false) (h2 : f 12 = false) (h3 : f 14 = false) (h : w = (oc6 gb A3 A4 A5 z3 z4 z5 l3 l4 l5).M f r w3) : w.setCell ⟨gb, 13, none⟩ (.slice (r 2).1 l3.length (r 2).2.1) = (oc6 gb A3 A4 A5 z3 z4 z5 l3 l4 l5).M (upd f 10) r w3 := by
 subst h
 simp [oc6, upd, h1, h2, h3]
theorem oc6_st12 (h1 : f 10 = true) (h2 : f 12 = false) (h3 : f 14 = false) (h : w = (oc6 gb A3 A4 A5 z3 z4 z5 l3 l4 l5).M f r w3) : w.setCell ⟨gb, 14, none⟩ (.slice (r 5).1 l4.length (r 5).2.1) = (oc6 gb A3 A4 A5 z3 z4 z5 l3 l4 l5).M (upd f 12) r w3 := by
 subst h
 simp [oc6, upd, h1, h2, h3]
theorem oc6_st14 (h1 : f 10 = true) (h2 : f 12 = true) (h3 : f 14 = false) (h : w = (oc6 gb A3 A4 A5 z3 z4 z5 l3 l4 l5).M f r w3) : w.setCell ⟨gb, 15, none⟩ (.slice (r 8).1 l5.length (r 8).2.1) = (oc6 gb A3 A4 A5 z3 z4 z5 l3 l4 l5).M (upd f 14) r w3 := by
 subst h
 simp [oc6, upd, h1, h2, h3]
theorem set_blk {g i : Nat} {t : TypeId} {cs : Array Value} {w : World} {u : Value} {q : Bool} (h : Blk w g t cs) : ∃ cs', Blk (if q = true then w.setCell ⟨g, i, none⟩ u else w) g t cs' ∧ cs'.size = cs.size := by
 split
 · exact ⟨_, h.set_ i u, by simp⟩
 · exact ⟨cs, h, rfl⟩
theorem oc6_blk {t : TypeId} {cs : Array Value} (h : Blk w3 gb t cs) : ∃ cs', Blk ((oc6 gb A3 A4 A5 z3 z4 z5 l3 l4 l5).M f r w3) gb t cs' ∧ cs'.size = cs.size := by
 obtain ⟨c1, h1, e1⟩ := set_blk (i := 13) (u := .slice (r 2).1 l3.length (r 2).2.1) (q := f 10) h
 obtain ⟨c2, h2, e2⟩ := set_blk (i := 14) (u := .slice (r 5).1 l4.length (r 5).2.1) (q := f 12) h1
 obtain ⟨c3, h3, e3⟩ := set_blk (i := 15) (u := .slice (r 8).1 l5.length (r 8).2.1) (q := f 14) h2
 exact ⟨c3, h3, by rw [e3, e2, e1]⟩
end
theorem row_mv {A : Option Addr} {l : List G} {gb : Nat} {w w' : World} (h : (G.row A l).In w (gb + 1) w.heap.size ∧ (G.row A l).Td w) (f : Fr (fun i => i = gb) w w') : (G.row A l).In w' (gb + 1) w'.heap.size ∧ (G.row A l).Td w' := by
 have h2 : ∀ b, (G.row A l).Has b → ¬ b = gb := fun b hb hh => by have := (G.In.has hb h.1).1; omega
 exact ⟨G.In.more (Nat.le_refl _) f.size _ (h.1.frH f (Nat.le_refl _) h2), h.2.fr f h2⟩
def R5 (w0 : World) (gb : Nat) (op : Int) (nm sc : ByteArray) (ab wh k1 n1 : Int) (s1 : ByteArray) (l1 : List G) (k2 n2 : Int) (s2 : ByteArray) (l2 : List G) (A3 : Option Addr) (z3 : Nat) (l3 : List G) (A4 : Option Addr) (z4 : Nat) (l4 : List G) (A5 : Option Addr) (z5 : Nat) (l5 : List G) (A6 : Option Addr) (z6 : Nat) (l6 : List G) (w : World) : Prop :=
 ∃ (B1 : Option Addr) (cp1 : Nat) (m1 : List G) (B2 : Option Addr) (cp2 : Nat) (m2 : List G), Blk w gb 311 #[.int .u8 op, .string nm, .string sc, .int .u8 ab, .int .u8 wh, .int .u8 k1, .int .i64 n1, .string s1, .slice B1 m1.length cp1, .int .u8 k2, .int .i64 n2, .string s2, .slice B2 m2.length cp2, .slice A3 l3.length z3, .slice A4 l4.length z4, .slice A5 l5.length z5, .slice A6 l6.length z6] ∧ Fr No w0 w ∧ ((G.row B1 m1).In w (gb + 1) w.heap.size ∧ (G.row B1 m1).Td w) ∧ ((G.row B2 m2).In w (gb + 1) w.heap.size ∧ (G.row B2 m2).Td w) ∧
  (FitE k1 n1 s1 m1.length cp1 ∧ (∀ x ∈ m1, Ty 308 x) ∧ m1.length = l1.length ∧ m1.map G.er = l1.map G.er) ∧ FitE k2 n2 s2 m2.length cp2 ∧ (∀ x ∈ m2, Ty 308 x) ∧ m2.length = l2.length ∧ m2.map G.er = l2.map G.er
def R6 (w0 : World) (gb : Nat) (op : Int) (nm sc : ByteArray) (ab wh k1 n1 : Int) (s1 : ByteArray) (l1 : List G) (k2 n2 : Int) (s2 : ByteArray) (l2 : List G) (_A3 : Option Addr) (_z3 : Nat) (l3 : List G) (_A4 : Option Addr) (_z4 : Nat) (l4 : List G) (_A5 : Option Addr) (_z5 : Nat) (l5 : List G) (A6 : Option Addr) (z6 : Nat) (l6 : List G) (w : World) : Prop :=
 ∃ (B1 : Option Addr) (cp1 : Nat) (m1 : List G) (B2 : Option Addr) (cp2 : Nat) (m2 : List G) (B3 : Option Addr) (cp3 : Nat) (m3 : List G) (B4 : Option Addr) (cp4 : Nat) (m4 : List G) (B5 : Option Addr) (cp5 : Nat) (m5 : List G), Blk w gb 311 #[.int .u8 op, .string nm, .string sc, .int .u8 ab, .int .u8 wh, .int .u8 k1, .int .i64 n1, .string s1, .slice B1 m1.length cp1, .int .u8 k2, .int .i64 n2, .string s2, .slice B2 m2.length cp2, .slice B3 l3.length cp3, .slice B4 l4.length cp4, .slice B5 l5.length cp5, .slice A6 l6.length z6] ∧ Fr No w0 w ∧ ((G.row B1 m1).In w (gb + 1) w.heap.size ∧ (G.row B1 m1).Td w) ∧ ((G.row B2 m2).In w (gb + 1) w.heap.size ∧ (G.row B2 m2).Td w) ∧
  ((G.row B3 m3).In w (gb + 1) w.heap.size ∧ (G.row B3 m3).Td w) ∧ ((G.row B4 m4).In w (gb + 1) w.heap.size ∧ (G.row B4 m4).Td w) ∧ ((G.row B5 m5).In w (gb + 1) w.heap.size ∧ (G.row B5 m5).Td w) ∧
  ((FitE k1 n1 s1 m1.length cp1 ∧ (∀ x ∈ m1, Ty 308 x) ∧ m1.length = l1.length ∧ m1.map G.er = l1.map G.er) ∧ FitE k2 n2 s2 m2.length cp2 ∧ (∀ x ∈ m2, Ty 308 x) ∧ m2.length = l2.length ∧ m2.map G.er = l2.map G.er) ∧
  (m3.length = l3.length ∧ l3.length ≤ cp3 ∧ (∀ x ∈ m3, Ty 311 x) ∧ m3.map G.er = l3.map G.er) ∧ (m4.length = l4.length ∧ l4.length ≤ cp4 ∧ (∀ x ∈ m4, Ty 311 x) ∧ m4.map G.er = l4.map G.er) ∧ m5.length = l5.length ∧ l5.length ≤ cp5 ∧ (∀ x ∈ m5, Ty 311 x) ∧ m5.map G.er = l5.map G.er
set_option maxRecDepth 100000 in
set_option maxHeartbeats 16000000 in
theorem ownCode_row (l : List G) (hC : ∀ x ∈ l, CodeC x) (w : World) (lo hi : Nat) (A : Option Addr) (cap : Nat) (hrow : CdRow w lo hi A cap l) (hh : hi ≤ w.heap.size) : Calls Tryz.prog 202 #[.slice A l.length cap] w (OwnCP l w) := by
 have hty := hrow.ty
 have hin := hrow.inn
 have hcl : ∀ x ∈ l, x.c.length = 17 := fun x hx => (hasTy_length (hty x hx)).trans (by rw [flat_stmt]; rfl)
 have hlies := lies_row hin hcl (fun x hx => ty_one (hty x hx)) (by omega)
 have hlen := hrow.len1
 have HC := hide fun W' (f : Fr No w W') => cloneStm A l.length cap (gCells l) W' lo hi (hlies.no f hh) (Nat.le_trans hh f.size) hlen
 have HIN := hide fun W' (f : Fr No w W') => hin.no f hh
 have HCC := hide hC
 have HCL := hide hcl
 have HTY := hide hty
 have HH := hide hh
 clear hlies hrow hin hty hC hcl
 go_enter Tryz.func202, Tryz.ntmps202
 go_wp2_with fail
 refine (HC.out w (Fr.refl No w)).mono ?_
 rintro e w1 ⟨A', c', rfl, ho, f1⟩
 have hst := OwnRI.start (w := w) ho f1 (Nat.le_refl _) f1.size
 have hcap := owns_leK ho
 have HST := hide hst
 have HCAP := hide hcap
 clear hst ho f1 hcap HC
 go_wp2_with fail
 go_loopw [9] (fun i wr => ∃ (j : Nat) (l' : List G), j ≤ l.length ∧ i = .int .i64 j ∧ OwnRI 311 17 w w.heap.size w1.heap.size A' c' l j l' wr) (fun i _ => l.length - (intOf i).toNat)
 case atStart => exact ⟨0, [], Nat.zero_le _, rfl, HST.out⟩
 case round =>
  obtain ⟨j, l', hj, rfl, inv⟩ := hrel
  have hcl' : ∀ x ∈ l', x.c.length = 17 := fun x hx => (hasTy_length (inv.ty x hx)).trans (by rw [flat_stmt]; rfl)
  by_cases hlt : j < l.length
  case neg =>
   obtain rfl : l.length = j := by omega
   have HI := hide inv
   have HCL' := hide hcl'
   clear inv hcl'
   go_wp2
   go_ret
   have inv := HI.out
   exact ⟨A', c', l', rfl, inv.len, HCAP.out, inv.ty, inv.ers, inv.row_in (by omega) HCL'.out, inv.row_td (.inr (.inr (.inl rfl))), inv.fr⟩
  obtain ⟨gr, rfl, hg0, hg1, hce, hfz⟩ := inv.at_ hlt HCL.out hcl'
  have hmem := List.getElem_mem hlt
  obtain ⟨-, -, -, -, -, hxin, -⟩ := G.row_at (HIN.out wr inv.fr) hlt
  have hcx := HCC.out _ hmem
  obtain ⟨op, nm, sc, ab, wh, k1, n1, s1, A1, l1, z1, k2, n2, s2, A2, l2, z2, A3, l3, z3, A4, l4, z4, A5, l5, z5, A6, l6, z6, hx, hfs, hf1, hf2, t1', t2', t3', t4', t5', t6'⟩ := ty_stmt (HTY.out _ hmem)
  rw [hx] at hce hxin hcx
  unfold stC at hce
  have hrows := G.in_rows.1 hxin
  have HINV := hide inv
  have HX := hide hx
  have hszr := inv.fr.size
  have hgl : gr < wr.heap.size := by have := inv.big.2.2; omega
  have HE1 := hide (fun W' (f : Fr No wr W') => ownExpr_any (.mk [.int .u8 k1, .int .i64 n1, .string s1, .slice A1 l1.length z1] [(A1, l1)]) W' lo hi (mk_expr hf1 t1') (G.in_rows.2 (by intro A' l' hm; simp at hm; obtain ⟨rfl, rfl⟩ := hm; exact (hrows _ _ (by simp)).no f (Nat.le_trans HH.out hszr))) (Nat.le_trans HH.out (Nat.le_trans hszr f.size)))
  have HE2 := hide (fun W' (f : Fr No wr W') => ownExpr_any (.mk [.int .u8 k2, .int .i64 n2, .string s2, .slice A2 l2.length z2] [(A2, l2)]) W' lo hi (mk_expr hf2 t2') (G.in_rows.2 (by intro A' l' hm; simp at hm; obtain ⟨rfl, rfl⟩ := hm; exact (hrows _ _ (by simp)).no f (Nat.le_trans HH.out hszr))) (Nat.le_trans HH.out (Nat.le_trans hszr f.size)))
  have HC3 := hide (fun W' (f : Fr No wr W') => hcx A3 l3 (by simp [G.subs]) W' lo hi z3 ⟨hfs.th1.1, hfs.th1.2, t3', (hrows A3 l3 (by simp)).no f (Nat.le_trans HH.out hszr)⟩ (Nat.le_trans HH.out (Nat.le_trans hszr f.size)))
  have HC4 := hide (fun W' (f : Fr No wr W') => hcx A4 l4 (by simp [G.subs]) W' lo hi z4 ⟨hfs.el1.1, hfs.el1.2, t4', (hrows A4 l4 (by simp)).no f (Nat.le_trans HH.out hszr)⟩ (Nat.le_trans HH.out (Nat.le_trans hszr f.size)))
  have HC5 := hide (fun W' (f : Fr No wr W') => hcx A5 l5 (by simp [G.subs]) W' lo hi z5 ⟨hfs.co1.1, hfs.co1.2, t5', (hrows A5 l5 (by simp)).no f (Nat.le_trans HH.out hszr)⟩ (Nat.le_trans HH.out (Nat.le_trans hszr f.size)))
  have hcl6 : ∀ x ∈ l6, x.c.length = 1 := fun x hx => (hasTy_length (t6' x hx)).trans (by rw [flat_str]; rfl)
  have HC6 := hide (fun W' (f : Fr No wr W') => cloneStr A6 l6.length z6 (gCells l6) W' lo hi ((lies_row (hrows A6 l6 (by simp)) hcl6 (fun x hx => ty_one (t6' x hx)) (by omega)).no f (Nat.le_trans HH.out hszr)) (Nat.le_trans HH.out (Nat.le_trans hszr f.size)) hfs.wi1.1)
  have HS := hide (And.intro hfs (And.intro hf1 hf2))
  have HT6 := hide (And.intro t6' hcl6)
  clear hrows hxin hcx hx inv hfs hf1 hf2 t1' t2' t3' t4' t5' t6' hcl6 hmem HCC hcl'
  have xc : ∀ i u, [.int .u8 op, .string nm, .string sc, .int .u8 ab, .int .u8 wh, .int .u8 k1, .int .i64 n1, .string s1, .slice A1 l1.length z1, .int .u8 k2, .int .i64 n2, .string s2, .slice A2 l2.length z2, .slice A3 l3.length z3, .slice A4 l4.length z4, .slice A5 l5.length z5, .slice A6 l6.length z6][i]? = some u → wr.cell? ⟨gr, j * 17 + i, none⟩ = some u := hce
  have x0 : wr.cell? ⟨gr, j * 17, none⟩ = some (.int .u8 op) := hce 0 _ rfl
  have x1 : wr.cell? ⟨gr, j * 17 + 1, none⟩ = some (.string nm) := hce 1 _ rfl
  have x2 : wr.cell? ⟨gr, j * 17 + 2, none⟩ = some (.string sc) := hce 2 _ rfl
  have x3 : wr.cell? ⟨gr, j * 17 + 3, none⟩ = some (.int .u8 ab) := hce 3 _ rfl
  have x4 : wr.cell? ⟨gr, j * 17 + 4, none⟩ = some (.int .u8 wh) := hce 4 _ rfl
  have x5 : wr.cell? ⟨gr, j * 17 + 5, none⟩ = some (.int .u8 k1) := hce 5 _ rfl
  have x6 : wr.cell? ⟨gr, j * 17 + 6, none⟩ = some (.int .i64 n1) := hce 6 _ rfl
  have x7 : wr.cell? ⟨gr, j * 17 + 7, none⟩ = some (.string s1) := hce 7 _ rfl
  have x8 : wr.cell? ⟨gr, j * 17 + 8, none⟩ = some (.slice A1 l1.length z1) := hce 8 _ rfl
  have x9 : wr.cell? ⟨gr, j * 17 + 9, none⟩ = some (.int .u8 k2) := hce 9 _ rfl
  have x10 : wr.cell? ⟨gr, j * 17 + 10, none⟩ = some (.int .i64 n2) := hce 10 _ rfl
  have x11 : wr.cell? ⟨gr, j * 17 + 11, none⟩ = some (.string s2) := hce 11 _ rfl
  have x12 : wr.cell? ⟨gr, j * 17 + 12, none⟩ = some (.slice A2 l2.length z2) := hce 12 _ rfl
  have x13 : wr.cell? ⟨gr, j * 17 + 13, none⟩ = some (.slice A3 l3.length z3) := hce 13 _ rfl
  have x14 : wr.cell? ⟨gr, j * 17 + 14, none⟩ = some (.slice A4 l4.length z4) := hce 14 _ rfl
  have x15 : wr.cell? ⟨gr, j * 17 + 15, none⟩ = some (.slice A5 l5.length z5) := hce 15 _ rfl
  have x16 : wr.cell? ⟨gr, j * 17 + 16, none⟩ = some (.slice A6 l6.length z6) := hce 16 _ rfl
  clear hce xc
  go_upto_region 4 with (fail)
  go_cut [3, 4] from 10 to 42 (fun i4 b4 wc4 => i4 = .int .i64 (j : Int) ∧ b4 = .pointer (some ⟨wr.heap.size, 0, none⟩) ∧ wc4 = wr.alloc (.cells #[.int .u8 op, .string nm, .string sc, .int .u8 ab, .int .u8 wh, .int .u8 k1, .int .i64 n1, .string s1, .slice A1 l1.length z1, .int .u8 k2, .int .i64 n2, .string s2, .slice A2 l2.length z2, .slice A3 l3.length z3, .slice A4 l4.length z4, .slice A5 l5.length z5, .slice A6 l6.length z6] 311))
  case first => as_aux_lemma =>
   go_wp2_with fail
   go_meet
   case rel => exact ⟨rfl, rfl, rfl⟩
  obtain ⟨rfl, rfl, rfl⟩ := hcut
  go_upto_region 5 with (fail)
  have hba := Blk.new wr 311 #[.int .u8 op, .string nm, .string sc, .int .u8 ab, .int .u8 wh, .int .u8 k1, .int .i64 n1, .string s1, .slice A1 l1.length z1, .int .u8 k2, .int .i64 n2, .string s2, .slice A2 l2.length z2, .slice A3 l3.length z3, .slice A4 l4.length z4, .slice A5 l5.length z5, .slice A6 l6.length z6]
  have hfa := (Fr.refl No wr).alloc (.cells #[.int .u8 op, .string nm, .string sc, .int .u8 ab, .int .u8 wh, .int .u8 k1, .int .i64 n1, .string s1, .slice A1 l1.length z1, .int .u8 k2, .int .i64 n2, .string s2, .slice A2 l2.length z2, .slice A3 l3.length z3, .slice A4 l4.length z4, .slice A5 l5.length z5, .slice A6 l6.length z6] 311)
  have HBA := hide hba
  have HFA := hide hfa
  have hsa : wr.heap.size + 1 = (wr.alloc (.cells #[.int .u8 op, .string nm, .string sc, .int .u8 ab, .int .u8 wh, .int .u8 k1, .int .i64 n1, .string s1, .slice A1 l1.length z1, .int .u8 k2, .int .i64 n2, .string s2, .slice A2 l2.length z2, .slice A3 l3.length z3, .slice A4 l4.length z4, .slice A5 l5.length z5, .slice A6 l6.length z6] 311)).heap.size := by simp
  have HSA := hide hsa
  clear hba hfa hsa x0 x1 x2 x3 x4 x5 x6 x7 x8 x9 x10 x11 x12 x13 x14 x15 x16
  generalize hgb : wr.heap.size = gb at *
  generalize World.alloc wr _ = Wa at *
  go_cut [] from 10 to 42 (R5 wr gb op nm sc ab wh k1 n1 s1 l1 k2 n2 s2 l2 A3 z3 l3 A4 z4 l4 A5 z5 l5 A6 z6 l6)
  case first => as_aux_lemma =>
   refine wp_region_inv (I := fun a0 f a wx => ∃ y0 y1 y2 y3 y4 y5 y6 y8 r, a = ((((((((a0.put (some 14) y0).put (some 15) y1).put (some 16) y2).put (some 17) y3).put (some 18) y4).put (some 19) y5).put (some 20) y6).put (some 21) y8) ∧ RcI (oc5 gb (.agg #[.int .u8 k1, .int .i64 n1, .string s1, .slice A1 l1.length z1]) (.agg #[.int .u8 k2, .int .i64 n2, .string s2, .slice A2 l2.length z2]) (.mk [.int .u8 k1, .int .i64 n1, .string s1, .slice A1 l1.length z1] [(A1, l1)]) (.mk [.int .u8 k2, .int .i64 n2, .string s2, .slice A2 l2.length z2] [(A2, l2)])) Wa f [y0, y1, y2, y3, y4, y5, y6, undef, y8, undef] r wx) (by kernel_rfl) (by kernel_rfl) ?st ?step ?en
   case st => exact ⟨_, _, _, _, _, _, _, _, (fun _ => .mk [] []), by simp only [Act.put, lq4, lq5, lq6] <;> rfl, RcI.begin (oc5_ok _ _ _ _ _) Wa _ _⟩
   case step => as_aux_lemma =>
    rintro i oo f a wx ho hf hd ⟨y0, y1, y2, y3, y4, y5, y6, y8, r, rfl, J⟩ K' hK
    have hidx := (Array.getElem?_eq_some_iff.1 ho).1
    simp only [List.size_toArray, List.length_cons, List.length_nil] at hidx
    have hid : i = 0 ∨ i = 1 ∨ i = 2 ∨ i = 3 ∨ i = 4 ∨ i = 5 ∨ i = 6 ∨ i = 7 ∨ i = 8 ∨ i = 9 := by omega
    simp only [Act.put, lq4, lq5, lq6]
    rcases hid with rfl | rfl | rfl | rfl | rfl | rfl | rfl | rfl | rfl | rfl
    · simp only [lq1, lq3, Option.some.injEq] at ho; subst ho
      have HFI := hide hf
      have HJ := hide J
      clear J hd hf  
      go_simp
      exact hK.out _ _ ⟨_, _, _, _, _, _, _, _, r, by simp only [Act.put, lq4, lq5, lq6] <;> rfl, HJ.out.quiet (oc5_ok _ _ _ _ _) (i := 0) rfl rfl (by simp) (fun c h => nomatch h)⟩
    · simp only [lq1, lq2, lq3, Option.some.injEq] at ho; subst ho
      have b0 := hd ⟨0, .data⟩ (by simp) (by rfl)
      obtain rfl : y0 = .pointer (some ⟨gb, 5, none⟩) := J.x 0 b0 rfl
      have FX := hide (J.fr (oc5_ok _ _ _ _ _) (J.none hf fun s hs => oc5_dep (by decide) hs))
      have HFI := hide hf
      have B0 := hide b0
      have hB := HBA.out.fr FX.out fun h => h
      have hq := hB.lt
      have c5 : wx.cell? ⟨gb, 5, none⟩ = some (.int .u8 k1) := hB.cell 5
      have c6 : wx.cell? ⟨gb, 6, none⟩ = some (.int .i64 n1) := hB.cell 6
      have c7 : wx.cell? ⟨gb, 7, none⟩ = some (.string s1) := hB.cell 7
      have c8 : wx.cell? ⟨gb, 8, none⟩ = some (.slice A1 l1.length z1) := hB.cell 8
      clear hB
      have HJ := hide J
      clear J hd hf b0 
      go_simp
      exact hK.out _ _ ⟨_, _, _, _, _, _, _, _, r, by simp only [Act.put, lq4, lq5, lq6] <;> rfl, HJ.out.quiet (oc5_ok _ _ _ _ _) (i := 1) rfl rfl (by simp) (fun c h => nomatch h)⟩
    · simp only [lq1, lq2, lq3, Option.some.injEq] at ho; subst ho
      have b1 := hd ⟨1, .data⟩ (by simp) (by rfl)
      obtain rfl : y1 = .agg #[.int .u8 k1, .int .i64 n1, .string s1, .slice A1 l1.length z1] := J.x 1 b1 rfl
      have FX := hide (J.fr (oc5_ok _ _ _ _ _) (J.none hf fun s hs => oc5_dep (by decide) hs))
      have HFI := hide hf
      have B1 := hide b1
      have HJ := hide J
      clear J hd hf b1 
      go_simp
      have hcon := HE1.out wx (HFA.out.trans FX.out)
      refine hcon.mono ?_
      rintro e w2 ⟨b, he, q1, q2, q3, q4, f2⟩
      have HF2 := hide f2
      have HPT := hide (And.intro q1 (And.intro q2 (And.intro (G.In.more FX.out.size (Nat.le_refl _) _ q3) q4)))
      subst he
      clear f2 q1 q2 q3 q4
      try go_simp
      exact hK.out _ _ ⟨_, _, _, _, _, _, _, _, _, by simp only [Act.put, lq4, lq5, lq6] <;> rfl, HJ.out.call (oc5_ok _ _ _ _ _) HFI.out rfl rfl (by simp) (fun c h => nomatch h) HF2.out (b := b) HPT.out⟩
    · simp only [lq1, lq2, lq3, Option.some.injEq] at ho; subst ho
      have HFI := hide hf
      have HJ := hide J
      clear J hd hf  
      go_simp
      exact hK.out _ _ ⟨_, _, _, _, _, _, _, _, r, by simp only [Act.put, lq4, lq5, lq6] <;> rfl, HJ.out.quiet (oc5_ok _ _ _ _ _) (i := 3) rfl rfl (by simp) (fun c h => nomatch h)⟩
    · simp only [lq1, lq2, lq3, Option.some.injEq] at ho; subst ho
      have b3 := hd ⟨3, .data⟩ (by simp) (by rfl)
      obtain rfl : y3 = .pointer (some ⟨gb, 9, none⟩) := J.x 3 b3 rfl
      have FX := hide (J.fr (oc5_ok _ _ _ _ _) (J.none hf fun s hs => oc5_dep (by decide) hs))
      have HFI := hide hf
      have B3 := hide b3
      have hB := HBA.out.fr FX.out fun h => h
      have hq := hB.lt
      have c9 : wx.cell? ⟨gb, 9, none⟩ = some (.int .u8 k2) := hB.cell 9
      have c10 : wx.cell? ⟨gb, 10, none⟩ = some (.int .i64 n2) := hB.cell 10
      have c11 : wx.cell? ⟨gb, 11, none⟩ = some (.string s2) := hB.cell 11
      have c12 : wx.cell? ⟨gb, 12, none⟩ = some (.slice A2 l2.length z2) := hB.cell 12
      clear hB
      have HJ := hide J
      clear J hd hf b3 
      go_simp
      exact hK.out _ _ ⟨_, _, _, _, _, _, _, _, r, by simp only [Act.put, lq4, lq5, lq6] <;> rfl, HJ.out.quiet (oc5_ok _ _ _ _ _) (i := 4) rfl rfl (by simp) (fun c h => nomatch h)⟩
    · simp only [lq1, lq2, lq3, Option.some.injEq] at ho; subst ho
      have b4 := hd ⟨4, .data⟩ (by simp) (by rfl)
      obtain rfl : y4 = .agg #[.int .u8 k2, .int .i64 n2, .string s2, .slice A2 l2.length z2] := J.x 4 b4 rfl
      have FX := hide (J.fr (oc5_ok _ _ _ _ _) (J.none hf fun s hs => oc5_dep (by decide) hs))
      have HFI := hide hf
      have B4 := hide b4
      have HJ := hide J
      clear J hd hf b4 
      go_simp
      have hcon := HE2.out wx (HFA.out.trans FX.out)
      refine hcon.mono ?_
      rintro e w2 ⟨b, he, q1, q2, q3, q4, f2⟩
      have HF2 := hide f2
      have HPT := hide (And.intro q1 (And.intro q2 (And.intro (G.In.more FX.out.size (Nat.le_refl _) _ q3) q4)))
      subst he
      clear f2 q1 q2 q3 q4
      try go_simp
      exact hK.out _ _ ⟨_, _, _, _, _, _, _, _, _, by simp only [Act.put, lq4, lq5, lq6] <;> rfl, HJ.out.call (oc5_ok _ _ _ _ _) HFI.out rfl rfl (by simp) (fun c h => nomatch h) HF2.out (b := b) HPT.out⟩
    · simp only [lq1, lq2, lq3, Option.some.injEq] at ho; subst ho
      have HFI := hide hf
      have HJ := hide J
      clear J hd hf  
      go_simp
      exact hK.out _ _ ⟨_, _, _, _, _, _, _, _, r, by simp only [Act.put, lq4, lq5, lq6] <;> rfl, HJ.out.quiet (oc5_ok _ _ _ _ _) (i := 6) rfl rfl (by simp) (fun c h => nomatch h)⟩
    · simp only [lq1, lq2, lq3, Option.some.injEq] at ho; subst ho
      have b6 := hd ⟨6, .data⟩ (by simp) (by rfl)
      obtain rfl : y6 = .pointer (some ⟨gb, 5, none⟩) := J.x 6 b6 rfl
      have b2 := hd ⟨2, .data⟩ (by simp) (by rfl)
      obtain rfl : y2 = .agg (r 2).c.toArray := J.x 2 b2 rfl
      have HWT : ∀ c, (oc5 gb (.agg #[.int .u8 k1, .int .i64 n1, .string s1, .slice A1 l1.length z1]) (.agg #[.int .u8 k2, .int .i64 n2, .string s2, .slice A2 l2.length z2]) (.mk [.int .u8 k1, .int .i64 n1, .string s1, .slice A1 l1.length z1] [(A1, l1)]) (.mk [.int .u8 k2, .int .i64 n2, .string s2, .slice A2 l2.length z2] [(A2, l2)])).dep 7 c = true → f c = true := by
       intro c hc
       have hc' : c = 0 ∨ c = 1 ∨ c = 2 ∨ c = 3 ∨ c = 4 ∨ c = 5 ∨ c = 6 := by have : c ≤ 6 := of_decide_eq_true hc; omega
       rcases hc' with rfl | rfl | rfl | rfl | rfl | rfl | rfl
       · first | exact waits hd (by rfl)
       · first | exact waits hd (by rfl)
       · first | exact waits hd (by rfl)
       · first | exact waits hd (by rfl)
       · first | exact waits hd (by rfl)
       · first | exact waits hd (by rfl)
       · first | exact waits hd (by rfl)
      have HFI := hide hf
      have B6 := hide b6
      have B2 := hide b2
      have hM := J.m
      obtain ⟨w3, hm1, hm2, hm3⟩ := hM
      obtain ⟨cs', hB, hcz⟩ := oc5_blk (f := f) (r := r) (HBA.out.fr hm1 fun h => h)
      rw [← hm3] at hB
      have hz := hB.frozen
      have hq := hB.lt
      have hcz' : cs'.size = 17 := by rw [hcz]; rfl
      obtain ⟨v5, c5⟩ := blk_cells hB (k := 5) (by omega)
      obtain ⟨v6, c6⟩ := blk_cells hB (k := 6) (by omega)
      obtain ⟨v7, c7⟩ := blk_cells hB (k := 7) (by omega)
      obtain ⟨v8, c8⟩ := blk_cells hB (k := 8) (by omega)
      have h9 : f 9 = false := by
       cases q : f 9 with
       | false => rfl
       | true => rw [J.d 9 7 rfl q] at hf; cases hf
      have e1 := (hm2 2 rfl (HWT 2 rfl)).1
      obtain ⟨k, n, s, A', c', l', er, -, -⟩ := ty_expr e1
      have HST7 := hide (fun w3 (h : wx = (oc5 gb (.agg #[.int .u8 k1, .int .i64 n1, .string s1, .slice A1 l1.length z1]) (.agg #[.int .u8 k2, .int .i64 n2, .string s2, .slice A2 l2.length z2]) (.mk [.int .u8 k1, .int .i64 n1, .string s1, .slice A1 l1.length z1] [(A1, l1)]) (.mk [.int .u8 k2, .int .i64 n2, .string s2, .slice A2 l2.length z2] [(A2, l2)])).M f r w3) => oc5_st7 hf h9 h)
      rw [er] at J
      rw [er]
      dsimp only [G.c]
      dsimp only [G.c] at J
      rw [er] at HST7
      clear e1 h9
      clear hm1 hm2 hm3 hB hcz hcz'
      have HJ := hide J
      have HWTX := hide HWT
      clear J hd hf b6 b2 HWT
      go_simp
      exact hK.out _ _ ⟨_, _, _, _, _, _, _, _, r, by simp only [Act.put, lq4, lq5, lq6] <;> rfl, HJ.out.store (i := 7) rfl rfl HWTX.out (fun w3 h => HST7.out w3 h)⟩
    · simp only [lq1, lq2, lq3, Option.some.injEq] at ho; subst ho
      have HFI := hide hf
      have HJ := hide J
      clear J hd hf  
      go_simp
      exact hK.out _ _ ⟨_, _, _, _, _, _, _, _, r, by simp only [Act.put, lq4, lq5, lq6] <;> rfl, HJ.out.quiet (oc5_ok _ _ _ _ _) (i := 8) rfl rfl (by simp) (fun c h => nomatch h)⟩
    · simp only [lq1, lq2, lq3, Option.some.injEq] at ho; subst ho
      have b8 := hd ⟨8, .data⟩ (by simp) (by rfl)
      obtain rfl : y8 = .pointer (some ⟨gb, 9, none⟩) := J.x 8 b8 rfl
      have b5 := hd ⟨5, .data⟩ (by simp) (by rfl)
      obtain rfl : y5 = .agg (r 5).c.toArray := J.x 5 b5 rfl
      have HWT : ∀ c, (oc5 gb (.agg #[.int .u8 k1, .int .i64 n1, .string s1, .slice A1 l1.length z1]) (.agg #[.int .u8 k2, .int .i64 n2, .string s2, .slice A2 l2.length z2]) (.mk [.int .u8 k1, .int .i64 n1, .string s1, .slice A1 l1.length z1] [(A1, l1)]) (.mk [.int .u8 k2, .int .i64 n2, .string s2, .slice A2 l2.length z2] [(A2, l2)])).dep 9 c = true → f c = true := by
       intro c hc
       have hc' : c = 0 ∨ c = 1 ∨ c = 2 ∨ c = 3 ∨ c = 4 ∨ c = 5 ∨ c = 6 ∨ c = 7 ∨ c = 8 := by have : c ≤ 8 := of_decide_eq_true hc; omega
       rcases hc' with rfl | rfl | rfl | rfl | rfl | rfl | rfl | rfl | rfl
       · first | exact waits hd (by rfl)
       · first | exact waits hd (by rfl)
       · first | exact waits hd (by rfl)
       · first | exact waits hd (by rfl)
       · first | exact waits hd (by rfl)
       · first | exact waits hd (by rfl)
       · first | exact waits hd (by rfl)
       · first | exact waits hd (by rfl)
       · first | exact waits hd (by rfl)
      have HFI := hide hf
      have B8 := hide b8
      have B5 := hide b5
      have hM := J.m
      obtain ⟨w3, hm1, hm2, hm3⟩ := hM
      obtain ⟨cs', hB, hcz⟩ := oc5_blk (f := f) (r := r) (HBA.out.fr hm1 fun h => h)
      rw [← hm3] at hB
      have hz := hB.frozen
      have hq := hB.lt
      have hcz' : cs'.size = 17 := by rw [hcz]; rfl
      obtain ⟨v9, c9⟩ := blk_cells hB (k := 9) (by omega)
      obtain ⟨v10, c10⟩ := blk_cells hB (k := 10) (by omega)
      obtain ⟨v11, c11⟩ := blk_cells hB (k := 11) (by omega)
      obtain ⟨v12, c12⟩ := blk_cells hB (k := 12) (by omega)
      have h7 : f 7 = true := HWT 7 rfl
      have e1 := (hm2 5 rfl (HWT 5 rfl)).1
      obtain ⟨k, n, s, A', c', l', er, -, -⟩ := ty_expr e1
      have HST9 := hide (fun w3 (h : wx = (oc5 gb (.agg #[.int .u8 k1, .int .i64 n1, .string s1, .slice A1 l1.length z1]) (.agg #[.int .u8 k2, .int .i64 n2, .string s2, .slice A2 l2.length z2]) (.mk [.int .u8 k1, .int .i64 n1, .string s1, .slice A1 l1.length z1] [(A1, l1)]) (.mk [.int .u8 k2, .int .i64 n2, .string s2, .slice A2 l2.length z2] [(A2, l2)])).M f r w3) => oc5_st9 h7 hf h)
      rw [er] at J
      rw [er]
      dsimp only [G.c]
      dsimp only [G.c] at J
      rw [er] at HST9
      clear e1 h7
      clear hm1 hm2 hm3 hB hcz hcz'
      have HJ := hide J
      have HWTX := hide HWT
      clear J hd hf b8 b5 HWT
      go_simp
      exact hK.out _ _ ⟨_, _, _, _, _, _, _, _, r, by simp only [Act.put, lq4, lq5, lq6] <;> rfl, HJ.out.store (i := 9) rfl rfl HWTX.out (fun w3 h => HST9.out w3 h)⟩
   case en =>
    rintro f a wx hall ⟨y0, y1, y2, y3, y4, y5, y6, y8, r, rfl, J⟩
    obtain rfl : y2 = .agg (r 2).c.toArray := J.x 2 (hall 2 (by simp)) rfl
    obtain rfl : y5 = .agg (r 5).c.toArray := J.x 5 (hall 5 (by simp)) rfl
    simp only [Act.put, lq4, lq5, lq6]
    obtain ⟨w3, hfx, hP, hM⟩ := J.m
    have P2 := hP 2 rfl (hall 2 (by simp))
    have P5 := hP 5 rfl (hall 5 (by simp))
    have hM' : wx = setRow (setRow w3 gb 5 (r 2).c) gb 9 (r 5).c := by rw [hM]; simp [oc5, hall 7 (by simp), hall 9 (by simp)]
    clear J hall hP hM
    generalize r 2 = ya at *
    generalize r 5 = yb at *
    obtain ⟨e1, e2, e3, e4⟩ := P2
    obtain ⟨g1, g2, g3, g4⟩ := P5
    rw [if_pos rfl] at e2
    rw [if_neg (by decide)] at g2
    obtain ⟨p1, q1, t1, B1, cp1, m1, rfl, fe1, te1⟩ := ty_expr e1
    obtain ⟨p2, q2, t2, B2, cp2, m2, rfl, fe2, te2⟩ := ty_expr g1
    rw [G.er_mk, G.er_mk] at e2 g2
    simp only [List.map_cons, List.map_nil, erV, G.mk.injEq, List.cons.injEq, Value.int.injEq, Value.string.injEq, Value.slice.injEq, Prod.mk.injEq, true_and, and_true] at e2 g2
    obtain ⟨⟨rfl, rfl, rfl, hl1⟩, hm1⟩ := e2
    obtain ⟨⟨rfl, rfl, rfl, hl2⟩, hm2⟩ := g2
    dsimp only [G.c] at hM'
    have hB0 := HBA.out.fr hfx fun h => h
    have hB5 : Blk wx gb 311 #[.int .u8 op, .string nm, .string sc, .int .u8 ab, .int .u8 wh, .int .u8 p1, .int .i64 q1, .string t1, .slice B1 m1.length cp1, .int .u8 p2, .int .i64 q2, .string t2, .slice B2 m2.length cp2, .slice A3 l3.length z3, .slice A4 l4.length z4, .slice A5 l5.length z5, .slice A6 l6.length z6] := by
     rw [hM']
     simpa only [setRow, List.setIfInBounds_toArray, List.set_cons_zero, List.set_cons_succ] using (((((((hB0.set_ 5 (.int .u8 p1)).set_ 6 (.int .i64 q1)).set_ 7 (.string t1)).set_ 8 (.slice B1 m1.length cp1)).set_ 9 (.int .u8 p2)).set_ 10 (.int .i64 q2)).set_ 11 (.string t2)).set_ 12 (.slice B2 m2.length cp2)
    have hfs5 : Fr (fun i => i = gb) w3 wx := by rw [hM']; exact setRow_fr (S := fun i => i = gb) (fun _ => rfl) _ _ _ (setRow_fr (S := fun i => i = gb) (fun _ => rfl) _ _ _ (Fr.refl _ w3))
    have hWa : gb + 1 = Wa.heap.size := HSA.out
    have hfa5 : Fr No wr wx := (HFA.out.trans hfx).trans' hfs5 fun i hi h => by have h' : i = gb := h; omega
    have hg3 : (G.row B1 m1).In wx (gb + 1) wx.heap.size ∧ (G.row B1 m1).Td wx := by
     have h1 := G.in_rows.1 e3 B1 m1 (by simp)
     have h2 : ∀ b, (G.row B1 m1).Has b → ¬ b = gb := fun b hb h => by have := (G.In.has hb h1).1; omega
     exact ⟨G.In.more (by omega) hfs5.size _ (h1.frH hfs5 (Nat.le_refl _) h2), fun b hb => by
      obtain ⟨e, cs, q1, q2⟩ := e4 b (G.mk_has.2 ⟨B1, m1, by simp, hb⟩)
      exact ⟨e, cs, q1, q2.fr hfs5 (h2 b hb)⟩⟩
    have hg4 : (G.row B2 m2).In wx (gb + 1) wx.heap.size ∧ (G.row B2 m2).Td wx := by
     have h1 := G.in_rows.1 g3 B2 m2 (by simp)
     have h2 : ∀ b, (G.row B2 m2).Has b → ¬ b = gb := fun b hb h => by have := (G.In.has hb h1).1; omega
     exact ⟨G.In.more (by omega) hfs5.size _ (h1.frH hfs5 (Nat.le_refl _) h2), fun b hb => by
      obtain ⟨e, cs, q1, q2⟩ := g4 b (G.mk_has.2 ⟨B2, m2, by simp, hb⟩)
      exact ⟨e, cs, q1, q2.fr hfs5 (h2 b hb)⟩⟩
    have HR5 : Hid (R5 wr gb op nm sc ab wh p1 q1 t1 l1 p2 q2 t2 l2 A3 z3 l3 A4 z4 l4 A5 z5 l5 A6 z6 l6 wx) := hide ⟨B1, cp1, m1, B2, cp2, m2, hB5, hfa5, hg3, hg4, ⟨fe1, te1, hl1, hm1⟩, fe2, te2, hl2, hm2⟩
    clear hM' hfx e1 e3 e4 g1 g3 g4 hB0 hB5 hfs5 hWa hfa5 hg3 hg4 fe1 te1 hl1 hm1 fe2 te2 hl2 hm2 HE1 HE2 HBA HFA
    go_wp2_with fail
    go_meet
    case rel => exact HR5.out
  obtain ⟨B1, cp1, m1, B2, cp2, m2, hB5, hfa5, hg3, hg4, he12⟩ := hcut
  generalize wc = W5 at *
  have HB5 := hide hB5
  have HF5 := hide hfa5
  have HG3 := hide hg3
  have HG4 := hide hg4
  have HE12 := hide he12
  have hq5 := hB5.lt
  clear hB5 hfa5 hg3 hg4 he12 HE1 HE2 HBA HFA
  go_upto_region 6 with (fail)
  go_cut [] from 10 to 42 (R6 wr gb op nm sc ab wh k1 n1 s1 l1 k2 n2 s2 l2 A3 z3 l3 A4 z4 l4 A5 z5 l5 A6 z6 l6)
  case first => as_aux_lemma =>
   refine wp_region_inv (I := fun a0 f a wx => ∃ y0 y1 y2 y3 y4 y5 y6 y7 y8 y9 y11 y13 r, a = ((((((((((((a0.put (some 22) y0).put (some 23) y1).put (some 24) y2).put (some 25) y3).put (some 26) y4).put (some 27) y5).put (some 28) y6).put (some 29) y7).put (some 30) y8).put (some 31) y9).put (some 32) y11).put (some 33) y13) ∧ RcI (oc6 gb A3 A4 A5 z3 z4 z5 l3 l4 l5) W5 f [y0, y1, y2, y3, y4, y5, y6, y7, y8, y9, undef, y11, undef, y13, undef] r wx) (by kernel_rfl) (by kernel_rfl) ?st ?step ?en
   case st => exact ⟨_, _, _, _, _, _, _, _, _, _, _, _, (fun _ => (none, 0, [])), by simp only [Act.put, lq4, lq5, lq6] <;> rfl, RcI.begin (oc6_ok _ _ _ _ _ _ _ _ _ _) W5 _ _⟩
   case step => as_aux_lemma =>
    rintro i oo f a wx ho hf hd ⟨y0, y1, y2, y3, y4, y5, y6, y7, y8, y9, y11, y13, r, rfl, J⟩ K' hK
    have hidx := (Array.getElem?_eq_some_iff.1 ho).1
    simp only [List.size_toArray, List.length_cons, List.length_nil] at hidx
    have hid : i = 0 ∨ i = 1 ∨ i = 2 ∨ i = 3 ∨ i = 4 ∨ i = 5 ∨ i = 6 ∨ i = 7 ∨ i = 8 ∨ i = 9 ∨ i = 10 ∨ i = 11 ∨ i = 12 ∨ i = 13 ∨ i = 14 := by omega
    simp only [Act.put, lq4, lq5, lq6]
    rcases hid with rfl | rfl | rfl | rfl | rfl | rfl | rfl | rfl | rfl | rfl | rfl | rfl | rfl | rfl | rfl
    · simp only [lq1, lq3, Option.some.injEq] at ho; subst ho
      have HFI := hide hf
      have HJ := hide J
      clear J hd hf  
      go_simp
      exact hK.out _ _ ⟨_, _, _, _, _, _, _, _, _, _, _, _, r, by simp only [Act.put, lq4, lq5, lq6] <;> rfl, HJ.out.quiet (oc6_ok _ _ _ _ _ _ _ _ _ _) (i := 0) rfl rfl (by simp) (fun c h => nomatch h)⟩
    · simp only [lq1, lq2, lq3, Option.some.injEq] at ho; subst ho
      have b0 := hd ⟨0, .data⟩ (by simp) (by rfl)
      obtain rfl : y0 = .pointer (some ⟨gb, 13, none⟩) := J.x 0 b0 rfl
      have FX := hide (J.fr (oc6_ok _ _ _ _ _ _ _ _ _ _) (J.none hf fun s hs => oc6_dep (by decide) hs))
      have HFI := hide hf
      have B0 := hide b0
      have hB := HB5.out.fr FX.out fun h => h
      have hq := hB.lt
      have c13 : wx.cell? ⟨gb, 13, none⟩ = some (.slice A3 l3.length z3) := hB.cell 13
      clear hB
      have HJ := hide J
      clear J hd hf b0 
      go_simp
      exact hK.out _ _ ⟨_, _, _, _, _, _, _, _, _, _, _, _, r, by simp only [Act.put, lq4, lq5, lq6] <;> rfl, HJ.out.quiet (oc6_ok _ _ _ _ _ _ _ _ _ _) (i := 1) rfl rfl (by simp) (fun c h => nomatch h)⟩
    · simp only [lq1, lq2, lq3, Option.some.injEq] at ho; subst ho
      have b1 := hd ⟨1, .data⟩ (by simp) (by rfl)
      obtain rfl : y1 = .slice A3 l3.length z3 := J.x 1 b1 rfl
      have FX := hide (J.fr (oc6_ok _ _ _ _ _ _ _ _ _ _) (J.none hf fun s hs => oc6_dep (by decide) hs))
      have HFI := hide hf
      have B1 := hide b1
      have HJ := hide J
      clear J hd hf b1 
      go_simp
      have hcon := HC3.out wx (HF5.out.trans FX.out)
      refine hcon.mono ?_
      rintro e w2 ⟨A', c', l', he, q1, q2, q3, q4, q5, q6, f2⟩
      have HF2 := hide f2
      have HPT := hide (And.intro q1 (And.intro q2 (And.intro q3 (And.intro q4 (And.intro (G.In.more FX.out.size (Nat.le_refl _) _ q5) q6)))))
      subst he
      clear f2 q1 q2 q3 q4 q5 q6
      try go_simp
      exact hK.out _ _ ⟨_, _, _, _, _, _, _, _, _, _, _, _, _, by simp only [Act.put, lq4, lq5, lq6] <;> rfl, HJ.out.call (oc6_ok _ _ _ _ _ _ _ _ _ _) HFI.out rfl rfl (by simp) (fun c h => nomatch h) HF2.out (b := (A', c', l')) HPT.out⟩
    · simp only [lq1, lq2, lq3, Option.some.injEq] at ho; subst ho
      have HFI := hide hf
      have HJ := hide J
      clear J hd hf  
      go_simp
      exact hK.out _ _ ⟨_, _, _, _, _, _, _, _, _, _, _, _, r, by simp only [Act.put, lq4, lq5, lq6] <;> rfl, HJ.out.quiet (oc6_ok _ _ _ _ _ _ _ _ _ _) (i := 3) rfl rfl (by simp) (fun c h => nomatch h)⟩
    · simp only [lq1, lq2, lq3, Option.some.injEq] at ho; subst ho
      have b3 := hd ⟨3, .data⟩ (by simp) (by rfl)
      obtain rfl : y3 = .pointer (some ⟨gb, 14, none⟩) := J.x 3 b3 rfl
      have FX := hide (J.fr (oc6_ok _ _ _ _ _ _ _ _ _ _) (J.none hf fun s hs => oc6_dep (by decide) hs))
      have HFI := hide hf
      have B3 := hide b3
      have hB := HB5.out.fr FX.out fun h => h
      have hq := hB.lt
      have c14 : wx.cell? ⟨gb, 14, none⟩ = some (.slice A4 l4.length z4) := hB.cell 14
      clear hB
      have HJ := hide J
      clear J hd hf b3 
      go_simp
      exact hK.out _ _ ⟨_, _, _, _, _, _, _, _, _, _, _, _, r, by simp only [Act.put, lq4, lq5, lq6] <;> rfl, HJ.out.quiet (oc6_ok _ _ _ _ _ _ _ _ _ _) (i := 4) rfl rfl (by simp) (fun c h => nomatch h)⟩
    · simp only [lq1, lq2, lq3, Option.some.injEq] at ho; subst ho
      have b4 := hd ⟨4, .data⟩ (by simp) (by rfl)
      obtain rfl : y4 = .slice A4 l4.length z4 := J.x 4 b4 rfl
      have FX := hide (J.fr (oc6_ok _ _ _ _ _ _ _ _ _ _) (J.none hf fun s hs => oc6_dep (by decide) hs))
      have HWT : ∀ c, (oc6 gb A3 A4 A5 z3 z4 z5 l3 l4 l5).dep 5 c = true → f c = true := by
       intro c hc
       have hc' : c = 2 := by simpa [oc6] using hc
       rcases hc' with rfl
       · first | exact waits hd (by rfl)
      have HFI := hide hf
      have B4 := hide b4
      have HJ := hide J
      have HWTX := hide HWT
      clear J hd hf b4 HWT
      go_simp
      have hcon := HC4.out wx (HF5.out.trans FX.out)
      refine hcon.mono ?_
      rintro e w2 ⟨A', c', l', he, q1, q2, q3, q4, q5, q6, f2⟩
      have HF2 := hide f2
      have HPT := hide (And.intro q1 (And.intro q2 (And.intro q3 (And.intro q4 (And.intro (G.In.more FX.out.size (Nat.le_refl _) _ q5) q6)))))
      subst he
      clear f2 q1 q2 q3 q4 q5 q6
      try go_simp
      exact hK.out _ _ ⟨_, _, _, _, _, _, _, _, _, _, _, _, _, by simp only [Act.put, lq4, lq5, lq6] <;> rfl, HJ.out.call (oc6_ok _ _ _ _ _ _ _ _ _ _) HFI.out rfl rfl (by simp) HWTX.out HF2.out (b := (A', c', l')) HPT.out⟩
    · simp only [lq1, lq2, lq3, Option.some.injEq] at ho; subst ho
      have HFI := hide hf
      have HJ := hide J
      clear J hd hf  
      go_simp
      exact hK.out _ _ ⟨_, _, _, _, _, _, _, _, _, _, _, _, r, by simp only [Act.put, lq4, lq5, lq6] <;> rfl, HJ.out.quiet (oc6_ok _ _ _ _ _ _ _ _ _ _) (i := 6) rfl rfl (by simp) (fun c h => nomatch h)⟩
    · simp only [lq1, lq2, lq3, Option.some.injEq] at ho; subst ho
      have b6 := hd ⟨6, .data⟩ (by simp) (by rfl)
      obtain rfl : y6 = .pointer (some ⟨gb, 15, none⟩) := J.x 6 b6 rfl
      have FX := hide (J.fr (oc6_ok _ _ _ _ _ _ _ _ _ _) (J.none hf fun s hs => oc6_dep (by decide) hs))
      have HFI := hide hf
      have B6 := hide b6
      have hB := HB5.out.fr FX.out fun h => h
      have hq := hB.lt
      have c15 : wx.cell? ⟨gb, 15, none⟩ = some (.slice A5 l5.length z5) := hB.cell 15
      clear hB
      have HJ := hide J
      clear J hd hf b6 
      go_simp
      exact hK.out _ _ ⟨_, _, _, _, _, _, _, _, _, _, _, _, r, by simp only [Act.put, lq4, lq5, lq6] <;> rfl, HJ.out.quiet (oc6_ok _ _ _ _ _ _ _ _ _ _) (i := 7) rfl rfl (by simp) (fun c h => nomatch h)⟩
    · simp only [lq1, lq2, lq3, Option.some.injEq] at ho; subst ho
      have b7 := hd ⟨7, .data⟩ (by simp) (by rfl)
      obtain rfl : y7 = .slice A5 l5.length z5 := J.x 7 b7 rfl
      have FX := hide (J.fr (oc6_ok _ _ _ _ _ _ _ _ _ _) (J.none hf fun s hs => oc6_dep (by decide) hs))
      have HWT : ∀ c, (oc6 gb A3 A4 A5 z3 z4 z5 l3 l4 l5).dep 8 c = true → f c = true := by
       intro c hc
       have hc' : c = 2 ∨ c = 5 := by simpa [oc6] using hc
       rcases hc' with rfl | rfl
       · first | exact waits hd (by rfl) | exact J.d 5 2 rfl (waits hd (by rfl))
       · first | exact waits hd (by rfl) | exact J.d 5 5 rfl (waits hd (by rfl))
      have HFI := hide hf
      have B7 := hide b7
      have HJ := hide J
      have HWTX := hide HWT
      clear J hd hf b7 HWT
      go_simp
      have hcon := HC5.out wx (HF5.out.trans FX.out)
      refine hcon.mono ?_
      rintro e w2 ⟨A', c', l', he, q1, q2, q3, q4, q5, q6, f2⟩
      have HF2 := hide f2
      have HPT := hide (And.intro q1 (And.intro q2 (And.intro q3 (And.intro q4 (And.intro (G.In.more FX.out.size (Nat.le_refl _) _ q5) q6)))))
      subst he
      clear f2 q1 q2 q3 q4 q5 q6
      try go_simp
      exact hK.out _ _ ⟨_, _, _, _, _, _, _, _, _, _, _, _, _, by simp only [Act.put, lq4, lq5, lq6] <;> rfl, HJ.out.call (oc6_ok _ _ _ _ _ _ _ _ _ _) HFI.out rfl rfl (by simp) HWTX.out HF2.out (b := (A', c', l')) HPT.out⟩
    · simp only [lq1, lq2, lq3, Option.some.injEq] at ho; subst ho
      have HFI := hide hf
      have HJ := hide J
      clear J hd hf  
      go_simp
      exact hK.out _ _ ⟨_, _, _, _, _, _, _, _, _, _, _, _, r, by simp only [Act.put, lq4, lq5, lq6] <;> rfl, HJ.out.quiet (oc6_ok _ _ _ _ _ _ _ _ _ _) (i := 9) rfl rfl (by simp) (fun c h => nomatch h)⟩
    · simp only [lq1, lq2, lq3, Option.some.injEq] at ho; subst ho
      have b9 := hd ⟨9, .data⟩ (by simp) (by rfl)
      obtain rfl : y9 = .pointer (some ⟨gb, 13, none⟩) := J.x 9 b9 rfl
      have b2 := hd ⟨2, .data⟩ (by simp) (by rfl)
      obtain rfl : y2 = .slice (r 2).1 l3.length (r 2).2.1 := J.x 2 b2 rfl
      have HWT : ∀ c, (oc6 gb A3 A4 A5 z3 z4 z5 l3 l4 l5).dep 10 c = true → f c = true := by
       intro c hc
       have hc' : c = 0 ∨ c = 1 ∨ c = 2 ∨ c = 3 ∨ c = 4 ∨ c = 5 ∨ c = 6 ∨ c = 7 ∨ c = 8 ∨ c = 9 := by have : c ≤ 9 := of_decide_eq_true hc; omega
       rcases hc' with rfl | rfl | rfl | rfl | rfl | rfl | rfl | rfl | rfl | rfl
       · first | exact waits hd (by rfl) | exact J.d 8 0 rfl (waits hd (by rfl))
       · first | exact waits hd (by rfl) | exact J.d 8 1 rfl (waits hd (by rfl))
       · first | exact waits hd (by rfl) | exact J.d 8 2 rfl (waits hd (by rfl))
       · first | exact waits hd (by rfl) | exact J.d 8 3 rfl (waits hd (by rfl))
       · first | exact waits hd (by rfl) | exact J.d 8 4 rfl (waits hd (by rfl))
       · first | exact waits hd (by rfl) | exact J.d 8 5 rfl (waits hd (by rfl))
       · first | exact waits hd (by rfl) | exact J.d 8 6 rfl (waits hd (by rfl))
       · first | exact waits hd (by rfl) | exact J.d 8 7 rfl (waits hd (by rfl))
       · first | exact waits hd (by rfl) | exact J.d 8 8 rfl (waits hd (by rfl))
       · first | exact waits hd (by rfl) | exact J.d 8 9 rfl (waits hd (by rfl))
      have HFI := hide hf
      have B9 := hide b9
      have B2 := hide b2
      have hM := J.m
      obtain ⟨w3, hm1, hm2, hm3⟩ := hM
      obtain ⟨cs', hB, hcz⟩ := oc6_blk (A3 := A3) (A4 := A4) (A5 := A5) (z3 := z3) (z4 := z4) (z5 := z5) (l3 := l3) (l4 := l4) (l5 := l5) (f := f) (r := r) (HB5.out.fr hm1 fun h => h)
      rw [← hm3] at hB
      have hz := hB.frozen
      have hq := hB.lt
      have hcz' : cs'.size = 17 := by rw [hcz]; rfl
      obtain ⟨v13, c13⟩ := blk_cells hB (k := 13) (by omega)
      have n12 : f 12 = false := by
       cases q : f 12 with
       | false => rfl
       | true => rw [J.d 12 10 rfl q] at hf; cases hf
      have n14 : f 14 = false := by
       cases q : f 14 with
       | false => rfl
       | true => rw [J.d 14 10 rfl q] at hf; cases hf
      have HST := hide (fun w3 (h : wx = (oc6 gb A3 A4 A5 z3 z4 z5 l3 l4 l5).M f r w3) => oc6_st10 hf n12 n14 h)
      clear hm1 hm2 hm3 hB hcz hcz'
      have HJ := hide J
      have HWTX := hide HWT
      clear J hd hf b9 b2 HWT
      go_simp
      exact hK.out _ _ ⟨_, _, _, _, _, _, _, _, _, _, _, _, r, by simp only [Act.put, lq4, lq5, lq6] <;> rfl, HJ.out.store (i := 10) rfl rfl HWTX.out (fun w3 h => HST.out w3 h)⟩
    · simp only [lq1, lq2, lq3, Option.some.injEq] at ho; subst ho
      have HFI := hide hf
      have HJ := hide J
      clear J hd hf  
      go_simp
      exact hK.out _ _ ⟨_, _, _, _, _, _, _, _, _, _, _, _, r, by simp only [Act.put, lq4, lq5, lq6] <;> rfl, HJ.out.quiet (oc6_ok _ _ _ _ _ _ _ _ _ _) (i := 11) rfl rfl (by simp) (fun c h => nomatch h)⟩
    · simp only [lq1, lq2, lq3, Option.some.injEq] at ho; subst ho
      have b11 := hd ⟨11, .data⟩ (by simp) (by rfl)
      obtain rfl : y11 = .pointer (some ⟨gb, 14, none⟩) := J.x 11 b11 rfl
      have b5 := hd ⟨5, .data⟩ (by simp) (by rfl)
      obtain rfl : y5 = .slice (r 5).1 l4.length (r 5).2.1 := J.x 5 b5 rfl
      have HWT : ∀ c, (oc6 gb A3 A4 A5 z3 z4 z5 l3 l4 l5).dep 12 c = true → f c = true := by
       intro c hc
       have hc' : c = 0 ∨ c = 1 ∨ c = 2 ∨ c = 3 ∨ c = 4 ∨ c = 5 ∨ c = 6 ∨ c = 7 ∨ c = 8 ∨ c = 9 ∨ c = 10 ∨ c = 11 := by have : c ≤ 11 := of_decide_eq_true hc; omega
       rcases hc' with rfl | rfl | rfl | rfl | rfl | rfl | rfl | rfl | rfl | rfl | rfl | rfl
       · first | exact waits hd (by rfl) | exact J.d 10 0 rfl (waits hd (by rfl)) | exact J.d 8 0 rfl (waits hd (by rfl))
       · first | exact waits hd (by rfl) | exact J.d 10 1 rfl (waits hd (by rfl)) | exact J.d 8 1 rfl (waits hd (by rfl))
       · first | exact waits hd (by rfl) | exact J.d 10 2 rfl (waits hd (by rfl)) | exact J.d 8 2 rfl (waits hd (by rfl))
       · first | exact waits hd (by rfl) | exact J.d 10 3 rfl (waits hd (by rfl)) | exact J.d 8 3 rfl (waits hd (by rfl))
       · first | exact waits hd (by rfl) | exact J.d 10 4 rfl (waits hd (by rfl)) | exact J.d 8 4 rfl (waits hd (by rfl))
       · first | exact waits hd (by rfl) | exact J.d 10 5 rfl (waits hd (by rfl)) | exact J.d 8 5 rfl (waits hd (by rfl))
       · first | exact waits hd (by rfl) | exact J.d 10 6 rfl (waits hd (by rfl)) | exact J.d 8 6 rfl (waits hd (by rfl))
       · first | exact waits hd (by rfl) | exact J.d 10 7 rfl (waits hd (by rfl)) | exact J.d 8 7 rfl (waits hd (by rfl))
       · first | exact waits hd (by rfl) | exact J.d 10 8 rfl (waits hd (by rfl)) | exact J.d 8 8 rfl (waits hd (by rfl))
       · first | exact waits hd (by rfl) | exact J.d 10 9 rfl (waits hd (by rfl)) | exact J.d 8 9 rfl (waits hd (by rfl))
       · first | exact waits hd (by rfl) | exact J.d 10 10 rfl (waits hd (by rfl)) | exact J.d 8 10 rfl (waits hd (by rfl))
       · first | exact waits hd (by rfl) | exact J.d 10 11 rfl (waits hd (by rfl)) | exact J.d 8 11 rfl (waits hd (by rfl))
      have HFI := hide hf
      have B11 := hide b11
      have B5 := hide b5
      have hM := J.m
      obtain ⟨w3, hm1, hm2, hm3⟩ := hM
      obtain ⟨cs', hB, hcz⟩ := oc6_blk (A3 := A3) (A4 := A4) (A5 := A5) (z3 := z3) (z4 := z4) (z5 := z5) (l3 := l3) (l4 := l4) (l5 := l5) (f := f) (r := r) (HB5.out.fr hm1 fun h => h)
      rw [← hm3] at hB
      have hz := hB.frozen
      have hq := hB.lt
      have hcz' : cs'.size = 17 := by rw [hcz]; rfl
      obtain ⟨v14, c14⟩ := blk_cells hB (k := 14) (by omega)
      have y10 : f 10 = true := HWT 10 rfl
      have n14 : f 14 = false := by
       cases q : f 14 with
       | false => rfl
       | true => rw [J.d 14 12 rfl q] at hf; cases hf
      have HST := hide (fun w3 (h : wx = (oc6 gb A3 A4 A5 z3 z4 z5 l3 l4 l5).M f r w3) => oc6_st12 y10 hf n14 h)
      clear hm1 hm2 hm3 hB hcz hcz'
      have HJ := hide J
      have HWTX := hide HWT
      clear J hd hf b11 b5 HWT
      go_simp
      exact hK.out _ _ ⟨_, _, _, _, _, _, _, _, _, _, _, _, r, by simp only [Act.put, lq4, lq5, lq6] <;> rfl, HJ.out.store (i := 12) rfl rfl HWTX.out (fun w3 h => HST.out w3 h)⟩
    · simp only [lq1, lq2, lq3, Option.some.injEq] at ho; subst ho
      have HFI := hide hf
      have HJ := hide J
      clear J hd hf  
      go_simp
      exact hK.out _ _ ⟨_, _, _, _, _, _, _, _, _, _, _, _, r, by simp only [Act.put, lq4, lq5, lq6] <;> rfl, HJ.out.quiet (oc6_ok _ _ _ _ _ _ _ _ _ _) (i := 13) rfl rfl (by simp) (fun c h => nomatch h)⟩
    · simp only [lq1, lq2, lq3, Option.some.injEq] at ho; subst ho
      have b13 := hd ⟨13, .data⟩ (by simp) (by rfl)
      obtain rfl : y13 = .pointer (some ⟨gb, 15, none⟩) := J.x 13 b13 rfl
      have b8 := hd ⟨8, .data⟩ (by simp) (by rfl)
      obtain rfl : y8 = .slice (r 8).1 l5.length (r 8).2.1 := J.x 8 b8 rfl
      have HWT : ∀ c, (oc6 gb A3 A4 A5 z3 z4 z5 l3 l4 l5).dep 14 c = true → f c = true := by
       intro c hc
       have hc' : c = 0 ∨ c = 1 ∨ c = 2 ∨ c = 3 ∨ c = 4 ∨ c = 5 ∨ c = 6 ∨ c = 7 ∨ c = 8 ∨ c = 9 ∨ c = 10 ∨ c = 11 ∨ c = 12 ∨ c = 13 := by have : c ≤ 13 := of_decide_eq_true hc; omega
       rcases hc' with rfl | rfl | rfl | rfl | rfl | rfl | rfl | rfl | rfl | rfl | rfl | rfl | rfl | rfl
       · first | exact waits hd (by rfl) | exact J.d 12 0 rfl (waits hd (by rfl)) | exact J.d 10 0 rfl (waits hd (by rfl)) | exact J.d 8 0 rfl (waits hd (by rfl))
       · first | exact waits hd (by rfl) | exact J.d 12 1 rfl (waits hd (by rfl)) | exact J.d 10 1 rfl (waits hd (by rfl)) | exact J.d 8 1 rfl (waits hd (by rfl))
       · first | exact waits hd (by rfl) | exact J.d 12 2 rfl (waits hd (by rfl)) | exact J.d 10 2 rfl (waits hd (by rfl)) | exact J.d 8 2 rfl (waits hd (by rfl))
       · first | exact waits hd (by rfl) | exact J.d 12 3 rfl (waits hd (by rfl)) | exact J.d 10 3 rfl (waits hd (by rfl)) | exact J.d 8 3 rfl (waits hd (by rfl))
       · first | exact waits hd (by rfl) | exact J.d 12 4 rfl (waits hd (by rfl)) | exact J.d 10 4 rfl (waits hd (by rfl)) | exact J.d 8 4 rfl (waits hd (by rfl))
       · first | exact waits hd (by rfl) | exact J.d 12 5 rfl (waits hd (by rfl)) | exact J.d 10 5 rfl (waits hd (by rfl)) | exact J.d 8 5 rfl (waits hd (by rfl))
       · first | exact waits hd (by rfl) | exact J.d 12 6 rfl (waits hd (by rfl)) | exact J.d 10 6 rfl (waits hd (by rfl)) | exact J.d 8 6 rfl (waits hd (by rfl))
       · first | exact waits hd (by rfl) | exact J.d 12 7 rfl (waits hd (by rfl)) | exact J.d 10 7 rfl (waits hd (by rfl)) | exact J.d 8 7 rfl (waits hd (by rfl))
       · first | exact waits hd (by rfl) | exact J.d 12 8 rfl (waits hd (by rfl)) | exact J.d 10 8 rfl (waits hd (by rfl)) | exact J.d 8 8 rfl (waits hd (by rfl))
       · first | exact waits hd (by rfl) | exact J.d 12 9 rfl (waits hd (by rfl)) | exact J.d 10 9 rfl (waits hd (by rfl)) | exact J.d 8 9 rfl (waits hd (by rfl))
       · first | exact waits hd (by rfl) | exact J.d 12 10 rfl (waits hd (by rfl)) | exact J.d 10 10 rfl (waits hd (by rfl)) | exact J.d 8 10 rfl (waits hd (by rfl))
       · first | exact waits hd (by rfl) | exact J.d 12 11 rfl (waits hd (by rfl)) | exact J.d 10 11 rfl (waits hd (by rfl)) | exact J.d 8 11 rfl (waits hd (by rfl))
       · first | exact waits hd (by rfl) | exact J.d 12 12 rfl (waits hd (by rfl)) | exact J.d 10 12 rfl (waits hd (by rfl)) | exact J.d 8 12 rfl (waits hd (by rfl))
       · first | exact waits hd (by rfl) | exact J.d 12 13 rfl (waits hd (by rfl)) | exact J.d 10 13 rfl (waits hd (by rfl)) | exact J.d 8 13 rfl (waits hd (by rfl))
      have HFI := hide hf
      have B13 := hide b13
      have B8 := hide b8
      have hM := J.m
      obtain ⟨w3, hm1, hm2, hm3⟩ := hM
      obtain ⟨cs', hB, hcz⟩ := oc6_blk (A3 := A3) (A4 := A4) (A5 := A5) (z3 := z3) (z4 := z4) (z5 := z5) (l3 := l3) (l4 := l4) (l5 := l5) (f := f) (r := r) (HB5.out.fr hm1 fun h => h)
      rw [← hm3] at hB
      have hz := hB.frozen
      have hq := hB.lt
      have hcz' : cs'.size = 17 := by rw [hcz]; rfl
      obtain ⟨v15, c15⟩ := blk_cells hB (k := 15) (by omega)
      have y10 : f 10 = true := HWT 10 rfl
      have y12 : f 12 = true := HWT 12 rfl
      have HST := hide (fun w3 (h : wx = (oc6 gb A3 A4 A5 z3 z4 z5 l3 l4 l5).M f r w3) => oc6_st14 y10 y12 hf h)
      clear hm1 hm2 hm3 hB hcz hcz'
      have HJ := hide J
      have HWTX := hide HWT
      clear J hd hf b13 b8 HWT
      go_simp
      exact hK.out _ _ ⟨_, _, _, _, _, _, _, _, _, _, _, _, r, by simp only [Act.put, lq4, lq5, lq6] <;> rfl, HJ.out.store (i := 14) rfl rfl HWTX.out (fun w3 h => HST.out w3 h)⟩
   case en =>
    rintro f a wx hall ⟨y0, y1, y2, y3, y4, y5, y6, y7, y8, y9, y11, y13, r, rfl, J⟩
    obtain rfl : y2 = .slice (r 2).1 l3.length (r 2).2.1 := J.x 2 (hall 2 (by simp)) rfl
    obtain rfl : y5 = .slice (r 5).1 l4.length (r 5).2.1 := J.x 5 (hall 5 (by simp)) rfl
    obtain rfl : y8 = .slice (r 8).1 l5.length (r 8).2.1 := J.x 8 (hall 8 (by simp)) rfl
    simp only [Act.put, lq4, lq5, lq6]
    obtain ⟨w3, hfx, hP, hM⟩ := J.m
    have P2 := hP 2 rfl (hall 2 (by simp))
    have P5 := hP 5 rfl (hall 5 (by simp))
    have P8 := hP 8 rfl (hall 8 (by simp))
    have hM' : wx = ((w3.setCell ⟨gb, 13, none⟩ (.slice (r 2).1 l3.length (r 2).2.1)).setCell ⟨gb, 14, none⟩ (.slice (r 5).1 l4.length (r 5).2.1)).setCell ⟨gb, 15, none⟩ (.slice (r 8).1 l5.length (r 8).2.1) := by rw [hM]; simp [oc6, hall 10 (by simp), hall 12 (by simp), hall 14 (by simp)]
    clear J hall hP hM
    generalize r 2 = ra at *
    generalize r 5 = rb at *
    generalize r 8 = rc at *
    obtain ⟨B3, cp3, m3⟩ := ra
    obtain ⟨B4, cp4, m4⟩ := rb
    obtain ⟨B5, cp5, m5⟩ := rc
    obtain ⟨a1, a2, a3, a4, a5, a6⟩ := P2
    obtain ⟨b1, b2, b3, b4, b5, b6⟩ := P5
    obtain ⟨d1, d2, d3, d4, d5, d6⟩ := P8
    rw [if_pos rfl] at a1 a2 a4
    rw [if_neg (by decide), if_pos rfl] at b1 b2 b4
    rw [if_neg (by decide), if_neg (by decide)] at d1 d2 d4
    dsimp only at a1 a2 a3 a4 a5 a6 b1 b2 b3 b4 b5 b6 d1 d2 d3 d4 d5 d6 hM' ⊢
    have hB0 := HB5.out.fr hfx fun h => h
    have hB6 : Blk wx gb 311 #[.int .u8 op, .string nm, .string sc, .int .u8 ab, .int .u8 wh, .int .u8 k1, .int .i64 n1, .string s1, .slice B1 m1.length cp1, .int .u8 k2, .int .i64 n2, .string s2, .slice B2 m2.length cp2, .slice B3 l3.length cp3, .slice B4 l4.length cp4, .slice B5 l5.length cp5, .slice A6 l6.length z6] := by
     rw [hM']
     simpa only [List.setIfInBounds_toArray, List.set_cons_zero, List.set_cons_succ] using ((hB0.set_ 13 (.slice B3 l3.length cp3)).set_ 14 (.slice B4 l4.length cp4)).set_ 15 (.slice B5 l5.length cp5)
    have hfs6 : Fr (fun i => i = gb) w3 wx := by rw [hM']; exact (((Fr.refl (fun i => i = gb) w3).set (fun _ => rfl) _).set (fun _ => rfl) _).set (fun _ => rfl) _
    have hgb : wr.heap.size ≤ gb := by omega
    have hfa6 : Fr No wr wx := (HF5.out.trans hfx).trans' hfs6 fun i hi h => by have h' : i = gb := h; omega
    have hgw : gb < W5.heap.size := hq5
    have mv : ∀ (A : Option Addr) (l : List G), (G.row A l).In w3 W5.heap.size w3.heap.size → (G.row A l).Td w3 → (G.row A l).In wx (gb + 1) wx.heap.size ∧ (G.row A l).Td wx := fun A l h1 h3 => by
     have h2 : ∀ b, (G.row A l).Has b → ¬ b = gb := fun b hb h => by have := (G.In.has hb h1).1; omega
     exact ⟨G.In.more (by omega) hfs6.size _ (h1.frH hfs6 (Nat.le_refl _) h2), fun b hb => by
      obtain ⟨e, cs, q1, q2⟩ := h3 b hb
      exact ⟨e, cs, q1, q2.fr hfs6 (h2 b hb)⟩⟩
    have h56 : Fr (fun i => i = gb) W5 wx := hfx.no.trans hfs6
    have HR6 : Hid (R6 wr gb op nm sc ab wh k1 n1 s1 l1 k2 n2 s2 l2 A3 z3 l3 A4 z4 l4 A5 z5 l5 A6 z6 l6 wx) := hide ⟨B1, cp1, m1, B2, cp2, m2, B3, cp3, m3, B4, cp4, m4, B5, cp5, m5, hB6, hfa6, row_mv HG3.out h56, row_mv HG4.out h56, mv B3 m3 a5 a6, mv B4 m4 b5 b6, mv B5 m5 d5 d6, HE12.out, ⟨a1, a2, a3, a4⟩, ⟨b1, b2, b3, b4⟩, d1, d2, d3, d4⟩
    clear hM' hfx a1 a2 a3 a4 a5 a6 b1 b2 b3 b4 b5 b6 d1 d2 d3 d4 d5 d6 hB0 hB6 hfs6 hgb hfa6 hgw mv h56 HC3 HC4 HC5 HB5 HF5 hq5
    go_wp2_with fail
    go_meet
    case rel => exact HR6.out
  obtain ⟨B1, cp1, m1, B2, cp2, m2, B3, cp3, m3, B4, cp4, m4, B5, cp5, m5, hB6, hfa6, hg3, hg4, hg5, hg6, hg7, he12, hms⟩ := hcut
  generalize wc = wx at *
  have HG3 := hide hg3
  have HG4 := hide hg4
  have HG5 := hide hg5
  have HG6 := hide hg6
  have HG7 := hide hg7
  have HE12 := hide he12
  have HMS := hide hms
  have HB6 := hide hB6
  have HF6 := hide hfa6
  have hq6 := hB6.lt
  have c16 : wx.cell? ⟨gb, 16, none⟩ = some (.slice A6 l6.length z6) := hB6.cell 16
  clear hg3 hg4 hg5 hg6 hg7 he12 hms hB6 hfa6 HC3 HC4 HC5 HB5 HF5 hq5
  go_upto_region 7 with (fail)
  go_cut [] from 10 to 42 (fun w8 => ∃ (B6 : Option Addr) (cp6 : Nat) (w7 : World), w8 = w7.setCell ⟨gb, 16, none⟩ (.slice B6 l6.length cp6) ∧ w7.ownsRow wx.heap.size 9 1 (.slice B6 l6.length cp6) l6.length (gCells l6) ∧ Fr No wx w7)
  case first => as_aux_lemma =>
   go_wp2_with fail
   refine (HC6.out wx HF6.out).mono ?_
   rintro e w7 ⟨B6, cp6, rfl, ho7, f7⟩
   have hB7 := HB6.out.fr f7 fun h => h
   have hz7 := hB7.frozen
   have hq7 := hB7.lt
   have c16' : w7.cell? ⟨gb, 16, none⟩ = some (.slice A6 l6.length z6) := hB7.cell 16
   have HO7 := hide ho7
   have HF7 := hide f7
   clear c16 hB7 ho7 f7 hq6
   go_wp2_with fail
   go_meet
   case rel => exact ⟨B6, cp6, w7, rfl, HO7.out, HF7.out⟩
  obtain ⟨B6, cp6, w7, rfl, ho7, f7⟩ := hcut
  have hB7 := HB6.out.fr f7 fun h => h
  have hz7 := hB7.frozen
  have hq7 := hB7.lt
  have c16' : w7.cell? ⟨gb, 16, none⟩ = some (.slice A6 l6.length z6) := hB7.cell 16
  have HB7 := hide hB7
  have HO7 := hide ho7
  have HF7 := hide f7
  clear c16 hB7 ho7 f7 hq6 HC6
  go_upto_region 8 with (fail)
  have hB8 := HB7.out.set_ 16 (.slice B6 l6.length cp6)
  simp only [lq4, lq5, lq6] at hB8
  have hs8 : Fr (fun i => i = gb) w7 (w7.setCell ⟨gb, 16, none⟩ (.slice B6 l6.length cp6)) := (Fr.refl (fun i => i = gb) w7).set (fun _ => rfl) _
  have hwx : gb < wx.heap.size := HB6.out.lt
  have hr6 := row_of_owns (lo := gb + 1) (hi := w7.heap.size) (by omega) HO7.out HT6.out.2 (fun x hx => by obtain ⟨s, rfl, -⟩ := ty_str (HT6.out.1 x hx); exact G.in_mk.2 (by simp)) (by omega) (Nat.le_refl _)
  have ht6 := row_td (l := l6) (.inr (.inr (.inr (.inr rfl)))) HO7.out rfl (fun x hx => by obtain ⟨s, rfl, -⟩ := ty_str (HT6.out.1 x hx); intro b hb; obtain ⟨A, l, hm, -⟩ := G.mk_has.1 hb; simp at hm)
  have h78 : Fr (fun i => i = gb) wx (w7.setCell ⟨gb, 16, none⟩ (.slice B6 l6.length cp6)) := (HF7.out.no).trans hs8
  have HG3 := hide (row_mv HG3.out h78)
  have HG4 := hide (row_mv HG4.out h78)
  have HG5 := hide (row_mv HG5.out h78)
  have HG6 := hide (row_mv HG6.out h78)
  have HG7 := hide (row_mv HG7.out h78)
  have HG8 := hide (row_mv ⟨hr6, ht6⟩ hs8)
  have hf8 : Fr No wr (w7.setCell ⟨gb, 16, none⟩ (.slice B6 l6.length cp6)) := (HF6.out.trans HF7.out).trans' hs8 fun i hi h => by have h' : i = gb := h; omega
  clear hr6 ht6 h78 hs8 c16' hz7 hq7 hwx
  generalize World.setCell w7 _ _ = w8 at *
  have inv8 := HINV.out.no hf8
  obtain ⟨gr', hA8, hg08, hg18, hce8, hfz8⟩ := inv8.at_ hlt HCL.out (fun x hx => (hasTy_length (inv8.ty x hx)).trans (by rw [flat_stmt]; rfl))
  simp only [Option.some.injEq, Addr.mk.injEq, and_true] at hA8
  subst hA8
  rw [HX.out] at hce8
  unfold stC at hce8
  have b0 : w8.cell? ⟨gb, 0, none⟩ = some (.int .u8 op) := hB8.cell 0
  have b1 : w8.cell? ⟨gb, 1, none⟩ = some (.string nm) := hB8.cell 1
  have b2 : w8.cell? ⟨gb, 2, none⟩ = some (.string sc) := hB8.cell 2
  have b3 : w8.cell? ⟨gb, 3, none⟩ = some (.int .u8 ab) := hB8.cell 3
  have b4 : w8.cell? ⟨gb, 4, none⟩ = some (.int .u8 wh) := hB8.cell 4
  have b5 : w8.cell? ⟨gb, 5, none⟩ = some (.int .u8 k1) := hB8.cell 5
  have b6 : w8.cell? ⟨gb, 6, none⟩ = some (.int .i64 n1) := hB8.cell 6
  have b7 : w8.cell? ⟨gb, 7, none⟩ = some (.string s1) := hB8.cell 7
  have b8 : w8.cell? ⟨gb, 8, none⟩ = some (.slice B1 m1.length cp1) := hB8.cell 8
  have b9 : w8.cell? ⟨gb, 9, none⟩ = some (.int .u8 k2) := hB8.cell 9
  have b10 : w8.cell? ⟨gb, 10, none⟩ = some (.int .i64 n2) := hB8.cell 10
  have b11 : w8.cell? ⟨gb, 11, none⟩ = some (.string s2) := hB8.cell 11
  have b12 : w8.cell? ⟨gb, 12, none⟩ = some (.slice B2 m2.length cp2) := hB8.cell 12
  have b13 : w8.cell? ⟨gb, 13, none⟩ = some (.slice B3 l3.length cp3) := hB8.cell 13
  have b14 : w8.cell? ⟨gb, 14, none⟩ = some (.slice B4 l4.length cp4) := hB8.cell 14
  have b15 : w8.cell? ⟨gb, 15, none⟩ = some (.slice B5 l5.length cp5) := hB8.cell 15
  have b16 : w8.cell? ⟨gb, 16, none⟩ = some (.slice B6 l6.length cp6) := hB8.cell 16
  have e0 : w8.cell? ⟨gr, j * 17, none⟩ = some (.int .u8 op) := hce8 0 _ rfl
  have e1 : w8.cell? ⟨gr, j * 17 + 1, none⟩ = some (.string nm) := hce8 1 _ rfl
  have e2 : w8.cell? ⟨gr, j * 17 + 2, none⟩ = some (.string sc) := hce8 2 _ rfl
  have e3 : w8.cell? ⟨gr, j * 17 + 3, none⟩ = some (.int .u8 ab) := hce8 3 _ rfl
  have e4 : w8.cell? ⟨gr, j * 17 + 4, none⟩ = some (.int .u8 wh) := hce8 4 _ rfl
  have e5 : w8.cell? ⟨gr, j * 17 + 5, none⟩ = some (.int .u8 k1) := hce8 5 _ rfl
  have e6 : w8.cell? ⟨gr, j * 17 + 6, none⟩ = some (.int .i64 n1) := hce8 6 _ rfl
  have e7 : w8.cell? ⟨gr, j * 17 + 7, none⟩ = some (.string s1) := hce8 7 _ rfl
  have e8 : w8.cell? ⟨gr, j * 17 + 8, none⟩ = some (.slice A1 l1.length z1) := hce8 8 _ rfl
  have e9 : w8.cell? ⟨gr, j * 17 + 9, none⟩ = some (.int .u8 k2) := hce8 9 _ rfl
  have e10 : w8.cell? ⟨gr, j * 17 + 10, none⟩ = some (.int .i64 n2) := hce8 10 _ rfl
  have e11 : w8.cell? ⟨gr, j * 17 + 11, none⟩ = some (.string s2) := hce8 11 _ rfl
  have e12 : w8.cell? ⟨gr, j * 17 + 12, none⟩ = some (.slice A2 l2.length z2) := hce8 12 _ rfl
  have e13 : w8.cell? ⟨gr, j * 17 + 13, none⟩ = some (.slice A3 l3.length z3) := hce8 13 _ rfl
  have e14 : w8.cell? ⟨gr, j * 17 + 14, none⟩ = some (.slice A4 l4.length z4) := hce8 14 _ rfl
  have e15 : w8.cell? ⟨gr, j * 17 + 15, none⟩ = some (.slice A5 l5.length z5) := hce8 15 _ rfl
  have e16 : w8.cell? ⟨gr, j * 17 + 16, none⟩ = some (.slice A6 l6.length z6) := hce8 16 _ rfl
  have hq8 := hB8.lt
  have hgr8 : gr < w8.heap.size := by have := inv8.big; omega
  have HF8 := hide hf8
  have HI8 := hide inv8
  clear hce8 hB8 hf8 inv8
  go_wp2_with fail
  go_roundw
  case rel =>
   obtain ⟨⟨fe1, te1, hl1, hm1⟩, fe2, te2, hl2, hm2⟩ := HE12.out
   obtain ⟨⟨a1, a2, a3, a4⟩, ⟨b1, b2, b3, b4⟩, d1, d2, d3, d4⟩ := HMS.out
   obtain ⟨hfs, -, -⟩ := HS.out
   have hcp6 : l6.length ≤ cp6 := owns_leK HO7.out
   have hy := mk_stmt (op := op) (nm := nm) (sc := sc) (ab := ab) (wh := wh) (A1 := B1) (A2 := B2) (A3 := B3) (A4 := B4) (A5 := B5) (A6 := B6) (z3 := cp3) (z4 := cp4) (z5 := cp5) (z6 := cp6) (l3 := m3) (l4 := m4) (l5 := m5) (l6 := l6) ⟨hfs.op0, hfs.nm1, hfs.sc1, hfs.ab0, hfs.wh0, ⟨by rw [a1]; exact hfs.th1.1, by rw [a1]; exact a2⟩, ⟨by rw [b1]; exact hfs.el1.1, by rw [b1]; exact b2⟩, ⟨by rw [d1]; exact hfs.co1.1, by rw [d1]; exact d2⟩, ⟨hfs.wi1.1, hcp6⟩⟩ fe1 fe2 te1 te2 a3 b3 d3 HT6.out.1
   rw [a1, b1, d1] at hy
   have hst := HINV.out.step hlt HCL.out (fun x hx => (hasTy_length (HINV.out.ty x hx)).trans (by rw [flat_stmt]; rfl)) HF8.out hy (by
    rw [HX.out, G.er_mk, G.er_mk]
    simp [stC, erV, hm1, hm2, a4, b4, d4, hl1, hl2]) rfl (G.in_rows.2 fun A' l' hm => by
    simp at hm
    rcases hm with ⟨rfl, rfl⟩ | ⟨rfl, rfl⟩ | ⟨rfl, rfl⟩ | ⟨rfl, rfl⟩ | ⟨rfl, rfl⟩ | ⟨rfl, rfl⟩
    · exact G.In.more (by omega) (Nat.le_refl _) _ HG3.out.1
    · exact G.In.more (by omega) (Nat.le_refl _) _ HG4.out.1
    · exact G.In.more (by omega) (Nat.le_refl _) _ HG5.out.1
    · exact G.In.more (by omega) (Nat.le_refl _) _ HG6.out.1
    · exact G.In.more (by omega) (Nat.le_refl _) _ HG7.out.1
    · exact G.In.more (by omega) (Nat.le_refl _) _ HG8.out.1) (fun b hb => by
    obtain ⟨A', l', hm, hh⟩ := G.mk_has.1 hb
    simp at hm
    rcases hm with ⟨rfl, rfl⟩ | ⟨rfl, rfl⟩ | ⟨rfl, rfl⟩ | ⟨rfl, rfl⟩ | ⟨rfl, rfl⟩ | ⟨rfl, rfl⟩
    · exact HG3.out.2 b hh
    · exact HG4.out.2 b hh
    · exact HG5.out.2 b hh
    · exact HG6.out.2 b hh
    · exact HG7.out.2 b hh
    · exact HG8.out.2 b hh)
   have hst2 := hst
   clear hst
   simp only [stC, G.c, setRow, Nat.add_assoc, Nat.reduceAdd] at hst2
   exact ⟨j + 1, _, hlt, by go_num, hst2⟩
  case measure => simp [intOf]; omega
theorem codeC (g : G) : CodeC g := by
 induction g using G.ind with
 | h c subs ih =>
  intro A l hm w lo hi cap hrow hh
  exact ownCode_row l (fun x hx => ih A l hm x hx) w lo hi A cap hrow hh
theorem ownCode_any (l : List G) (w : World) (lo hi : Nat) (A : Option Addr) (cap : Nat) (hrow : CdRow w lo hi A cap l) (hh : hi ≤ w.heap.size) : Calls Tryz.prog 202 #[.slice A l.length cap] w (OwnCP l w) :=
 ownCode_row l (fun x _ => codeC x) w lo hi A cap hrow hh
end Go.Proofs.YtlejelbefmkakaaGreat

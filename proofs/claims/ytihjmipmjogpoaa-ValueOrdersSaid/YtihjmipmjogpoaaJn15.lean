/- Texts joined: S19, J2, J3, P13. -/
import Derived.Test.YtihjmipmjogpoaaJn14
import Derived.Deep.CutRange
import Derived.Outline
/- Chapter 2: what the sorts of one list have in common; a sorted row, written over. -/
namespace Go.Proofs.Ytihjmipmjogpoaa
open Go.RowKit

def errOf (L : List V) : Int := if L.all V.may = true then 0 else 2
def valsOf (L : List V) : List V := if L.all V.may = true then L else []

theorem valsOf_may (L : List V) : (valsOf L).all V.may = true := by
  unfold valsOf
  split
  · assumption
  · rfl

theorem valsOf_mem {L : List V} {v : V} (h : v ∈ valsOf L) : v ∈ L := by
  unfold valsOf at h
  split at h
  · exact h
  · simp at h

/-- What Sort answers, whatever the list. -/
theorem SortP.one {L : List V} {w : World} {e : Ending} {w' : World} (h : SortP L w e w') : ∃ A cap C, e = .returned (.tuple #[.slice A C.length cap, .int .i64 (errOf L)]) ∧ SortR (valsOf L) w A cap C w' := by
  unfold errOf valsOf
  cases ha : L.all V.may with
  | true =>
    obtain ⟨A, cap, C, h1, h2⟩ := h.1 ha
    exact ⟨A, cap, C, h1, h2⟩
  | false =>
    obtain ⟨h1, h2⟩ := h.2 ha
    exact ⟨none, 0, [], h1, ⟨.refl _, .nil, World.ownsRow_nil _ _ _ _, by simp, by simp, by simp, h2⟩⟩

/-- What the document's Sort answers, whatever the list. -/
structure RSortR (l : List T) (w : World) (A : Option Addr) (cap : Nat) (C : List T) (w' : World) : Prop where
  perm : (C.map T.v).Perm (valsOf (l.map T.v))
  srt : C.Pairwise leT
  mem : ∀ x ∈ C, x ∈ l
  own : w'.ownsRow w.heap.size 27 5 (.slice A C.length cap) C.length (rowCells C)
  fr : Fr No w w'

theorem RSortP.one {l : List T} {w : World} {e : Ending} {w' : World} (h : RSortP l w e w') : ∃ A cap C, e = .returned (.tuple #[.slice A C.length cap, .int .i64 (errOf (l.map T.v))]) ∧ RSortR l w A cap C w' := by
  unfold errOf
  cases ha : (l.map T.v).all V.may with
  | true =>
    obtain ⟨A, cap, C, h1, h2, h3, h4, h5⟩ := h.1 ha
    exact ⟨A, cap, C, h1, ⟨by unfold valsOf; rw [if_pos ha]; exact h2.map T.v, h3, fun x hx => h2.mem_iff.1 hx, h4, h5⟩⟩
  | false =>
    obtain ⟨h1, h2⟩ := h.2 ha
    exact ⟨none, 0, [], h1, ⟨by unfold valsOf; rw [ha]; exact .refl _, .nil, by simp, World.ownsRow_nil _ _ _ _, h2⟩⟩

/-- Two sorted rows of the same values, that may be, are of the same values in the same order. -/
theorem sorted_one {C D : List T} {M : List V} (hm : M.all V.may = true) (pC : (C.map T.v).Perm M) (pD : (D.map T.v).Perm M) (sC : C.Pairwise leT) (sD : D.Pairwise leT) : C.map T.v = D.map T.v := by
  have ok : ∀ {E : List T}, (E.map T.v).Perm M → E.Pairwise leT → (E.map T.v).Pairwise fun a b => a.ord b ≤ 0 ∧ a.ok = true ∧ b.ok = true := by
    intro E p s
    have hok : ∀ x ∈ E, x.v.ok = true := fun x hx => may_ok (List.all_eq_true.1 hm _ (p.mem_iff.1 (List.mem_map_of_mem hx)))
    rw [List.pairwise_map]
    exact s.imp_of_mem fun hx hy h => ⟨h, hok _ hx, hok _ hy⟩
  refine order_one (le := fun a b => a.ord b ≤ 0 ∧ a.ok = true ∧ b.ok = true) (fun a b h h' => ?_) (pC.trans pD.symm) (ok pC sC) (ok pD sD)
  refine ord_eq a b h.2.1 h.2.2 ?_
  have := ord_anti a b
  have := h.1
  have := h'.1
  omega

/-- The mark of what is written over. -/
def m9 : T := .mk 1 (-9) ⟨#[]⟩ none 0 [] 0

/-- Where the writing over of a sorted row stands. -/
structure SpL (w0 : World) (base hi : Nat) (A : Option Addr) (cap : Nat) (C : List T) (i : Nat) (wr : World) : Prop where
  own : wr.ownsRow base 27 5 (.slice A C.length cap) C.length (rowCells (List.replicate i m9 ++ C.drop i))
  sp : ∀ (j : Nat) (x : T), C[j]? = some x → i ≤ j → x.Sp wr base hi
  fr : Fr (fun b => (Value.slice A C.length cap).ownBlock = some b ∨ ∃ x ∈ C, b ∈ x.blocks) w0 wr

theorem SpL.begin {L : List V} {w w' wi : World} {A : Option Addr} {cap : Nat} {C : List T} (h : SortR L w A cap C w') (f : Fr No w' wi) : SpL wi w.heap.size w'.heap.size A cap C 0 wi :=
  ⟨by simpa using owns_fr h.own f (fun _ _ h => h), fun j x hx _ => T.Sp.fr f x (fun _ _ h => h) (h.sp x (List.mem_of_getElem? hx)), Fr.refl _ _⟩

theorem nodup_of {C : List T} (h : ((C.map T.blocks).flatten).Nodup) {i j : Nat} {x y : T} (hx : C[i]? = some x) (hy : C[j]? = some y) (hij : i ≠ j) : ∀ b ∈ x.blocks, b ∉ y.blocks := by
  obtain ⟨hi, rfl⟩ := List.getElem?_eq_some_iff.1 hx
  obtain ⟨hj, rfl⟩ := List.getElem?_eq_some_iff.1 hy
  intro b hb hb'
  rcases Nat.lt_or_ge i j with h' | h'
  · refine nodup_at (L := C.map T.blocks) h (i := i) (j := j) (by simpa using hi) (by simpa using hj) h' (b := b) ?_ ?_
    · simpa using hb
    · simpa using hb'
  · refine nodup_at (L := C.map T.blocks) h (i := j) (j := i) (by simpa using hj) (by simpa using hi) (by omega) (b := b) ?_ ?_
    · simpa using hb'
    · simpa using hb

theorem nodup_one {C : List T} (h : ((C.map T.blocks).flatten).Nodup) {x : T} (hx : x ∈ C) : x.blocks.Nodup := by
  induction C with
  | nil => simp at hx
  | cons y C ih =>
    rw [List.map_cons, List.flatten_cons, List.nodup_append] at h
    rcases List.mem_cons.1 hx with rfl | hx
    · exact h.1
    · exact ih h.2.1 hx

theorem rep_at {C : List T} {i : Nat} {x : T} (h : C[i]? = some x) : (List.replicate i m9 ++ C.drop i)[i]? = some x ∧ (List.replicate i m9 ++ C.drop i).set i m9 = List.replicate (i + 1) m9 ++ C.drop (i + 1) ∧ (List.replicate i m9 ++ C.drop i).length = C.length := by
  obtain ⟨hi, rfl⟩ := List.getElem?_eq_some_iff.1 h
  refine ⟨?_, ?_, by simp; omega⟩
  · rw [List.getElem?_append_right (by simp)]
    simp
  · rw [List.set_append_right _ _ (by simp), List.drop_eq_getElem_cons hi, List.length_replicate, Nat.sub_self, List.set_cons_zero, List.replicate_succ', List.append_assoc]
    rfl

/-- One more is written over. -/
theorem SpL.next {L : List V} {w w' w0 wr w2 : World} {A : Option Addr} {cap : Nat} {C : List T} {i g : Nat} {x : T} (hs : SortR L w A cap C w') (h : SpL w0 w.heap.size w'.heap.size A cap C i wr) (hx : C[i]? = some x) (hA : A = some ⟨g, 0, none⟩) (f : Fr (fun b => b ∈ x.blocks) wr w2) :
    SpL w0 w.heap.size w'.heap.size A cap C (i + 1) (five w2 g (i * 5) 1 (-9) ⟨#[]⟩ none 0 0 0) := by
  subst hA
  have hxm : x ∈ C := List.mem_of_getElem? hx
  have hsep : ∀ y ∈ C, g ∉ y.blocks := fun y hy hg => hs.sep y hy g hg rfl
  have f5 := five_fr w2 g (i * 5) 1 (-9) ⟨#[]⟩ none 0 0 0
  obtain ⟨r1, r2, r3⟩ := rep_at hx
  have hi := (List.getElem?_eq_some_iff.1 hx).1
  have o2 := owns_fr h.own f (fun b hb hb' => by
    simp [Value.ownBlock] at hb
    subst hb
    exact hsep x hxm hb')
  refine ⟨?_, fun j y hy hj => ?_, ?_⟩
  · have := owns_set5 o2 r3 hi 1 (-9) ⟨#[]⟩ none 0 [] 0
    rw [show T.mk 1 (-9) ⟨#[]⟩ none 0 [] 0 = m9 from rfl, r2] at this
    exact this
  · have h1 := h.sp j y hy (by omega)
    have h2 := T.Sp.fr f y (fun b hb hb' => nodup_of hs.nd hx hy (by omega) b hb' hb) h1
    exact T.Sp.fr f5 y (fun b hb hb' => by have e : b = g := hb'; subst e; exact hsep y (List.mem_of_getElem? hy) hb) h2
  · refine (h.fr.trans' f fun b _ hb => .inr ⟨x, hxm, hb⟩).trans' f5 fun b _ hb => ?_
    have e : b = g := hb
    subst e
    exact .inl rfl

end Go.Proofs.Ytihjmipmjogpoaa

/- Chapter 2: where a place leads: what lies there. -/
namespace Go.Proofs.Ytihjmipmjogpoaa
open Go.RowKit

theorem vAt_append (p q : List Int) : ∀ v : V, vAt (p ++ q) v = (vAt p v).bind (vAt q) := by
  induction p with
  | nil => intro v; rfl
  | cons i p ih =>
    intro v
    rw [List.cons_append, vAt_cons, vAt_cons]
    split
    · rfl
    · rw [Option.bind_assoc]
      exact congrArg _ (funext fun x => ih x)

/-- A place that leads somewhere is of natural numbers. -/
theorem vAt_nat (p : List Int) : ∀ v y, vAt p v = some y → ∃ pn : List Nat, p = pn.map fun i : Nat => (i : Int) := by
  induction p with
  | nil => intro v y _; exact ⟨[], rfl⟩
  | cons i p ih =>
    intro v y h
    rw [vAt_cons] at h
    split at h
    · cases h
    · rename_i hi
      obtain ⟨x, _, h2⟩ := Option.bind_eq_some_iff.1 h
      obtain ⟨pn, rfl⟩ := ih x y h2
      exact ⟨i.toNat :: pn, by rw [List.map_cons, Int.toNat_of_nonneg (by omega)]⟩

/-- What lies where a place leads, in memory of one's own. -/
theorem loc_five {w : World} {lo hi : Nat} (p : List Nat) : ∀ (t : T) (b o : Nat) (y : V), t.Sp w lo hi → Five w b o t → (∀ i, w.frozen? ⟨b, i, none⟩ = false) → vAt (p.map fun i : Nat => (i : Int)) t.v = some y →
    (loc p (b, o) t).2.Sp w lo hi ∧ Five w (loc p (b, o) t).1.1 (loc p (b, o) t).1.2 (loc p (b, o) t).2 ∧ (loc p (b, o) t).2.v = y ∧ (∀ i, w.frozen? ⟨(loc p (b, o) t).1.1, i, none⟩ = false) ∧ ((loc p (b, o) t).1.1 = b ∨ (loc p (b, o) t).1.1 < w.heap.size) := by
  induction p with
  | nil =>
    intro t b o y hsp h5 hf hat
    exact ⟨hsp, h5, (Option.some.inj hat), hf, .inl rfl⟩
  | cons i p ih =>
    intro t b o y hsp h5 hf hat
    cases t with
    | mk k n s A cap l r =>
      rw [T.v_mk, List.map_cons, vAt_cons, if_neg (by omega), Int.toNat_natCast] at hat
      simp only [V.list, List.getElem?_map] at hat
      obtain ⟨fit, h2, h3, h4⟩ := T.sp_mk.1 hsp
      cases hy : l[i]? with
      | none => rw [hy] at hat; cases hat
      | some z =>
        rw [hy] at hat
        simp only [Option.map_some, Option.bind_some] at hat
        have hmem := List.mem_of_getElem? hy
        have hne : l ≠ [] := by rintro rfl; cases hmem
        obtain ⟨hown, g, rfl, hg⟩ := h3 hne
        rw [loc_cons i p (b, o) k n s ⟨g, 0, none⟩ cap l r z hy]
        have hgl := (owns_lt hown g rfl).2
        have h := ih z g (i * 5) y (h4 z hmem) (fun c u hu => by
          have := World.ownsRow.cells hown (g := g) rfl _ _ (rowCells_get l i c z u hy hu)
          rwa [add_at, Nat.zero_add] at this) (fun q => hown.frozenAt q) hat
        refine ⟨h.1, h.2.1, h.2.2.1, h.2.2.2.1, .inr ?_⟩
        rcases h.2.2.2.2 with h | h
        · show (loc p (g, i * 5) z).1.1 < w.heap.size
          rw [h]; exact hgl
        · exact h

/-- One step further. -/
theorem loc_step {w : World} {lo hi : Nat} {p : List Nat} {t : T} {b o : Nat} {y : V} (hsp : t.Sp w lo hi) (h5 : Five w b o t) (hf : ∀ i, w.frozen? ⟨b, i, none⟩ = false) (hb : b < w.heap.size) (hat : vAt (p.map fun i : Nat => (i : Int)) t.v = some y) {j : Nat} (hj : j < p.length) :
    ∃ b1 o1 k n s g cap l r, loc (p.take j) (b, o) t = ((b1, o1), T.mk k n s (some ⟨g, 0, none⟩) cap l r) ∧ p[j] < l.length ∧ l.length * 64 ≤ 140737488351232 ∧ w.cell? ⟨b1, o1 + 3, none⟩ = some (.slice (some ⟨g, 0, none⟩) l.length cap) ∧ b1 < w.heap.size ∧
      (loc (p.take (j + 1)) (b, o) t).1 = (g, p[j] * 5) := by
  have hp : p = p.take j ++ (p[j] :: p.drop (j + 1)) := by rw [← List.drop_eq_getElem_cons hj, List.take_append_drop]
  rw [hp, List.map_append, vAt_append] at hat
  obtain ⟨u, hu, hat⟩ := Option.bind_eq_some_iff.1 hat
  obtain ⟨h1, h2, h3, -, h4⟩ := loc_five (p.take j) t b o u hsp h5 hf hu
  rw [List.map_cons, vAt_cons, if_neg (by omega), Int.toNat_natCast] at hat
  obtain ⟨z, hz, -⟩ := Option.bind_eq_some_iff.1 hat
  rw [← h3] at hz
  have hsn : loc (p.take (j + 1)) (b, o) t = stp (loc (p.take j) (b, o) t) p[j] := by rw [List.take_succ_eq_append_getElem hj, loc_snoc]
  generalize loc (p.take j) (b, o) t = L at *
  obtain ⟨⟨b1, o1⟩, k, n, s, A, cap, l, r⟩ := L
  rw [T.v_mk] at hz
  simp only [V.list, List.getElem?_map, Option.map_eq_some_iff] at hz
  obtain ⟨q, hq, -⟩ := hz
  have hlt := (List.getElem?_eq_some_iff.1 hq).1
  have hne : l ≠ [] := by rintro rfl; simp at hlt
  obtain ⟨fit, -, h6, -⟩ := T.sp_mk.1 h1
  obtain ⟨-, g, rfl, -⟩ := h6 hne
  refine ⟨b1, o1, k, n, s, g, cap, l, r, rfl, hlt, fit.len1, h2 3 _ rfl, ?_, ?_⟩
  · rcases h4 with h | h
    · have h' : b1 = b := h
      rw [h']; exact hb
    · exact h
  · rw [hsn]
    simp only [stp, T.base, T.kids, hq]

/-- The box behind a store. -/
theorem put_box {w : World} {g : Nat} {t : T} (hB : Blk w g 27 t.cells.toArray) (p : List Nat) {kx nx : Int} {sx : ByteArray} {Ax : Option Addr} {cx : Nat} {lx : List T} {rx : Int} (h0 : p = [] → (loc p (g, 0) t).1 = (g, 0))
    (h1 : p ≠ [] → (loc p (g, 0) t).1.1 ∈ t.blocks ∧ (T.put p (T.mk kx nx sx Ax cx lx rx) t).cells = t.cells) (hg : g ∉ t.blocks) :
    Blk (five w (loc p (g, 0) t).1.1 (loc p (g, 0) t).1.2 kx nx sx Ax lx.length cx rx) g 27 (T.put p (T.mk kx nx sx Ax cx lx rx) t).cells.toArray := by
  by_cases hp : p = []
  · rw [h0 hp]
    subst hp
    obtain ⟨k, n, s, A, cap, l, r⟩ := t
    exact (sets5v w g 27 _ _ _ _ _ (.int .u8 kx) (.int .i64 nx) (.string sx) (.slice Ax lx.length cx) (.int .i64 rx) hB).1
  · obtain ⟨h2, h3⟩ := h1 hp
    rw [h3]
    exact hB.fr (five_fr w _ _ kx nx sx Ax lx.length cx rx) (fun h => hg (by have h' : g = _ := h; rw [h']; exact h2))

end Go.Proofs.Ytihjmipmjogpoaa

/- Chapter 2: value.With. -/
namespace Go.Proofs.Ytihjmipmjogpoaa
open Go.RowKit

/-- What With answers. -/
def withOf (v x : V) (p : List Int) : V × Int :=
  if v.may = true ∧ x.may = true then (if (vAt p v).isSome = true then (if (V.put p x v).may = true then (V.put p x v, 0) else (V.zero, 4)) else (V.zero, 22)) else (V.zero, 2)

/-- Where With stands: its arguments, the answer's box. -/
structure WI (w : World) (t x : T) (lo hi lo2 hi2 : Nat) (A : Option Addr) (cap : Nat) (p : List Int) (lo' hi' : Nat) (wi : World) : Prop where
  bv : Blk wi w.heap.size 27 t.cells.toArray
  bx : Blk wi (w.heap.size + 1) 27 x.cells.toArray
  bz : Blk wi (w.heap.size + 2) 27 #[.int .u8 0, .int .i64 0, .string ⟨#[]⟩, .slice none 0 0, .int .i64 0]
  iv : t.In wi lo hi
  ix : x.In wi lo2 hi2
  ip : Ints wi lo' hi' A cap p
  f : Fr No w wi
  h1 : hi ≤ w.heap.size
  h2 : hi2 ≤ w.heap.size
  h3 : hi' ≤ w.heap.size

theorem WI.no {w wi wj : World} {t x : T} {lo hi lo2 hi2 : Nat} {A : Option Addr} {cap : Nat} {p : List Int} {lo' hi' : Nat} (h : WI w t x lo hi lo2 hi2 A cap p lo' hi' wi) (f : Fr No wi wj) : WI w t x lo hi lo2 hi2 A cap p lo' hi' wj := by
  have hs := h.f.size
  have a1 := h.h1
  have a2 := h.h2
  have a3 := h.h3
  exact ⟨h.bv.fr f fun h => h, h.bx.fr f fun h => h, h.bz.fr f fun h => h, h.iv.no f (by omega), h.ix.no f (by omega), h.ip.no f (by omega), h.f.trans f, a1, a2, a3⟩

theorem WI.begin {w : World} {k n : Int} {s : ByteArray} {B : Option Addr} {cb : Nat} {l : List T} {r : Int} {k' n' : Int} {s' : ByteArray} {B' : Option Addr} {cb' : Nat} {l' : List T} {r' : Int} {lo hi lo2 hi2 : Nat} {A : Option Addr} {cap : Nat} {p : List Int} {lo' hi' : Nat}
    (h1 : (T.mk k n s B cb l r).In w lo hi) (a1 : hi ≤ w.heap.size) (h2 : (T.mk k' n' s' B' cb' l' r').In w lo2 hi2) (a2 : hi2 ≤ w.heap.size) (h3 : Ints w lo' hi' A cap p) (a3 : hi' ≤ w.heap.size) :
    WI w (T.mk k n s B cb l r) (T.mk k' n' s' B' cb' l' r') lo hi lo2 hi2 A cap p lo' hi' (((w.alloc (.cells #[.int .u8 k, .int .i64 n, .string s, .slice B l.length cb, .int .i64 r] 27)).alloc (.cells #[.int .u8 k', .int .i64 n', .string s', .slice B' l'.length cb', .int .i64 r'] 27)).alloc (.cells #[.int .u8 0, .int .i64 0, .string ⟨#[]⟩, .slice none 0 0, .int .i64 0] 27)) := by
  have f := (((Fr.refl No w).alloc (.cells #[.int .u8 k, .int .i64 n, .string s, .slice B l.length cb, .int .i64 r] 27)).alloc (.cells #[.int .u8 k', .int .i64 n', .string s', .slice B' l'.length cb', .int .i64 r'] 27)).alloc (.cells #[.int .u8 0, .int .i64 0, .string ⟨#[]⟩, .slice none 0 0, .int .i64 0] 27)
  exact ⟨((Blk.new' w 27 _ rfl).alloc _).alloc _, (Blk.new' (w.alloc _) 27 _ (by simp)).alloc _, Blk.new' ((w.alloc _).alloc _) 27 _ (by simp), h1.no f a1, h2.no f a2, h3.no f a3, f, a1, a2, a3⟩

set_option maxRecDepth 100000 in
set_option maxHeartbeats 8000000 in
theorem With_any (t x : T) (w : World) (lo hi : Nat) (ht : t.In w lo hi) (hh : hi ≤ w.heap.size) (lo2 hi2 : Nat) (hx : x.In w lo2 hi2) (hh2 : hi2 ≤ w.heap.size) (A : Option Addr) (cap : Nat) (p : List Int) (lo' hi' : Nat) (hp : Ints w lo' hi' A cap p) (hh' : hi' ≤ w.heap.size) :
    Calls Try.prog 70 #[t.val, x.val, .slice A p.length cap] w (OwnE2 (withOf t.v x.v p).1 (withOf t.v x.v p).2 w) := by
  have hM1 := fun w' h h' => may_any t w' lo hi h h'
  have hM2 := fun w' h h' => may_any x w' lo2 hi2 h h'
  have hF := fun w' h h' h1 h2 => find2_any t w' lo hi h h' A cap p lo' hi' h1 h2
  have hO1 := fun w' h h' => own2_any t w' lo hi h h'
  have hO2 := fun w' h h' => own2_any x w' lo2 hi2 h h'
  have hplen := hp.len
  cases t with
  | mk k n s B cb l r =>
  cases x with
  | mk kx nx sx Bx cx lx rx =>
    have W1 := WI.begin ht hh hx hh2 hp hh'
    rw [T.val_mk] at hM1 hM2 hF hO1 hO2
    rw [T.val_mk, T.val_mk]
    generalize hv : (T.mk k n s B cb l r).v = v at *
    generalize hu : (T.mk kx nx sx Bx cx lx rx).v = u at *
    have hbad : ∀ (W W' : World) (m : Int), Fr No w W → withOf v u p = (V.zero, m) → Fr (fun i => i = w.heap.size + 2) W W' → OwnE2 (withOf v u p).1 (withOf v u p).2 w (.returned (.tuple #[.agg #[.int .u8 0, .int .i64 0, .string ⟨#[]⟩, .slice none 0 0, .int .i64 0], .int .i64 m])) W' := fun W W' m f e f' => by
      rw [e]
      exact ⟨T.zero, rfl, T.zero_v, T.zero_sh _ _ _, f.trans' f' fun i hi h => by have h' : i = w.heap.size + 2 := h; omega⟩
    have HBAD := hide hbad
    have hs1 := W1.f.size
    clear hbad ht hx hp
    have HM1 := hide hM1
    have HM2 := hide hM2
    have HF := hide hF
    have HO1 := hide hO1
    have HO2 := hide hO2
    have HV := hide hv
    have HU := hide hu
    have HW1 := hide W1
    clear hM1 hM2 hF hO1 hO2 hv hu W1
    go_enter Try.func70, Try.ntmps70
    go_wp2_with fail
    generalize World.alloc (World.alloc (World.alloc w _) _) _ = w1 at *
    refine (HM1.out w1 HW1.out.iv (by omega)).mono ?_
    rintro e w2 ⟨rfl, f2⟩
    have W2 := HW1.out.no f2
    have hs2 := W2.f.size
    have HW2 := hide W2
    obtain ⟨x0, x1, x2, x3, x4, -⟩ := Blk.cells5 W2.bx
    have q1 := W2.bx.lt
    obtain ⟨d0, d1, d2, d3, d4, df⟩ := W2.bz.cells5
    have q2 := W2.bz.lt
    clear HW1 f2 W2 HM1
    cases hm : v.may with
    | false =>
      have HE := hide (show withOf v u p = (V.zero, 2) by simp [withOf, hm])
      clear hm
      go_wp2
      refine bodyPost_ret (v := .tuple #[.agg #[.int .u8 0, .int .i64 0, .string ⟨#[]⟩, .slice none 0 0, .int .i64 0], .int .i64 2]) (by simp [results, Try.results70, go_sem, *]) rfl ?_
      refine HBAD.out _ _ 2 HW2.out.f HE.out ?_
      repeat (first | with_reducible exact Fr.refl _ _ | with_reducible refine Fr.set ?_ (by simp) _)
    | true =>
    have HMV := hide hm
    clear hm
    go_wp2_with fail
    refine (HM2.out w2 HW2.out.ix (by omega)).mono ?_
    rintro e w3 ⟨rfl, f3⟩
    have W3 := HW2.out.no f3
    have hs3 := W3.f.size
    have HW3 := hide W3
    clear x0 x1 x2 x3 x4 q1 d0 d1 d2 d3 d4 df q2
    obtain ⟨c0, c1, c2, c3, c4, -⟩ := Blk.cells5 W3.bv
    have q0 := W3.bv.lt
    obtain ⟨d0, d1, d2, d3, d4, df⟩ := W3.bz.cells5
    have q2 := W3.bz.lt
    clear HW2 f3 W3 HM2
    cases hm : u.may with
    | false =>
      have HE := hide (show withOf v u p = (V.zero, 2) by simp [withOf, hm])
      clear hm
      go_wp2
      refine bodyPost_ret (v := .tuple #[.agg #[.int .u8 0, .int .i64 0, .string ⟨#[]⟩, .slice none 0 0, .int .i64 0], .int .i64 2]) (by simp [results, Try.results70, go_sem, *]) rfl ?_
      refine HBAD.out _ _ 2 HW3.out.f HE.out ?_
      repeat (first | with_reducible exact Fr.refl _ _ | with_reducible refine Fr.set ?_ (by simp) _)
    | true =>
    have HMU := hide hm
    clear hm d0 d1 d2 d3 d4 df q2
    go_wp2_with fail
    refine (HF.out w3 HW3.out.iv (by omega) HW3.out.ip (by omega)).mono ?_
    rintro e w4 ⟨f4, hP⟩
    have W4 := HW3.out.no f4
    have hs4 := W4.f.size
    have HW4 := hide W4
    clear HW3 f4 HF c0 c1 c2 c3 c4 q0
    rcases hP with ⟨⟨kf, nf, sf, Af, cf, lf, rf⟩, rfl, hat, -⟩ | ⟨rfl, hat⟩
    case inr =>
      have HE := hide (show withOf v u p = (V.zero, 22) by simp only [withOf]; rw [if_pos ⟨HMV.out, HMU.out⟩, hat]; rfl)
      clear hat
      have W5 := W4.no ((Fr.refl No w4).alloc (.cells #[.int .u8 0, .int .i64 0, .string ⟨#[]⟩, .slice none 0 0, .int .i64 0] 27))
      obtain ⟨d0, d1, d2, d3, d4, df⟩ := W5.bz.cells5
      have q2 := W5.bz.lt
      have HW5 := hide W5
      clear W4 W5
      go_wp2
      refine bodyPost_ret (v := .tuple #[.agg #[.int .u8 0, .int .i64 0, .string ⟨#[]⟩, .slice none 0 0, .int .i64 0], .int .i64 22]) (by simp [results, Try.results70, go_sem, *]) rfl ?_
      refine HBAD.out _ _ 22 HW5.out.f HE.out ?_
      repeat (first | with_reducible exact Fr.refl _ _ | with_reducible refine Fr.set ?_ (by simp) _)
    case inl =>
    rw [T.val_mk]
    have W5 := W4.no ((Fr.refl No w4).alloc (.cells #[.int .u8 kf, .int .i64 nf, .string sf, .slice Af lf.length cf, .int .i64 rf] 27))
    have hs5 := W5.f.size
    have HW5 := hide W5
    obtain ⟨c0, c1, c2, c3, c4, -⟩ := Blk.cells5 W5.bv
    have q0 := W5.bv.lt
    have HAT := hide hat
    clear W4 HW4 W5 hat
    go_wp2_with fail
    generalize World.alloc w4 _ = w5 at *
    refine (HO1.out w5 HW5.out.iv (by omega)).mono ?_
    rintro e w6 ⟨t1, rfl, ev1, sh1, f6⟩
    have HT1 := hide (⟨_, rfl⟩ : ∃ tt : T, tt = t1)
    have sh1' := sh1
    obtain ⟨k1, n1, s1, B1, cb1, l1, r1⟩ := t1
    rw [T.val_mk]
    have W6 := HW5.out.no f6
    have f7 := (Fr.refl No w6).alloc (.cells #[.int .u8 k1, .int .i64 n1, .string s1, .slice B1 l1.length cb1, .int .i64 r1] 27)
    have W7 := W6.no f7
    have b7 : Blk (w6.alloc (.cells #[.int .u8 k1, .int .i64 n1, .string s1, .slice B1 l1.length cb1, .int .i64 r1] 27)) w6.heap.size 27 (T.mk k1 n1 s1 B1 cb1 l1 r1).cells.toArray := Blk.new w6 27 _
    have sh7 := sh1.no f7
    have hb7 : w6.heap.size ∉ (T.mk k1 n1 s1 B1 cb1 l1 r1).blocks := fun h => by have := T.In.blocks _ sh1.inn _ h; omega
    obtain ⟨pn, hpn⟩ := vAt_nat p v _ HAT.out
    have hat1 : vAt (pn.map fun i : Nat => (i : Int)) (T.mk k1 n1 s1 B1 cb1 l1 r1).v = some (T.mk kf nf sf Af cf lf rf).v := by rw [← hpn, ev1]; exact HAT.out
    have hpl : pn.length = p.length := by rw [hpn, List.length_map]
    have hs6 := f6.size
    have hs7 := f7.size
    have HF6 := hide f6
    have HB7 := hide b7
    have HSH := hide sh7
    have HBN := hide hb7
    have HPN := hide hpn
    have HA1 := hide hat1
    have HPL := hide hpl
    have HW7 := hide W7
    have HEV := hide ev1
    have hsl : w6.heap.size < (w6.alloc (.cells #[.int .u8 k1, .int .i64 n1, .string s1, .slice B1 l1.length cb1, .int .i64 r1] 27)).heap.size := by simp
    clear sh1 sh1' HT1 W6 f7 W7 b7 sh7 hb7 hpn hat1 hpl f6 ev1 c0 c1 c2 c3 c4 q0 HO1
    go_wp2_with fail
    generalize World.alloc w6 _ = w7 at *
    go_loopw [11, 13, 36] (fun at_ _ i wr => ∃ (j b o : Nat), j ≤ p.length ∧ i = .int .i64 j ∧ at_ = .pointer (some ⟨b, o, none⟩) ∧ (loc (pn.take j) (w6.heap.size, 0) (T.mk k1 n1 s1 B1 cb1 l1 r1)).1 = (b, o) ∧ Fr No w7 wr) (fun _ _ i _ => p.length - (intOf i).toNat)
    case atStart => exact ⟨0, w6.heap.size, 0, Nat.zero_le _, rfl, rfl, rfl, Fr.refl _ _⟩
    case round =>
      obtain ⟨j, b, o, hj, rfl, rfl, hloc, fr⟩ := hrel
      have hfive : Five wr w6.heap.size 0 (T.mk k1 n1 s1 B1 cb1 l1 r1) := fun c u hu => by
        rw [Nat.zero_add, (HB7.out.fr fr fun h => h).cell, List.getElem?_toArray]; exact hu
      have hfz := (HB7.out.fr fr fun h => h).frozen
      have hlt7 := (HB7.out.fr fr fun h => h).lt
      have hspr := (HSH.out.no fr).sp
      by_cases hjl : j < p.length
      · obtain ⟨ba, oa, rfl, hb0, hb1, hc⟩ := (HW7.out.ip.no fr (by omega)).elem hjl
        have hjn : j < pn.length := by rw [HPL.out]; exact hjl
        obtain ⟨b1, o1, ks, ns, ss, g, cs, ls, rs, hl1, hkl, hl64, hcell, hbl, hstep⟩ := loc_step hspr hfive hfz hlt7 HA1.out hjn
        rw [hl1] at hloc
        simp only [Prod.mk.injEq] at hloc
        obtain ⟨rfl, rfl⟩ := hloc
        have hpj : p[j] = (pn[j] : Int) := by
          have hpn := HPN.out
          subst hpn
          simp
        rw [hpj] at hc
        have g0 : ba < wr.heap.size := by have := fr.size; omega
        generalize pn[j] = i at *
        have HST := hide hstep
        have HFR := hide fr
        have hge : ¬ ls.length ≤ i := by omega
        clear hfive hfz hlt7 hspr hl1 hstep hpj fr
        go_wp2_with fail
        go_roundw
        case rel => exact ⟨j + 1, _, _, hjl, by go_num, rfl, HST.out, HFR.out⟩
        case measure => simp [intOf]; omega
      · obtain rfl : j = p.length := by omega
        rw [List.take_of_length_le (by rw [HPL.out]; exact Nat.le_refl _)] at hloc
        have Wr := HW7.out.no fr
        obtain ⟨x0, x1, x2, x3, x4, -⟩ := Blk.cells5 Wr.bx
        have q1 := Wr.bx.lt
        have HWR := hide Wr
        have HFR := hide fr
        have HLOC := hide hloc
        have hsr := fr.size
        clear hfive hfz hlt7 hspr Wr fr hloc
        go_wp2_with fail
        refine (HO2.out wr HWR.out.ix (by omega)).mono ?_
        rintro e w8 ⟨⟨k2, n2, s2, B2, cb2, l2, r2⟩, rfl, ev2, sh2, f8⟩
        rw [T.val_mk]
        have hs8 := f8.size
        have F8 := HFR.out.trans f8
        have b8 := HB7.out.fr F8 fun h => h
        have sp8 := (HSH.out.no F8).sp
        have hfive : Five w8 w6.heap.size 0 (T.mk k1 n1 s1 B1 cb1 l1 r1) := fun c u hu => by
          rw [Nat.zero_add, b8.cell, List.getElem?_toArray]; exact hu
        obtain ⟨hs1', h51, -, hfz1, hbl1⟩ := loc_five pn _ _ _ _ sp8 hfive b8.frozen HA1.out
        have hd2 : ∀ i ∈ (T.mk k2 n2 s2 B2 cb2 l2 r2).blocks, wr.heap.size ≤ i ∧ i < w8.heap.size := fun i hi => T.In.blocks _ sh2.inn i hi
        have hd1 : ∀ i ∈ (T.mk k1 n1 s1 B1 cb1 l1 r1).blocks, w5.heap.size ≤ i ∧ i < w6.heap.size := fun i hi => T.In.blocks _ HSH.out.inn i hi
        have hbq : (loc pn (w6.heap.size, 0) (T.mk k1 n1 s1 B1 cb1 l1 r1)).1.1 = w6.heap.size ∨ (loc pn (w6.heap.size, 0) (T.mk k1 n1 s1 B1 cb1 l1 r1)).1.1 ∈ (T.mk k1 n1 s1 B1 cb1 l1 r1).blocks := by
          have hpz := put_store (kx := 0) (nx := 0) (sx := ⟨#[]⟩) (Ax := none) (cx := 0) (lx := []) (rx := 0) (lo2 := w5.heap.size) (hi2 := w8.heap.size) pn _ w6.heap.size 0 sp8 HSH.out.nodup HBN.out ⟨_, HA1.out⟩ (T.sh_leaf ⟨by decide, by decide, by decide, by decide, by decide, by decide, by decide, by decide, by decide⟩).sp (by rw [T.blocks_mk]; simp) (by rw [T.blocks_mk]; simp) (Nat.le_refl _) (by have := f8.size; omega)
          by_cases hp0 : pn = []
          · left; rw [hpz.2.2.2.1 hp0]
          · exact .inr (hpz.2.2.2.2 hp0).1
        have hblw : (loc pn (w6.heap.size, 0) (T.mk k1 n1 s1 B1 cb1 l1 r1)).1.1 ≤ w6.heap.size := by
          rcases hbq with h | h
          · omega
          · have := hd1 _ h; omega
        have hx2 : (T.mk k2 n2 s2 B2 cb2 l2 r2).Sp (five w8 (loc pn (w6.heap.size, 0) (T.mk k1 n1 s1 B1 cb1 l1 r1)).1.1 (loc pn (w6.heap.size, 0) (T.mk k1 n1 s1 B1 cb1 l1 r1)).1.2 k2 n2 s2 B2 l2.length cb2 r2) wr.heap.size w8.heap.size :=
          T.Sp.fr (five_fr w8 _ _ k2 n2 s2 B2 l2.length cb2 r2) _ (fun i hi h => by have h' : i = _ := h; have := hd2 i hi; omega) sh2.sp
        have hput := put_store pn _ w6.heap.size 0 sp8 HSH.out.nodup HBN.out ⟨_, HA1.out⟩ hx2 sh2.nodup (fun i hi h => by have := hd2 i hi; have := hd1 i h; omega) (by omega) (by omega)
        have hbox := put_box (kx := k2) (nx := n2) (sx := s2) (Ax := B2) (cx := cb2) (lx := l2) (rx := r2) b8 pn hput.2.2.2.1 hput.2.2.2.2 HBN.out
        have hpv := T.put_v pn (T.mk k2 n2 s2 B2 cb2 l2 r2) (T.mk k1 n1 s1 B1 cb1 l1 r1)
        rw [← HPN.out, ev2, HEV.out] at hpv
        have F9 := five_fr w8 (loc pn (w6.heap.size, 0) (T.mk k1 n1 s1 B1 cb1 l1 r1)).1.1 (loc pn (w6.heap.size, 0) (T.mk k1 n1 s1 B1 cb1 l1 r1)).1.2 k2 n2 s2 B2 l2.length cb2 r2
        rw [HLOC.out] at hput hbox F9 h51 hfz1 hblw hx2 hbl1
        have hb8 : b < w8.heap.size := by have := f8.size; have : b ≤ w6.heap.size := hblw; omega
        generalize hsub : (loc pn (w6.heap.size, 0) (T.mk k1 n1 s1 B1 cb1 l1 r1)).2 = sub at *
        obtain ⟨k3, n3, s3, B3, cb3, l3, r3⟩ := sub
        have e0 : w8.cell? ⟨b, o, none⟩ = some (.int .u8 k3) := h51 0 _ rfl
        have e1 : w8.cell? ⟨b, o + 1, none⟩ = some (.int .i64 n3) := h51 1 _ rfl
        have e2 : w8.cell? ⟨b, o + 2, none⟩ = some (.string s3) := h51 2 _ rfl
        have e3 : w8.cell? ⟨b, o + 3, none⟩ = some (.slice B3 l3.length cb3) := h51 3 _ rfl
        have e4 : w8.cell? ⟨b, o + 4, none⟩ = some (.int .i64 r3) := h51 4 _ rfl
        have ef : ∀ i, w8.frozen? ⟨b, i, none⟩ = false := hfz1
        obtain ⟨sp9, nd9, in9, -, -⟩ := hput
        have f08 : Fr No w w8 := HW7.out.f.trans F8
        have hw58 : w5.heap.size ≤ w8.heap.size := by omega
        have fw9 : Fr No w (five w8 b o k2 n2 s2 B2 l2.length cb2 r2) := f08.trans' F9 fun i hi h => by
          have h' : i = b := h
          rcases hbq with h2 | h2
          · rw [HLOC.out] at h2
            have h2' : b = w6.heap.size := h2
            omega
          · rw [HLOC.out] at h2
            have := hd1 b h2
            omega
        have bz9 : Blk (five w8 b o k2 n2 s2 B2 l2.length cb2 r2) (w.heap.size + 2) 27 #[.int .u8 0, .int .i64 0, .string ⟨#[]⟩, .slice none 0 0, .int .i64 0] := ((HWR.out.bz.fr f8 fun h => h)).fr F9 fun h => by
          have h' : w.heap.size + 2 = b := h
          have hz := HW5.out.bz.lt
          rcases hbq with h2 | h2
          · rw [HLOC.out] at h2
            have h2' : b = w6.heap.size := h2
            omega
          · rw [HLOC.out] at h2
            have := hd1 b h2
            omega
        have hlow5 : w.heap.size + 2 < w5.heap.size := HW5.out.bz.lt
        have HPV := hide hpv
        have HSP9 := hide sp9
        have HND9 := hide nd9
        have HBOX := hide hbox
        have HFW9 := hide fw9
        have HBZ9 := hide bz9
        have HS9 := hide (show (five w8 b o k2 n2 s2 B2 l2.length cb2 r2).heap.size = w8.heap.size by simp [five])
        clear hpv sp9 nd9 hbox fw9 bz9 in9 f08 F9 hd1 hd2 hbq hblw hx2 h51 hfz1 hbl1 hs1' b8 sp8 hfive F8 sh2 ev2 f8 hsub HLOC HWR HFR x0 x1 x2 x3 x4 q1
        go_upto_region 14 with (fail)
        have hW9 : (((((w8.setCell ⟨b, o, none⟩ (.int .u8 k2)).setCell ⟨b, o + 1, none⟩ (.int .i64 n2)).setCell ⟨b, o + 2, none⟩ (.string s2)).setCell ⟨b, o + 3, none⟩ (.slice B2 l2.length cb2)).setCell ⟨b, o + 4, none⟩ (.int .i64 r2)) = five w8 b o k2 n2 s2 B2 l2.length cb2 r2 := rfl
        rw [hW9]
        have hsp9 := HSP9.out
        have hbx9 := HBOX.out
        change T.Sp (five w8 b o k2 n2 s2 B2 l2.length cb2 r2) _ _ _ at hsp9
        change Blk (five w8 b o k2 n2 s2 B2 l2.length cb2 r2) _ _ _ at hbx9
        have hbz9 := HBZ9.out
        have hfw9 := HFW9.out
        have hs9 := HS9.out
        have hnd9 := HND9.out
        have hpv9 := HPV.out
        clear hW9 HSP9 HBOX HBZ9 HFW9 HS9 HND9 HPV e0 e1 e2 e3 e4 ef
        generalize five w8 b o k2 n2 s2 B2 l2.length cb2 r2 = w9 at *
        generalize T.put pn (T.mk k2 n2 s2 B2 cb2 l2 r2) (T.mk k1 n1 s1 B1 cb1 l1 r1) = tput at *
        obtain ⟨k3, n3, s3, B3, cb3, l3, r3⟩ := tput
        obtain ⟨y0, y1, y2, y3, y4, -⟩ := Blk.cells5 hbx9
        have qy := hbx9.lt
        have hM3 := may_any (T.mk k3 n3 s3 B3 cb3 l3 r3) w9 _ _ (T.Sp.inn _ hsp9) (by omega)
        rw [T.val_mk, hpv9] at hM3
        have HM3 := hide hM3
        have HBX := hide hbx9
        have HBZ := hide hbz9
        have HSH9 := hide (show T.Sh w9 w5.heap.size w8.heap.size (T.mk k3 n3 s3 B3 cb3 l3 r3) from ⟨hsp9, hnd9⟩)
        have HFW := hide hfw9
        have HPV := hide hpv9
        have HS9 := hide hs9
        clear hM3 hbx9 hbz9 hsp9 hnd9 hfw9 hpv9 hs9
        go_wp2_with fail
        refine HM3.out.mono ?_
        rintro e wa ⟨rfl, fa⟩
        have BXa := HBX.out.fr fa fun h => h
        have BZa := HBZ.out.fr fa fun h => h
        obtain ⟨y0, y1, y2, y3, y4, -⟩ := Blk.cells5 BXa
        obtain ⟨d0, d1, d2, d3, d4, df⟩ := BZa.cells5
        have qy := BXa.lt
        have q2 := BZa.lt
        have HFA := hide (HFW.out.trans fa)
        have HSA := hide (HSH9.out.no fa)
        have hsa := fa.size
        have hsa9 := HS9.out
        clear BXa BZa fa HBX HBZ HSH9 HFW HM3
        have hsome : (vAt p v).isSome = true := by rw [HAT.out]; rfl
        cases hm : (V.put p u v).may with
        | false =>
          have HE := hide (show withOf v u p = (V.zero, 4) by simp only [withOf]; rw [if_pos ⟨HMV.out, HMU.out⟩, if_pos hsome, hm]; rfl)
          clear hm hsome
          go_wp2
          refine bodyPost_ret (v := .tuple #[.agg #[.int .u8 0, .int .i64 0, .string ⟨#[]⟩, .slice none 0 0, .int .i64 0], .int .i64 4]) (by simp [results, Try.results70, go_sem, *]) rfl ?_
          refine HBAD.out _ _ 4 HFA.out HE.out ?_
          repeat (first | with_reducible exact Fr.refl _ _ | with_reducible refine Fr.set ?_ (by simp) _)
        | true =>
          have HE := hide (show withOf v u p = (V.put p u v, 0) by simp only [withOf]; rw [if_pos ⟨HMV.out, HMU.out⟩, if_pos hsome, hm]; rfl)
          clear hm hsome
          go_wp2
          refine bodyPost_ret (v := .tuple #[.agg #[.int .u8 k3, .int .i64 n3, .string s3, .slice B3 l3.length cb3, .int .i64 r3], .int .i64 0]) (by simp [results, Try.results70, go_sem, *]) rfl ?_
          rw [HE.out]
          have hF2 := HFA.out
          refine ⟨T.mk k3 n3 s3 B3 cb3 l3 r3, rfl, HPV.out, ?_, ?_⟩
          · refine (T.Sh.fr' (S := (· = w.heap.size + 2)) HSA.out ?_ (fun i h0 h1 h2 => by have h' : i = w.heap.size + 2 := h2; omega)).more (by omega) (by simp; omega)
            repeat (first | with_reducible exact Fr.refl _ wa | with_reducible refine Fr.set ?_ (by simp) _)
          · repeat (first | with_reducible exact hF2 | with_reducible refine Fr.setNew ?_ (by simp; try omega) _)

end Go.Proofs.Ytihjmipmjogpoaa

/- Chapter 2: value.rename: its walk. -/
namespace Go.Proofs.Ytihjmipmjogpoaa
open Go.RowKit Go.Maps Go.ChangeMaps

theorem wf64 {r : Int} (h0 : -9223372036854775808 ≤ r) (h1 : r ≤ 9223372036854775807) : (Lit.int .i64 r).wf = true := by
  simp only [Lit.wf, Bool.and_eq_true, decide_eq_true_eq]
  exact ⟨h0, h1⟩
theorem zero25 (w : World) : (zeroValue 25).run Try.prog w = .ok (.int .i64 0) w := by kernel_rfl
theorem keyed25 : Keyed Try.prog 25 := int_keyed Try.underlying25

/-- Where rename's loop stands. -/
structure RnInv (f : Int → Option Int) (w : World) (lo hi : Nat) (k n : Int) (s : ByteArray) (A : Option Addr) (cap : Nat) (l : List T) (r : Int) (j : Nat) (wr : World) : Prop where
  fr : Fr (fun i => i ∈ (T.mk k n s A cap l r).blocks) w wr
  own : wr.ownsRow lo 27 5 (.slice A l.length cap) l.length (rowCells (renRow f l j))
  sp : ∀ i (h : i < l.length), (j ≤ i → l[i].Sp wr lo hi) ∧ (i < j → (l[i].ren f).Sp wr lo hi)

theorem rn_push {f : Int → Option Int} {w wr w2 : World} {lo hi : Nat} {k n : Int} {s : ByteArray} {g cap : Nat} {l : List T} {r : Int} {j : Nat} {e : Ending} (inv : RnInv f w lo hi k n s (some ⟨g, 0, none⟩) cap l r j wr) (hnd : (T.mk k n s (some ⟨g, 0, none⟩) cap l r).blocks.Nodup) (hj : j < l.length)
    (hlo : ∀ x ∈ l, x.In w lo hi) (hq : RenP f l[j] g (j * 5) lo hi wr e w2) (hn : l[j].v.named f = true) : RnInv f w lo hi k n s (some ⟨g, 0, none⟩) cap l r (j + 1) w2 := by
  have hmem := List.getElem_mem hj
  have hg := sp_child_ne hnd hmem
  have hgm : g ∈ (T.mk k n s (some ⟨g, 0, none⟩) cap l r).blocks := T.mem_blocks (by rintro rfl; simp at hj)
  refine ⟨inv.fr.trans' hq.fr fun i _ h => ?_, ?_, fun i hi => ⟨fun hij => ?_, fun hij => ?_⟩⟩
  · rcases h with h | h
    · rw [h]; exact hgm
    · exact T.sub_blocks hmem h
  · have hat := renRow_at (f := f) hj
    rw [← renRow_set hj]
    cases hx : l[j] with
    | mk k1 n1 s1 A1 c1 l1 r1 =>
      rw [hx] at hat hn hq hg
      obtain ⟨h4, h5⟩ := hq.one k1 n1 s1 A1 c1 l1 r1 rfl hn
      by_cases hk : k1 = 4
      · rw [h4 hk]
        have := (inv.own.stored (j * 5 + 4) (.int .i64 ((f r1).getD 0))).1
        rw [row_set_ref hat ((T.mk k1 n1 s1 A1 c1 l1 r1).ren f) _ (by rw [T.ren_cells, if_pos hk])] at this
        exact this
      · rw [row_set_same hat (by rw [T.ren_cells, if_neg hk]; rfl)]
        exact owns_fr inv.own (h5 hk) fun g' hg' h => by simp [Value.ownBlock] at hg'; subst hg'; exact hg h
  · refine T.Sp.fr hq.fr _ (fun b hb h => ?_) ((inv.sp i hi).1 (by omega))
    rcases h with h | h
    · subst h; exact sp_child_ne hnd (List.getElem_mem hi) hb
    · exact sp_child_far hnd hj hi (by omega) hb h
  · by_cases hij' : i = j
    · subst hij'; exact hq.sp hn
    · refine T.Sp.fr hq.fr _ (fun b hb h => ?_) ((inv.sp i hi).2 (by omega))
      rw [T.ren_blocks] at hb
      rcases h with h | h
      · subst h; exact sp_child_ne hnd (List.getElem_mem hi) hb
      · exact sp_child_far hnd hi hj (by omega) h hb

set_option maxRecDepth 100000 in
set_option maxHeartbeats 8000000 in
theorem rename_any (f : Int → Option Int) (m : Nat) (x : T) : ∀ (b o lo hi : Nat) (w : World), (∀ j u, x.cells[j]? = some u → w.cell? ⟨b, o + j, none⟩ = some u) → (∀ i, w.frozen? ⟨b, i, none⟩ = false) → b < w.heap.size → x.Sp w lo hi → x.blocks.Nodup → b ∉ x.blocks → hi ≤ w.heap.size → Names w m f → m ≠ b → m ∉ x.blocks →
    Calls Try.prog 129 #[.pointer (some ⟨b, o, none⟩), .map (some m)] w (RenP f x b o lo hi w) := by
  induction x using T.ind with
  | h k n s A cap l r ih =>
    intro b o lo hi w hc hfz hb hsp hnd hbx hh hnm hmb hmx
    have fit := (T.sp_mk.1 hsp).1
    have hlen := fit.len1
    have c0 : w.cell? ⟨b, o, none⟩ = some (.int .u8 k) := hc 0 _ rfl
    have c3 : w.cell? ⟨b, o + 3, none⟩ = some (.slice A l.length cap) := hc 3 _ rfl
    have c4 : w.cell? ⟨b, o + 4, none⟩ = some (.int .i64 r) := hc 4 _ rfl
    have f4 := hfz (o + 4)
    by_cases hk : k = 4
    · subst hk
      have hr0 := fit.r0
      have hr1 := fit.r1
      have hnamed : (T.mk 4 n s A cap l r).v.named f = (f r).isSome := by rw [T.v_mk, V.named_mk, if_pos rfl]
      have hsp' : ((T.mk 4 n s A cap l r).ren f) = T.mk 4 n s A cap l ((f r).getD 0) := by rw [T.ren_mk, if_pos rfl]
      obtain ⟨nn, D, hown, hlook⟩ := hnm
      obtain ⟨hl1, hl2⟩ := hlook r hr0 hr1
      have hkey : keyOf Try.prog 25 (.int .i64 r) = some (.int .i64 r) := keyOf_int_mk Try.underlying25 (wf64 hr0 hr1)
      have hP : ∀ c : Int, D.atKey (.int .i64 r) (.lit (.int .i64 0)) = .lit (.int .i64 c) → (Lit.int .i64 c).wf = true → c = (f r).getD 0 ∧ RenP f (T.mk 4 n s A cap l r) b o lo hi w (.returned (.bool (Maps.has D (.int .i64 r)))) (w.setCell ⟨b, o + 4, none⟩ (.int .i64 c)) := by
        intro c h1 h2
        rw [hl2] at h1
        simp only [DataW.lit.injEq, Lit.int.injEq, true_and] at h1
        subst h1
        have hF := (Fr.refl (fun i => i = b ∨ i ∈ (T.mk 4 n s A cap l r).blocks) w).set (p := ⟨b, o + 4, none⟩) (fun _ => .inl rfl) (.int .i64 ((f r).getD 0))
        refine ⟨rfl, ?_, hF, fun k' n' s' A' cap' l' r' hx _ => ?_, fun _ => ?_⟩
        · rw [hnamed, hl1]
        · injection hx with e1 e2 e3 e4 e5 e6 e7
          subst e1 e7
          exact ⟨fun _ => rfl, fun h => absurd rfl h⟩
        · rw [hsp']
          have h3 := T.Sp.fr ((Fr.refl (fun i => i = b) w).set (p := ⟨b, o + 4, none⟩) (fun _ => rfl) (.int .i64 ((f r).getD 0))) _ (fun i hi h => by have h' : i = b := h; subst h'; exact hbx hi) hsp
          rw [T.sp_mk] at h3 ⊢
          simp only [Lit.wf, Bool.and_eq_true, decide_eq_true_eq] at h2
          exact ⟨⟨fit.k0, fit.k1, fit.n0, fit.n1, fit.s1, fit.len1, fit.cap1, h2.1, h2.2⟩, h3.2⟩
      have HP := hide hP
      clear hP hlook hl1 hl2 hnamed hsp' ih hc hfz
      go_enter Try.func129, Try.ntmps129
      go_wp2_with (at_lookup; refine wpList_lookup_own_ok_int _ rfl _ _ 167 rfl 25 25 .i64 keyed25 Try.underlying167 Try.underlying25 (zero25 _) m nn D rfl hown _ _ rfl hkey ?_; intro c hat hwf; have HQ := hide (HP.out c hat hwf); clear hat hwf)
      go_ret
      exact HQ.out.2
    · have hk4 : (k == 4) = false := by simpa using hk
      have hnamed : (T.mk k n s A cap l r).v.named f = (l.map T.v).all (V.named f) := by rw [T.v_mk, V.named_mk, if_neg hk]
      have hren : ((T.mk k n s A cap l r).ren f) = T.mk k n s A cap (l.map (T.ren f)) r := by rw [T.ren_mk, if_neg hk]
      have hin := T.Sp.inn _ hsp
      have hlo : ∀ x ∈ l, x.In w lo hi := (T.in_mk.1 hin).2.2
      have hspm := T.sp_mk.1 hsp
      have hAg : l ≠ [] → ∃ g, A = some ⟨g, 0, none⟩ ∧ g < hi := fun hl => (hspm.2.2.1 hl).2
      have hbl : ∀ i ∈ (T.mk k n s A cap l r).blocks, i < w.heap.size := fun i hi => by have := T.In.blocks _ hin i hi; omega
      have hinv0 : RnInv f w lo hi k n s A cap l r 0 w := by
        refine ⟨Fr.refl _ w, ?_, fun i h => ⟨fun _ => hspm.2.2.2 _ (List.getElem_mem h), fun h => by omega⟩⟩
        rw [renRow_zero]
        by_cases hl : l = []
        · obtain ⟨h1, h2⟩ := hspm.2.1 hl
          subst hl h1 h2
          exact World.ownsRow_nil _ _ _ _
        · exact (hspm.2.2.1 hl).1
      have HNM := hide hnm
      have HFZ := hide hfz
      have HBX := hide hbx
      have HMX := hide hmx
      have HREN := hide hren
      have HND := hide hnd
      have HNA := hide hnamed
      have HSM := hide hspm
      clear hc hfz hren hnamed hsp hspm hnm
      go_enter Try.func129, Try.ntmps129
      go_wp2_with fail
      go_loopw [7, 32] (fun _ i wr => ∃ j : Nat, j ≤ l.length ∧ i = .int .i64 j ∧ RnInv f w lo hi k n s A cap l r j wr ∧ ∀ v ∈ (l.map T.v).take j, v.named f = true) (fun _ i _ => l.length - (intOf i).toNat)
      case atStart => exact ⟨0, Nat.zero_le _, rfl, hinv0, by simp⟩
      case round =>
        obtain ⟨j, hj, rfl, inv, hall⟩ := hrel
        have hsz := inv.fr.size
        have c0' := (inv.fr.cell (b := b) (o := o) (s := none) hb HBX.out).trans c0
        have c3' := (inv.fr.cell (b := b) (o := o + 3) (s := none) hb HBX.out).trans c3
        have hbr : b < wr.heap.size := by omega
        have HALL := hide hall
        clear hall
        by_cases hlt : j < l.length
        · obtain ⟨g, rfl, hg⟩ := hAg (by rintro rfl; simp at hlt)
          have hmem := List.getElem_mem hlt
          have hj' : j < (l.map T.v).length := by simpa using hlt
          have htk : (l.map T.v).take (j + 1) = (l.map T.v).take j ++ [l[j].v] := by rw [List.take_succ_eq_append_getElem hj', List.getElem_map]
          have hgb : g ∈ (T.mk k n s (some ⟨g, 0, none⟩) cap l r).blocks := T.mem_blocks (by rintro rfl; simp at hlt)
          have hcl : ∀ c u, l[j].cells[c]? = some u → wr.cell? ⟨g, j * 5 + c, none⟩ = some u := fun c u hu => by
            have := World.ownsRow.cells inv.own (g := g) rfl _ _ (rowCells_get _ j c _ u (renRow_at hlt) hu)
            rwa [add_at, Nat.zero_add] at this
          have hcase := ih l[j] hmem g (j * 5) lo hi wr hcl (fun i => inv.own.frozenAt i) (owns_lt inv.own g rfl).2 ((inv.sp j hlt).1 (Nat.le_refl _)) (sp_child_nodup HND.out hmem) (sp_child_ne HND.out hmem) (by omega)
            (HNM.out.fr inv.fr HMX.out) (fun h => by subst h; exact HMX.out hgb) (fun h => HMX.out (T.sub_blocks hmem h))
          have HC := hide hcase
          have hpush := fun e w2 hq hn => rn_push (e := e) (w2 := w2) inv HND.out hlt hlo hq hn
          have hno : l[j].v.named f = false → ∀ e w2, RenP f l[j] g (j * 5) lo hi wr e w2 → RenP f (T.mk k n s (some ⟨g, 0, none⟩) cap l r) b o lo hi w (.returned (.bool false)) w2 := fun hn e w2 hq => by
            have hnn : (T.mk k n s (some ⟨g, 0, none⟩) cap l r).v.named f = false := by
              rw [HNA.out, Bool.eq_false_iff]
              intro h
              have := List.all_eq_true.1 h _ (List.mem_map_of_mem hmem)
              rw [hn] at this
              cases this
            have hF : Fr (fun i => i = b ∨ i ∈ (T.mk k n s (some ⟨g, 0, none⟩) cap l r).blocks) w w2 := (inv.fr.mono fun i _ h => Or.inr h).trans' hq.fr fun i _ h => by
              rcases h with h | h
              · rw [h]; exact Or.inr hgb
              · exact Or.inr (T.sub_blocks hmem h)
            exact ⟨by rw [hnn], hF, fun _ _ _ _ _ _ _ _ h => absurd (hnn.symm.trans h) (by decide), fun h => absurd (hnn.symm.trans h) (by decide)⟩
          have HPU := hide hpush
          have HNO := hide hno
          have HTK := hide htk
          generalize hxx : l[j] = x at *
          clear hpush hno htk hcase hcl ih inv hinv0 hmem hxx
          go_wp2_with fail
          refine HC.out.mono ?_
          rintro e w2 hq
          have he := hq.e
          subst he
          have HQ := hide hq
          clear hq
          cases hn : x.v.named f with
          | false =>
            have HP := hide (HNO.out hn _ _ HQ.out)
            clear hn
            go_wp2
            go_ret
            exact HP.out
          | true =>
            have HP := hide (HPU.out _ _ HQ.out hn)
            have HN := hide hn
            clear hn
            go_wp2
            go_roundw
            case rel =>
              refine ⟨j + 1, hlt, by go_num, HP.out, fun v hv => ?_⟩
              rw [HTK.out] at hv
              rcases List.mem_append.1 hv with hv | hv
              · exact HALL.out v hv
              · simp at hv; subst hv; exact HN.out
            case measure => simp [intOf]; omega
        · obtain rfl : l.length = j := by omega
          have hnn : (T.mk k n s A cap l r).v.named f = true := by
            rw [HNA.out]
            exact List.all_eq_true.2 fun v hv => HALL.out v (by rw [List.take_of_length_le (by simp)]; exact hv)
          have hP : RenP f (T.mk k n s A cap l r) b o lo hi w (.returned (.bool true)) wr := by
            refine ⟨by rw [hnn], inv.fr.mono fun i _ h => .inr h, fun k' n' s' A' cap' l' r' hx _ => ?_, fun _ => ?_⟩
            · injection hx with e1
              subst e1
              exact ⟨fun h => absurd h hk, fun _ => inv.fr⟩
            · rw [HREN.out, T.sp_mk]
              have hown := inv.own
              rw [renRow_all] at hown
              refine ⟨by simpa using HSM.out.1, fun h => HSM.out.2.1 (by simpa using h), fun h => ⟨by simpa using hown, (HSM.out.2.2.1 (by simpa using h)).2⟩, fun y hy => ?_⟩
              obtain ⟨z, hz, rfl⟩ := List.mem_map.1 hy
              obtain ⟨i, hi', rfl⟩ := List.mem_iff_getElem.1 hz
              exact (inv.sp i hi').2 hi'
          have HP := hide hP
          clear hP inv ih hinv0 hAg hlo hin hbl
          go_wp2
          go_ret
          exact HP.out

end Go.Proofs.Ytihjmipmjogpoaa

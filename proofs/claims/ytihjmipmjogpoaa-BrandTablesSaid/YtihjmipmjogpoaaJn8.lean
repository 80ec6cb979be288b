/- Texts joined: P1, P2, W1, W2. -/
import Derived.Test.YtihjmipmjogpoaaJn7
import Derived.Deep.RegionLaw
import Derived.IntWalk
import Derived.WalkLawsBesides
import Derived.Lib.AppendStr
import Derived.Deep.RegionHeld3
import Derived.Deep.Cut
/- Chapter 2: a value whose lists lie in rows of their own; value.own's are such. -/
namespace Go.Proofs.Ytihjmipmjogpoaa
open Go.RowKit

/-- Each list of a tree lies in a row of its own, alone; where there is none, nothing is kept. -/
def T.Sp (w : World) (lo hi : Nat) : T → Prop
  | .mk k n s A cap l r => Fit k n s l.length cap r ∧ (l = [] → A = none ∧ cap = 0) ∧ (l ≠ [] → w.ownsRow lo 27 5 (.slice A l.length cap) l.length (rowCells l) ∧ ∃ g, A = some ⟨g, 0, none⟩ ∧ g < hi) ∧ ∀ x ∈ l, T.Sp w lo hi x
termination_by t => t

theorem T.sp_mk {w : World} {lo hi : Nat} {k n : Int} {s : ByteArray} {A : Option Addr} {cap : Nat} {l : List T} {r : Int} :
    (T.mk k n s A cap l r).Sp w lo hi ↔ Fit k n s l.length cap r ∧ (l = [] → A = none ∧ cap = 0) ∧ (l ≠ [] → w.ownsRow lo 27 5 (.slice A l.length cap) l.length (rowCells l) ∧ ∃ g, A = some ⟨g, 0, none⟩ ∧ g < hi) ∧ ∀ x ∈ l, x.Sp w lo hi := by
  rw [T.Sp]

theorem owns_mono {w : World} {base base' : Nat} {e : TypeId} {size : Nat} {v : Value} {n : Nat} {xs : List Value} (h : w.ownsRow base e size v n xs) (hb : base' ≤ base) : w.ownsRow base' e size v n xs := by
  refine ⟨h.1, ?_⟩
  rcases h.2 with h | ⟨g, cap, cur, h1, h2, h3⟩
  · exact .inl h
  · exact .inr ⟨g, cap, cur, h1, by omega, h3⟩

theorem T.Sp.inn {w : World} {lo hi : Nat} (t : T) : t.Sp w lo hi → t.In w lo hi := by
  induction t using T.ind with
  | h k n s A cap l r ih =>
    rw [T.sp_mk, T.in_mk]
    rintro ⟨h1, _, h3, h4⟩
    refine ⟨h1, fun hl => ?_, fun x hx => ih x hx (h4 x hx)⟩
    obtain ⟨ho, g, rfl, hg⟩ := h3 hl
    have hb := owns_lt ho g rfl
    refine ⟨g, 0, rfl, hb.1, hg, fun i x hx j u hu => ?_⟩
    have := World.ownsRow.cells ho (g := g) rfl _ _ (rowCells_get l i j x u hx hu)
    rw [add_at, ← Nat.add_assoc] at this
    exact this

theorem T.Sp.fr {S : Nat → Prop} {w w' : World} {lo hi : Nat} (hf : Fr S w w') (t : T) : (∀ b ∈ t.blocks, ¬ S b) → t.Sp w lo hi → t.Sp w' lo hi := by
  induction t using T.ind with
  | h k n s A cap l r ih =>
    intro hs
    rw [T.blocks_mk] at hs
    rw [T.sp_mk, T.sp_mk]
    rintro ⟨h1, h2, h3, h4⟩
    refine ⟨h1, h2, fun hl => ?_, fun x hx => ih x hx (fun b hb => hs b (List.mem_append_right _ (List.mem_flatten.2 ⟨_, List.mem_map_of_mem hx, hb⟩))) (h4 x hx)⟩
    obtain ⟨ho, g, rfl, hg⟩ := h3 hl
    refine ⟨owns_fr ho hf (fun g' hg' => ?_), g, rfl, hg⟩
    simp [Value.ownBlock] at hg'
    subst hg'
    refine hs g (List.mem_append_left _ ?_)
    cases l with
    | nil => exact absurd rfl hl
    | cons x l => simp

theorem T.Sp.more {w : World} {lo hi lo' hi' : Nat} (hl : lo' ≤ lo) (hh : hi ≤ hi') (t : T) : t.Sp w lo hi → t.Sp w lo' hi' := by
  induction t using T.ind with
  | h k n s A cap l r ih =>
    rw [T.sp_mk, T.sp_mk]
    rintro ⟨h1, h2, h3, h4⟩
    refine ⟨h1, h2, fun hl' => ?_, fun x hx => ih x hx (h4 x hx)⟩
    obtain ⟨ho, g, hA, hg⟩ := h3 hl'
    exact ⟨owns_mono ho hl, g, hA, by omega⟩

/-- .. and no two of them lie in one. -/
structure T.Sh (w : World) (lo hi : Nat) (t : T) : Prop where
  sp : t.Sp w lo hi
  nodup : t.blocks.Nodup

theorem T.Sh.inn {w : World} {lo hi : Nat} {t : T} (h : t.Sh w lo hi) : t.In w lo hi := T.Sp.inn t h.sp
theorem T.Sh.fr {S : Nat → Prop} {w w' : World} {lo hi : Nat} {t : T} (h : t.Sh w lo hi) (hf : Fr S w w') (hs : ∀ b ∈ t.blocks, ¬ S b) : t.Sh w' lo hi := ⟨T.Sp.fr hf t hs h.sp, h.nodup⟩
theorem T.Sh.fr' {S : Nat → Prop} {w w' : World} {lo hi : Nat} {t : T} (h : t.Sh w lo hi) (hf : Fr S w w') (hs : ∀ i, lo ≤ i → i < hi → ¬ S i) : t.Sh w' lo hi :=
  h.fr hf fun b hb => hs b (T.In.blocks t h.inn b hb).1 (T.In.blocks t h.inn b hb).2
theorem T.Sh.no {w w' : World} {lo hi : Nat} {t : T} (h : t.Sh w lo hi) (hf : Fr No w w') : t.Sh w' lo hi := h.fr hf fun _ _ h => h
theorem T.Sh.more {w : World} {lo hi lo' hi' : Nat} {t : T} (h : t.Sh w lo hi) (hl : lo' ≤ lo) (hh : hi ≤ hi') : t.Sh w lo' hi' := ⟨T.Sp.more hl hh t h.sp, h.nodup⟩

theorem T.sh_leaf {w : World} {lo hi : Nat} {k n : Int} {s : ByteArray} {r : Int} (h : Fit k n s 0 0 r) : (T.mk k n s none 0 [] r).Sh w lo hi :=
  ⟨T.sp_mk.2 ⟨h, fun _ => ⟨rfl, rfl⟩, fun h => absurd rfl h, by simp⟩, by rw [T.blocks_mk]; simp⟩

theorem row_list {cs : Array Value} {l : List T} (hs : cs.size = l.length * 5) (hr : RowIs cs 0 l) : cs.toList = rowCells l := by
  refine List.ext_getElem (by rw [Array.length_toList, rowCells_length, hs]) fun i h1 h2 => ?_
  rw [Array.length_toList] at h1
  have hi : i / 5 < l.length := by omega
  have hx : l[i / 5]? = some l[i / 5] := List.getElem?_eq_getElem hi
  have hc : i % 5 < l[i / 5].cells.length := by rw [T.cells_length]; omega
  have hu : l[i / 5].cells[i % 5]? = some l[i / 5].cells[i % 5] := List.getElem?_eq_getElem hc
  have e1 := hr (i / 5) _ hx (i % 5) _ hu
  have e2 := rowCells_get l (i / 5) (i % 5) _ _ hx hu
  have e3 : i / 5 * 5 + i % 5 = i := by omega
  rw [Nat.zero_add, e3] at e1
  rw [e3] at e2
  rw [List.getElem?_eq_getElem h2] at e2
  rw [Array.getElem?_eq_getElem h1] at e1
  rw [Array.getElem_toList]
  exact (Option.some.inj e1).trans (Option.some.inj e2).symm

/-- A row of so many values in a block known whole is its own. -/
theorem owns_blk {w : World} {g lo : Nat} {cs : Array Value} {l : List T} (h : Blk w g 27 cs) (hs : cs.size = l.length * 5) (hr : RowIs cs 0 l) (h0 : lo ≤ g) (hm : l.length ≤ maxLen) : w.ownsRow lo 27 5 (.slice (some ⟨g, 0, none⟩) l.length l.length) l.length (rowCells l) :=
  ⟨rowCells_length l, .inr ⟨g, l.length, cs, rfl, h0, h, Nat.le_refl _, hm, hs, by rw [row_list hs hr, List.take_of_length_le (by rw [rowCells_length]; omega)]⟩⟩

/-- A value of the same data in memory of its own. -/
def OwnP2 (v : V) (w : World) (e : Ending) (w' : World) : Prop :=
  ∃ t' : T, e = .returned t'.val ∧ t'.v = v ∧ t'.Sh w' w.heap.size w'.heap.size ∧ Fr No w w'

/-- Rows of one's own are no frozen ones. -/
theorem T.Sp.free {w : World} {lo hi : Nat} (t : T) : t.Sp w lo hi → ∀ b ∈ t.blocks, ∀ o, w.frozen? ⟨b, o, none⟩ = false := by
  induction t using T.ind with
  | h k n s A cap l r ih =>
    rw [T.sp_mk, T.blocks_mk]
    rintro ⟨h1, _, h3, h4⟩ b hb o
    rcases List.mem_append.1 hb with hb | hb
    · cases l with
      | nil => simp at hb
      | cons x l =>
        obtain ⟨ho, g, rfl, hg⟩ := h3 (by simp)
        simp at hb
        subst hb
        rcases ho.2 with ⟨h, _⟩ | ⟨g, cap, cur, h, _, hh, _⟩
        · cases h
        · simp at h
          obtain ⟨rfl, -⟩ := h
          exact Blk.frozen hh o
    · obtain ⟨bs, hbs, hb⟩ := List.mem_flatten.1 hb
      obtain ⟨x, hx, rfl⟩ := List.mem_map.1 hbs
      exact ih x hx (h4 x hx) b hb o

theorem T.Sh.ow {w : World} {lo hi : Nat} {t : T} (h : t.Sh w lo hi) : t.Ow w lo hi := ⟨h.inn, h.nodup, T.Sp.free t h.sp⟩

/-- Where the loop of 'own' stands. -/
structure OwnInv2 (w : World) (X Z : Array Value) (l : List T) (j : Nat) (l' : List T) (wr : World) : Prop where
  len : l'.length = j
  vs : l'.map T.v = (l.take j).map T.v
  fr : Fr No w wr
  b0 : Blk wr w.heap.size 27 X
  b1 : Blk wr (w.heap.size + 1) 27 Z
  row : ∃ cs, Blk wr (w.heap.size + 1 + 1) 27 cs ∧ cs.size = l.length * 5 ∧ RowIs cs 0 l'
  forest : Forest wr (w.heap.size + 3) wr.heap.size l'
  big : w.heap.size + 3 ≤ wr.heap.size
  sp : ∀ x ∈ l', x.Sp wr (w.heap.size + 3) wr.heap.size

set_option maxHeartbeats 4000000 in
theorem own2_any (t : T) : ∀ (w : World) (lo hi : Nat), t.In w lo hi → hi ≤ w.heap.size → Calls Try.prog 104 #[t.val] w (OwnP2 t.v w) := by
  induction t using T.ind with
  | h k n s A cap l r ih =>
    intro w lo hi ht hh
    rw [T.val_mk]
    have fit := (T.in_mk.1 ht).1
    have hlen := fit.len1
    obtain ⟨i0, hi0, hz0, hz1, hz2⟩ := info_parts value_info
    have hmk := fun W => run_make_rowN (P := Try.prog) 24 27 i0 _ Try.underlying24 hi0 hz0 .i64 .i64 l.length l.length (Nat.le_refl _) (by rw [hz2]; omega) (by omega) W
    rw [hz1] at hmk
    clear hi0 hz0 hz1 hz2
    by_cases hl : l.length = 0
    · have hl0 : ((l.length : Int) == 0) = true := by simp [hl]
      obtain rfl : l = [] := List.eq_nil_of_length_eq_zero hl
      clear hmk
      go_enter Try.func104, Try.ntmps104
      go_wp2
      refine bodyPost_ret (v := .agg #[.int .u8 k, .int .i64 n, .string s, .slice none 0 0, .int .i64 r]) (by simp [results, Try.results104, go_sem]) rfl ?_
      refine ⟨T.mk k n s none 0 [] r, rfl, by simp [T.v_mk], T.sh_leaf ⟨fit.k0, fit.k1, fit.n0, fit.n1, fit.s1, by simp, Nat.le_refl _, fit.r0, fit.r1⟩, ?_⟩
      exact ((Fr.refl No w).alloc _).alloc _
    · have hl0 : ((l.length : Int) == 0) = false := by simp; intro h; subst h; simp at hl
      have hl1 : (0 : Int) < (l.length : Int) := by omega
      go_enter Try.func104, Try.ntmps104
      go_wp2_with fail
      go_loopw [19] (fun i wr => ∃ (j : Nat) (l' : List T), j ≤ l.length ∧ i = .int .i64 j ∧
          OwnInv2 w #[.int .u8 k, .int .i64 n, .string s, .slice A l.length cap, .int .i64 r] #[.int .u8 0, .int .i64 0, .string ⟨#[]⟩, .slice none 0 0, .int .i64 0] l j l' wr)
        (fun i _ => l.length - (intOf i).toNat)
      case atStart =>
        refine ⟨0, [], Nat.zero_le _, rfl, rfl, by simp, (((Fr.refl No w).alloc _).alloc _).alloc _, ((Blk.new' w 27 _ rfl).alloc _).alloc _, (Blk.new' (w.alloc _) 27 _ (by simp)).alloc _,
          ⟨_, Blk.new' ((w.alloc _).alloc _) 27 _ (by simp), size_madeCells _ _, RowIs.nil _ _⟩, Forest.nil _ _ _, by simp, by simp⟩
      case round =>
        obtain ⟨j, l', hj, rfl, inv⟩ := hrel
        have fr := inv.fr
        have big := inv.big
        by_cases hlt : j < l.length
        · obtain ⟨b, o, k1, n1, s1, A1, cap1, l1, r1, rfl, hb0, hb1, hx, hin, e0, e1, e2, e3, e4⟩ := T.elem (ht.no fr hh) hlt
          have IH := ih l[j] (List.getElem_mem hlt)
          rw [hx] at IH
          have HX := hide hx
          have hle := Nat.le_of_lt hlt
          have HI := hide inv
          clear hx ih inv hmk
          go_wp2_with fail
          refine (IH _ lo hi (hin.no ((Fr.refl No wr).alloc _) (by omega)) (by simp; omega)).mono ?_
          rintro e w2 ⟨t', rfl, hv, sh, fr2⟩
          have HV := hide hv
          clear hv
          simp only [World.size_alloc] at sh
          have ow := sh.ow
          cases t' with
          | mk k2 n2 s2 A2 cap2 l2 r2 =>
            rw [T.val_mk]
            obtain ⟨cs, hb, hcs, hrow⟩ := HI.out.row
            have blk2 := (hb.alloc (.cells #[.int .u8 k1, .int .i64 n1, .string s1, .slice A1 l1.length cap1, .int .i64 r1] 27)).fr fr2 (fun h => h)
            obtain ⟨y0, x0⟩ : ∃ y, w2.cell? ⟨w.heap.size + 1 + 1, j * 5, none⟩ = some y := ⟨cs[j * 5]'(by omega), by rw [blk2.cell]; exact Array.getElem?_eq_getElem _⟩
            obtain ⟨y1, x1⟩ : ∃ y, w2.cell? ⟨w.heap.size + 1 + 1, j * 5 + 1, none⟩ = some y := ⟨cs[j * 5 + 1]'(by omega), by rw [blk2.cell]; exact Array.getElem?_eq_getElem _⟩
            obtain ⟨y2, x2⟩ : ∃ y, w2.cell? ⟨w.heap.size + 1 + 1, j * 5 + 2, none⟩ = some y := ⟨cs[j * 5 + 2]'(by omega), by rw [blk2.cell]; exact Array.getElem?_eq_getElem _⟩
            obtain ⟨y3, x3⟩ : ∃ y, w2.cell? ⟨w.heap.size + 1 + 1, j * 5 + 3, none⟩ = some y := ⟨cs[j * 5 + 3]'(by omega), by rw [blk2.cell]; exact Array.getElem?_eq_getElem _⟩
            obtain ⟨y4, x4⟩ : ∃ y, w2.cell? ⟨w.heap.size + 1 + 1, j * 5 + 4, none⟩ = some y := ⟨cs[j * 5 + 4]'(by omega), by rw [blk2.cell]; exact Array.getElem?_eq_getElem _⟩
            have xf := blk2.frozen
            have HB := hide blk2
            have HR := hide hrow
            have HC := hide hcs
            have HO := hide ow
            have HSH := hide sh
            clear sh
            clear blk2 hb hrow hcs ow
            go_wp2
            go_roundw
            case rel =>
              have inv := HI.out
              have hcs := HC.out
              have hsz2 := fr2.size
              simp only [World.size_alloc] at hsz2
              have hfar : ∀ {g : Nat} {X : Array Value}, g < w.heap.size + 2 → Blk wr g 27 X → Blk (((((w2.setCell ⟨w.heap.size + 1 + 1, j * 5, none⟩ (.int .u8 k2)).setCell ⟨w.heap.size + 1 + 1, j * 5 + 1, none⟩ (.int .i64 n2)).setCell ⟨w.heap.size + 1 + 1, j * 5 + 2, none⟩ (.string s2)).setCell
                  ⟨w.heap.size + 1 + 1, j * 5 + 3, none⟩ (.slice A2 l2.length cap2)).setCell ⟨w.heap.size + 1 + 1, j * 5 + 4, none⟩ (.int .i64 r2)) g 27 X := fun {g X} hg hX =>
                (((((((hX.alloc _).fr fr2 (fun h => h)).far (by simp; omega) _).far (by simp; omega) _).far (by simp; omega) _).far (by simp; omega) _).far (by simp; omega) _)
              have hst : Fr (· = w.heap.size + 1 + 1) w2 (((((w2.setCell ⟨w.heap.size + 1 + 1, j * 5, none⟩ (.int .u8 k2)).setCell ⟨w.heap.size + 1 + 1, j * 5 + 1, none⟩ (.int .i64 n2)).setCell ⟨w.heap.size + 1 + 1, j * 5 + 2, none⟩ (.string s2)).setCell
                  ⟨w.heap.size + 1 + 1, j * 5 + 3, none⟩ (.slice A2 l2.length cap2)).setCell ⟨w.heap.size + 1 + 1, j * 5 + 4, none⟩ (.int .i64 r2)) := (Fr.refl (fun i => i = w.heap.size + 1 + 1) w2).five (fun _ => rfl) _ _ _ _ _ _
              refine ⟨j + 1, l' ++ [T.mk k2 n2 s2 A2 cap2 l2 r2], hlt, by go_num, by simp [inv.len], ?_, ?_, hfar (by omega) inv.b0, hfar (by omega) inv.b1, ⟨_, HB.out.five _ _ _ _ _ _, ?_, ?_⟩, ?_, ?_, ?_⟩
              · rw [List.map_append, inv.vs, List.take_succ_eq_append_getElem hlt, List.map_append, List.map_singleton, List.map_singleton, HV.out, HX.out]
              · exact (((fr.alloc _).thenNo fr2).five (by omega) _ _ _ _ _ _)
              · simpa using hcs
              · have := HR.out.five (k := k2) (n := n2) (s := s2) (A := A2) (cap := cap2) (l1 := l2) (r := r2) (by rw [inv.len, hcs]; omega)
                simpa [inv.len] using this
              · have h1 : Forest w2 (w.heap.size + 3) (wr.heap.size + 1) l' := ((inv.forest.no ((Fr.refl No wr).alloc _) (Nat.le_refl _)).no fr2 (by simp)).more (Nat.le_refl _) (by omega)
                have h2 := h1.snoc HO.out (by omega) hsz2
                simpa using h2.fr hst (Nat.le_refl _) (fun i hi _ e => by omega)
              · simp; omega
              · intro x hx
                have hbl : ∀ (y : T) (lo hi : Nat), y.In w2 lo hi → w.heap.size + 3 ≤ lo → ∀ b ∈ y.blocks, ¬ b = w.heap.size + 1 + 1 := fun y lo hi hy hl b hb e => by
                  have := T.In.blocks y hy b hb; omega
                rcases List.mem_append.1 hx with hx | hx
                · have h1 := inv.sp x hx
                  have h2 := T.Sp.fr fr2 x (fun _ _ h => h) (T.Sp.fr ((Fr.refl No wr).alloc (.cells #[.int .u8 k1, .int .i64 n1, .string s1, .slice A1 l1.length cap1, .int .i64 r1] 27)) x (fun _ _ h => h) h1)
                  have h3 := T.Sp.fr hst x (hbl x _ _ (T.Sp.inn x h2) (Nat.le_refl _)) h2
                  exact T.Sp.more (Nat.le_refl _) (by simp; omega) x h3
                · simp at hx; subst hx
                  have h3 := T.Sp.fr hst _ (hbl _ _ _ HSH.out.inn (by omega)) HSH.out.sp
                  exact T.Sp.more (by omega) (by simp) _ h3
            case measure => simp [intOf]; omega
        · obtain rfl : l.length = j := by omega
          have c0 : wr.cell? ⟨w.heap.size, 0, none⟩ = some (.int .u8 k) := inv.b0.cell 0
          have c1 : wr.cell? ⟨w.heap.size, 1, none⟩ = some (.int .i64 n) := inv.b0.cell 1
          have c2 : wr.cell? ⟨w.heap.size, 2, none⟩ = some (.string s) := inv.b0.cell 2
          have c3 : wr.cell? ⟨w.heap.size, 3, none⟩ = some (.slice A l.length cap) := inv.b0.cell 3
          have c4 : wr.cell? ⟨w.heap.size, 4, none⟩ = some (.int .i64 r) := inv.b0.cell 4
          have cf := inv.b0.frozen 3
          have d0 : wr.cell? ⟨w.heap.size + 1, 0, none⟩ = some (.int .u8 0) := inv.b1.cell 0
          have d1 : wr.cell? ⟨w.heap.size + 1, 1, none⟩ = some (.int .i64 0) := inv.b1.cell 1
          have d2 : wr.cell? ⟨w.heap.size + 1, 2, none⟩ = some (.string ⟨#[]⟩) := inv.b1.cell 2
          have d3 : wr.cell? ⟨w.heap.size + 1, 3, none⟩ = some (.slice none 0 0) := inv.b1.cell 3
          have d4 : wr.cell? ⟨w.heap.size + 1, 4, none⟩ = some (.int .i64 0) := inv.b1.cell 4
          have df := inv.b1.frozen
          have HI := hide inv
          clear inv hmk ih
          go_wp2
          have inv := HI.out
          refine bodyPost_ret (v := .agg #[.int .u8 k, .int .i64 n, .string s, .slice (some ⟨w.heap.size + 1 + 1, 0, none⟩) l.length l.length, .int .i64 r]) (by simp [results, Try.results104, go_sem, *]) rfl ?_
          generalize hW : World.setCell _ _ _ = W
          have hfr : Fr (fun i => i = w.heap.size ∨ i = w.heap.size + 1) wr W := by
            rw [← hW]
            repeat (first | with_reducible exact Fr.refl _ wr | with_reducible refine Fr.set ?_ (by simp) _)
          obtain ⟨cs, hb, hcs, hrow⟩ := inv.row
          have hl' := inv.len
          have hb' : Blk W (w.heap.size + 1 + 1) 27 cs := hb.fr hfr (by omega)
          have hF : Forest W (w.heap.size + 3) wr.heap.size l' := inv.forest.fr hfr (Nat.le_refl _) (fun i h0 h1 h2 => by omega)
          have hsz := hfr.size
          refine ⟨T.mk k n s (some ⟨w.heap.size + 1 + 1, 0, none⟩) l.length l' r, by rw [T.val_mk, hl'], ?_, ?_, inv.fr.trans' hfr (fun i hi h => by omega)⟩
          · rw [T.v_mk, T.v_mk, inv.vs, List.take_of_length_le (Nat.le_refl _)]
          · have how : (T.mk k n s (some ⟨w.heap.size + 1 + 1, 0, none⟩) l.length l' r).Ow W w.heap.size W.heap.size := by
             refine T.ow_mk ⟨fit.k0, fit.k1, fit.n0, fit.n1, fit.s1, by omega, by omega, fit.r0, fit.r1⟩ (hF.more (by omega) hsz) hb' hrow (by omega) (by omega) (fun hm => ?_)
             have := hF.blocks _ hm
             omega
            refine ⟨T.sp_mk.2 ⟨(T.in_mk.1 how.inn).1, fun h => by subst h; simp at hl'; omega, fun _ => ⟨?_, _, rfl, by omega⟩, fun x hx => ?_⟩, how.nodup⟩
            · have := owns_blk (lo := w.heap.size) hb' (by rw [hcs, hl']) hrow (by omega) (by rw [hl']; unfold maxLen; omega)
              rwa [hl'] at this ⊢
            · have h1 := inv.sp x hx
              have h2 := T.Sp.fr hfr x (fun b hb h => by
                have := T.In.blocks x (T.Sp.inn x h1) b hb
                have h' : b = w.heap.size ∨ b = w.heap.size + 1 := h
                omega) h1
              exact T.Sp.more (by omega) hsz x h2

end Go.Proofs.Ytihjmipmjogpoaa

/- Chapter 2: the law's own lent: a value in lists of its own, each with a mark in its spare room. -/
namespace Go.Proofs.Ytihjmipmjogpoaa
open Go.RowKit

/-- Each list has a mark behind its last part. -/
def T.Mk (w : World) : T → Prop
  | .mk _ _ _ A cap l _ => (l ≠ [] → ∃ b o, A = some ⟨b, o, none⟩ ∧ l.length + 1 ≤ cap ∧ w.cell? ⟨b, o + l.length * 5 + 1, none⟩ = some (.int .i64 77)) ∧ ∀ x ∈ l, T.Mk w x
termination_by t => t

theorem T.mk_mk {w : World} {k n : Int} {s : ByteArray} {A : Option Addr} {cap : Nat} {l : List T} {r : Int} :
    (T.mk k n s A cap l r).Mk w ↔ (l ≠ [] → ∃ b o, A = some ⟨b, o, none⟩ ∧ l.length + 1 ≤ cap ∧ w.cell? ⟨b, o + l.length * 5 + 1, none⟩ = some (.int .i64 77)) ∧ ∀ x ∈ l, x.Mk w := by
  rw [T.Mk]

theorem T.mem_blocks {k n : Int} {s : ByteArray} {b o cap : Nat} {l : List T} {r : Int} (hl : l ≠ []) : b ∈ (T.mk k n s (some ⟨b, o, none⟩) cap l r).blocks := by
  rw [T.blocks_mk]
  cases l with
  | nil => exact absurd rfl hl
  | cons x l => simp

theorem T.sub_blocks {k n : Int} {s : ByteArray} {A : Option Addr} {cap : Nat} {l : List T} {r : Int} {x : T} (hx : x ∈ l) {b : Nat} (hb : b ∈ x.blocks) : b ∈ (T.mk k n s A cap l r).blocks := by
  rw [T.blocks_mk]
  exact List.mem_append_right _ (List.mem_flatten.2 ⟨_, List.mem_map_of_mem hx, hb⟩)

theorem T.Mk.fr {S : Nat → Prop} {w w' : World} {lo hi : Nat} (hf : Fr S w w') (hh : hi ≤ w.heap.size) (t : T) : t.In w lo hi → (∀ b ∈ t.blocks, ¬ S b) → t.Mk w → t.Mk w' := by
  induction t using T.ind with
  | h k n s A cap l r ih =>
    intro hi' hs
    rw [T.mk_mk, T.mk_mk]
    rintro ⟨h1, h2⟩
    refine ⟨fun hl => ?_, fun x hx => ih x hx ((T.in_mk.1 hi').2.2 x hx) (fun b hb => hs b (T.sub_blocks hx hb)) (h2 x hx)⟩
    obtain ⟨b, o, rfl, hc, h3⟩ := h1 hl
    have hb := T.mem_blocks (k := k) (n := n) (s := s) (b := b) (o := o) (cap := cap) (r := r) hl
    exact ⟨b, o, rfl, hc, (hf.cell (by have := T.In.blocks _ hi' b hb; omega) (hs b hb)).trans h3⟩

theorem T.Mk.no {w w' : World} {lo hi : Nat} (hf : Fr No w w') (hh : hi ≤ w.heap.size) {t : T} (hi' : t.In w lo hi) (h : t.Mk w) : t.Mk w' := T.Mk.fr hf hh t hi' (fun _ _ h => h) h

theorem In.fr_blocks {S : Nat → Prop} {w w' : World} {lo hi : Nat} (hf : Fr S w w') (hh : hi ≤ w.heap.size) (t : T) : (∀ b ∈ t.blocks, ¬ S b) → t.In w lo hi → t.In w' lo hi := by
  induction t using T.ind with
  | h k n s A cap l r ih =>
    intro hs
    rw [T.in_mk, T.in_mk]
    rintro ⟨h1, h2, h3⟩
    refine ⟨h1, fun hl => ?_, fun x hx => ih x hx (fun b hb => hs b (T.sub_blocks hx hb)) (h3 x hx)⟩
    obtain ⟨b, o, rfl, hb0, hb1, hc⟩ := h2 hl
    exact ⟨b, o, rfl, hb0, hb1, fun i x hx j u hu => (hf.cell (by omega) (hs b (T.mem_blocks hl))).trans (hc i x hx j u hu)⟩

/-- What lent gives. -/
def LentP (v : V) (w : World) (e : Ending) (w' : World) : Prop :=
  ∃ t' : T, e = .returned t'.val ∧ t'.v = v ∧ t'.In w' w.heap.size w'.heap.size ∧ t'.Mk w' ∧ Fr No w w'

/-- Where its loop stands. -/
structure LentInv (w : World) (X : Array Value) (k n : Int) (s : ByteArray) (r : Int) (l : List T) (j : Nat) (A : Option Addr) (cap : Nat) (l' : List T) (wr : World) : Prop where
  len : l'.length = j
  vs : l'.map T.v = (l.take j).map T.v
  fr : Fr No w wr
  b0 : Blk wr w.heap.size 27 X
  b1 : Blk wr (w.heap.size + 1) 27 #[.int .u8 0, .int .i64 0, .string ⟨#[]⟩, .slice none 0 0, .int .i64 0]
  b2 : Blk wr (w.heap.size + 1 + 1) 27 #[.int .u8 k, .int .i64 n, .string s, .slice A j cap, .int .i64 r]
  own : wr.ownsRow (w.heap.size + 3) 27 5 (.slice A j cap) j (rowCells l')
  inn : ∀ x ∈ l', x.In wr (w.heap.size + 3) wr.heap.size ∧ x.Mk wr
  sep : ∀ x ∈ l', ∀ b ∈ x.blocks, (Value.slice A j cap).ownBlock ≠ some b
  big : w.heap.size + 3 ≤ wr.heap.size

theorem lent_after {W0 w2 : World} {g base j : Nat} {a b c d e : Value} {v : Value} {xs : List Value} {m : Array Value} (hb : Blk W0 g 27 #[a, b, c, d, e]) (ho : W0.ownsRow base 27 5 v j xs) (fr : Fr No W0.drew w2) :
    (w2.alloc (.cells m 27)).ownsRow base 27 5 v j xs ∧ Blk (w2.alloc (.cells m 27)) g 27 #[a, b, c, d, e] ∧ w2.cell? ⟨g, 3, none⟩ = some d ∧ (w2.alloc (.cells m 27)).cell? ⟨g, 3, none⟩ = some d ∧ (w2.alloc (.cells m 27)).frozen? ⟨g, 3, none⟩ = false ∧ W0.heap.size ≤ w2.heap.size ∧ g < w2.heap.size := by
  have h1 : Blk w2 g 27 #[a, b, c, d, e] := Blk.fr (a := W0.drew) hb fr (fun h => h)
  have h2 := h1.alloc (.cells m 27)
  exact ⟨(owns_fr (a := W0.drew) ho fr fun _ _ h => h).alloc _, h2, h1.cell 3, h2.cell 3, h2.frozen 3, fr.size, h1.lt⟩

theorem lent_grown {W w3 : World} {g : Nat} {v d : Value} (hg : W.grownBy w3 v.ownBlock) (hc : W.cell? ⟨g, 3, none⟩ = some d) (hf : W.frozen? ⟨g, 3, none⟩ = false) (hlt : g < W.heap.size) (hne : some g ≠ v.ownBlock) :
    w3.cell? ⟨g, 3, none⟩ = some d ∧ w3.frozen? ⟨g, 3, none⟩ = false :=
  ⟨(hg.cell_far ⟨g, 3, none⟩ hlt hne).trans hc, (hg.frozen_far ⟨g, 3, none⟩ hlt hne).trans hf⟩

theorem T.cells_mk (k n : Int) (s : ByteArray) (A : Option Addr) (cap : Nat) (l : List T) (r : Int) : (T.mk k n s A cap l r).cells = [.int .u8 k, .int .i64 n, .string s, .slice A l.length cap, .int .i64 r] := rfl

theorem fr_grown {w w' : World} {row : Option Nat} (h : w.grownBy w' row) : Fr (fun i => some i = row) w w' := (Fr.refl _ w).grown h fun k hk _ => hk.symm

theorem owns_le {w : World} {base : Nat} {e : TypeId} {size : Nat} {A : Option Addr} {n cap : Nat} {xs : List Value} (h : w.ownsRow base e size (.slice A n cap) n xs) : n ≤ cap := by
  rcases h.2 with ⟨h, _⟩ | ⟨g, c, cur, h, _, _, hc, _⟩
  · simp at h; omega
  · simp at h; omega

theorem lent_push {w wr w2 w3 : World} {X : Array Value} {k n : Int} {s : ByteArray} {r : Int} {l : List T} {j : Nat} {A2 : Option Addr} {cap2 : Nat} {l' : List T} {t' : T} {g cp : Nat} (inv : LentInv w X k n s r l j A2 cap2 l' wr) (hlt : j < l.length) (hv : t'.v = l[j].v)
    (hin : t'.In w2 wr.heap.size w2.heap.size) (hmk : t'.Mk w2) (f1 : Fr No wr.drew w2) (hown : w3.ownsRow (w.heap.size + 3) 27 5 (.slice (some ⟨g, 0, none⟩) (j + 1) cp) (j + 1) (rowCells l' ++ t'.cells))
    (hgrow : (w2.alloc (.cells t'.cells.toArray 27)).grownBy w3 (Value.slice A2 j cap2).ownBlock) (hat : (Value.slice A2 j cap2).ownBlock = some g ∨ g = w2.heap.size + 1) :
    LentInv w X k n s r l (j + 1) (some ⟨g, 0, none⟩) cp (l' ++ [t']) (w3.setCell ⟨w.heap.size + 1 + 1, 3, none⟩ (.slice (some ⟨g, 0, none⟩) (j + 1) cp)) := by
  have big := inv.big
  have hol := inv.own.lt
  have hs2 : wr.heap.size ≤ w2.heap.size := f1.size
  have hs3 : w2.heap.size + 1 ≤ w3.heap.size := by have := hgrow.size; simpa using this
  have F2 : Fr (fun i => some i = (Value.slice A2 j cap2).ownBlock ∨ i = w.heap.size + 1 + 1) w2 (w3.setCell ⟨w.heap.size + 1 + 1, 3, none⟩ (.slice (some ⟨g, 0, none⟩) (j + 1) cp)) :=
    ((((Fr.refl No w2).alloc (.cells t'.cells.toArray 27)).no).trans' (fr_grown hgrow) (fun i _ h => .inl h)).set (fun _ => .inr rfl) _
  have F1 : Fr (fun i => some i = (Value.slice A2 j cap2).ownBlock ∨ i = w.heap.size + 1 + 1) wr (w3.setCell ⟨w.heap.size + 1 + 1, 3, none⟩ (.slice (some ⟨g, 0, none⟩) (j + 1) cp)) :=
    ((Fr.refl _ wr).drew.thenNo f1).trans F2
  have hgl := (owns_lt hown g rfl)
  have hn0 : ∀ i, i < w.heap.size + 3 → ¬ some i = (Value.slice A2 j cap2).ownBlock := fun i hi h => by have := hol i h.symm; omega
  refine ⟨by simp [inv.len], ?_, inv.fr.trans' F1 (fun i hi h => ?_), inv.b0.fr F1 ?_, inv.b1.fr F1 ?_, ?_, ?_, ?_, ?_, ?_⟩
  · rw [List.map_append, inv.vs, List.take_succ_eq_append_getElem hlt, List.map_append, List.map_singleton, List.map_singleton, hv]
  · rcases h with h | h
    · exact hn0 i (by omega) h
    · omega
  · rintro (h | h)
    · exact hn0 _ (by omega) h
    · omega
  · rintro (h | h)
    · exact hn0 _ (by omega) h
    · omega
  · have F3 : Fr (fun i => some i = (Value.slice A2 j cap2).ownBlock) wr w3 :=
      ((((Fr.refl _ wr).drew.thenNo f1).alloc (.cells t'.cells.toArray 27))).trans' (fr_grown hgrow) (fun i _ h => h)
    have := (inv.b2.fr F3 (hn0 _ (by omega))).set_ 3 (.slice (some ⟨g, 0, none⟩) (j + 1) cp)
    simpa using this
  · rw [rowCells_snoc]
    exact owns_fr hown ((Fr.refl (fun i => i = w.heap.size + 1 + 1) w3).set (fun _ => rfl) _) (fun i hi h => by
      simp [Value.ownBlock] at hi
      have h' : i = w.heap.size + 1 + 1 := h
      omega)
  · intro x hx
    have hsz := F1.size
    have hsz2 := F2.size
    rcases List.mem_append.1 hx with hx | hx
    · obtain ⟨h1, h2⟩ := inv.inn x hx
      have hb : ∀ b ∈ x.blocks, ¬ (some b = (Value.slice A2 j cap2).ownBlock ∨ b = w.heap.size + 1 + 1) := fun b hb h => by
        rcases h with h | h
        · exact inv.sep x hx b hb h.symm
        · have := T.In.blocks x h1 b hb; omega
      exact ⟨T.In.more (Nat.le_refl _) hsz x (In.fr_blocks F1 (Nat.le_refl _) x hb h1), T.Mk.fr F1 (Nat.le_refl _) x h1 hb h2⟩
    · simp at hx; subst hx
      have hb : ∀ b ∈ x.blocks, ¬ (some b = (Value.slice A2 j cap2).ownBlock ∨ b = w.heap.size + 1 + 1) := fun b hb h => by
        have h3 := T.In.blocks x hin b hb
        rcases h with h | h
        · have := hol b h.symm; omega
        · omega
      exact ⟨T.In.more (by omega) hsz2 x (In.fr_blocks F2 (Nat.le_refl _) x hb hin), T.Mk.fr F2 (Nat.le_refl _) x hin hb hmk⟩
  · intro x hx b hb h
    simp [Value.ownBlock] at h
    subst h
    rcases List.mem_append.1 hx with hx | hx
    · rcases hat with h | h
      · exact inv.sep x hx _ hb h
      · have := T.In.blocks x (inv.inn x hx).1 _ hb; omega
    · simp at hx; subst hx
      have h3 := T.In.blocks x hin _ hb
      rcases hat with h | h
      · have := hol _ h; omega
      · omega
  · have := F1.size; omega

theorem lent_end {w wr W : World} {X : Array Value} {k n : Int} {s : ByteArray} {r : Int} {l : List T} {A2 : Option Addr} {cap2 : Nat} {l' : List T} {g cp : Nat} {w2 w3 : World} {m : Array Value} (inv : LentInv w X k n s r l l.length A2 cap2 l' wr) (hl : l.length * 64 ≤ 140737488351232)
    (fit : 0 ≤ k ∧ k < 256 ∧ -9223372036854775808 ≤ n ∧ n ≤ 9223372036854775807 ∧ s.size ≤ 140737488351232 ∧ -9223372036854775808 ≤ r ∧ r ≤ 9223372036854775807) (f1 : Fr No wr.drew w2)
    (hown : w3.ownsRow (w.heap.size + 3) 27 5 (.slice (some ⟨g, 0, none⟩) (l.length + 1) cp) (l.length + 1) (rowCells l' ++ [.int .u8 1, .int .i64 77, .string ⟨#[]⟩, .slice none 0 0, .int .i64 0]))
    (hgrow : (w2.alloc (.cells m 27)).grownBy w3 (Value.slice A2 l.length cap2).ownBlock) (hat : (Value.slice A2 l.length cap2).ownBlock = some g ∨ g = w2.heap.size + 1)
    (hW : Fr (fun i => i = w.heap.size + 1 ∨ i = w.heap.size + 1 + 1) w3 W) :
    (T.mk k n s (some ⟨g, 0, none⟩) cp l' r).v = .mk k n s (l.map T.v) r ∧ (T.mk k n s (some ⟨g, 0, none⟩) cp l' r).In W w.heap.size W.heap.size ∧ (T.mk k n s (some ⟨g, 0, none⟩) cp l' r).Mk W ∧ Fr No w W := by
  have big := inv.big
  have hol := inv.own.lt
  have hle := inv.len
  have hs2 : wr.heap.size ≤ w2.heap.size := f1.size
  have hs3 : w2.heap.size + 1 ≤ w3.heap.size := by have := hgrow.size; simpa using this
  have F2 : Fr (fun i => some i = (Value.slice A2 l.length cap2).ownBlock ∨ (i = w.heap.size + 1 ∨ i = w.heap.size + 1 + 1)) wr W :=
    (((((Fr.refl _ wr).drew.thenNo f1).alloc (.cells m 27))).trans' (fr_grown hgrow) (fun i _ h => .inl h)).trans' hW (fun i _ h => .inr h)
  have hgl := (owns_lt hown g rfl)
  have hcp := owns_le hown
  have hown2 := owns_fr hown hW (fun i hi h => by
    simp [Value.ownBlock] at hi
    have h' : i = w.heap.size + 1 ∨ i = w.heap.size + 1 + 1 := h
    omega)
  have hcell : ∀ i u, (rowCells l' ++ [.int .u8 1, .int .i64 77, .string ⟨#[]⟩, .slice none 0 0, .int .i64 0])[i]? = some u → W.cell? ⟨g, 0 + i, none⟩ = some u := fun i u hu => by
    have := World.ownsRow.cells hown2 (g := g) rfl i u hu
    rwa [add_at] at this
  have hrl := rowCells_length l'
  have hin : ∀ x ∈ l', x.In W w.heap.size W.heap.size ∧ x.Mk W := fun x hx => by
    obtain ⟨h1, h2⟩ := inv.inn x hx
    have hb : ∀ b ∈ x.blocks, ¬ (some b = (Value.slice A2 l.length cap2).ownBlock ∨ (b = w.heap.size + 1 ∨ b = w.heap.size + 1 + 1)) := fun b hb h => by
      have := T.In.blocks x h1 b hb
      rcases h with h | h
      · exact inv.sep x hx b hb h.symm
      · omega
    exact ⟨T.In.more (by omega) F2.size x (In.fr_blocks F2 (Nat.le_refl _) x hb h1), T.Mk.fr F2 (Nat.le_refl _) x h1 hb h2⟩
  refine ⟨?_, T.in_mk.2 ⟨⟨fit.1, fit.2.1, fit.2.2.1, fit.2.2.2.1, fit.2.2.2.2.1, by omega, by omega, fit.2.2.2.2.2.1, fit.2.2.2.2.2.2⟩, fun hne => ⟨g, 0, rfl, by omega, by have := hW.size; omega, fun i x hx c u hu => ?_⟩, fun x hx => (hin x hx).1⟩, T.mk_mk.2 ⟨fun hne => ⟨g, 0, rfl, by omega, ?_⟩, fun x hx => (hin x hx).2⟩, inv.fr.trans' F2 (fun i hi h => ?_)⟩
  · rw [T.v_mk, inv.vs, List.take_of_length_le (Nat.le_refl _)]
  · have h1 := rowCells_get l' i c x u hx hu
    have h2 := hcell (i * 5 + c) u (by rw [List.getElem?_append_left (List.getElem?_eq_some_iff.1 h1).1]; exact h1)
    rwa [← Nat.add_assoc] at h2
  · have h2 := hcell (l'.length * 5 + 1) (.int .i64 77) (by rw [List.getElem?_append_right (by omega), hrl, show l'.length * 5 + 1 - l'.length * 5 = 1 by omega]; rfl)
    rwa [← Nat.add_assoc] at h2
  · rcases h with h | h
    · have := hol i h.symm; omega
    · omega

set_option maxRecDepth 100000 in
set_option maxHeartbeats 8000000 in
theorem lent_any (t : T) : ∀ (w : World) (lo hi : Nat), t.In w lo hi → hi ≤ w.heap.size → Calls Try.prog 40 #[t.val] w (LentP t.v w) := by
  induction t using T.ind with
  | h k n s A cap l r ih =>
    intro w lo hi ht hh
    rw [T.val_mk]
    have fit := (T.in_mk.1 ht).1
    have hlen := fit.len1
    obtain ⟨i0, hi0, hz0, hz1, hz2⟩ := info_parts value_info
    have hmk := fun W => run_make_rowN (P := Try.prog) 24 27 i0 _ Try.underlying24 hi0 hz0 .i64 .i64 0 (l.length + 1) (by omega) (by rw [hz2]; omega) (by omega) W
    rw [hz1] at hmk
    have hmk : ∀ W, (Instr.makeSlice 24 (.int .i64 0) (.int .i64 ((l.length : Int) + 1))).run Try.prog W = .ok (.slice (some ⟨W.heap.size, 0, none⟩) 0 (l.length + 1)) (W.alloc (.cells (madeCells (Value.agg #[.int .u8 0, .int .i64 0, .string ⟨#[]⟩, .slice none 0 0, .int .i64 0]).cells ((l.length + 1) * 5)) 27)) := hmk
    by_cases hl : l.length = 0
    · have hl0 : ((l.length : Int) == 0) = true := by simp [hl]
      obtain rfl : l = [] := List.eq_nil_of_length_eq_zero hl
      clear hmk ih
      go_enter Try.func40, Try.ntmps40
      go_wp2
      refine bodyPost_ret (v := .agg #[.int .u8 k, .int .i64 n, .string s, .slice A 0 cap, .int .i64 r]) (by simp [results, Try.results40, go_sem]) rfl ?_
      refine ⟨T.mk k n s A cap [] r, rfl, by simp [T.v_mk], T.in_mk.2 ⟨fit, fun h => absurd rfl h, by simp⟩, T.mk_mk.2 ⟨fun h => absurd rfl h, by simp⟩, ?_⟩
      repeat (first | with_reducible exact Fr.refl No w | with_reducible refine Fr.setNew ?_ (by first | (simp; done) | (simp; omega)) _ | with_reducible refine Fr.alloc ?_ _)
    · have hl0 : ((l.length : Int) == 0) = false := by simp; intro h; subst h; simp at hl
      have hl1 : (0 : Int) < (l.length : Int) := by omega
      go_enter Try.func40, Try.ntmps40
      go_wp2_with fail
      go_loopw [4] (fun i wr => ∃ (j : Nat) (A2 : Option Addr) (cap2 : Nat) (l' : List T), j ≤ l.length ∧ i = .int .i64 j ∧
          LentInv w #[.int .u8 k, .int .i64 n, .string s, .slice A l.length cap, .int .i64 r] k n s r l j A2 cap2 l' wr)
        (fun i _ => l.length - (intOf i).toNat)
      case atStart =>
        refine ⟨0, some ⟨w.heap.size + 1 + 1 + 1, 0, none⟩, l.length + 1, [], Nat.zero_le _, rfl, rfl, by simp, (((((Fr.refl No w).alloc _).alloc _).alloc _).alloc _), (((Blk.new' w 27 _ rfl).alloc _).alloc _).alloc _, ((Blk.new' (w.alloc _) 27 _ (by simp)).alloc _).alloc _,
          (Blk.new' ((w.alloc _).alloc _) 27 _ (by simp)).alloc _, ?_, by simp, by simp, by simp⟩
        have := World.ownsRow_made (base := w.heap.size + 3) (e := 27) (size := 5) (((w.alloc (.cells #[.int .u8 k, .int .i64 n, .string s, .slice A l.length cap, .int .i64 r] 27)).alloc (.cells #[.int .u8 0, .int .i64 0, .string ⟨#[]⟩, .slice none 0 0, .int .i64 0] 27)).alloc (.cells #[.int .u8 k, .int .i64 n, .string s, .slice (some ⟨w.heap.size + 1 + 1 + 1, 0, none⟩) 0 (l.length + 1), .int .i64 r] 27)) (madeCells #[.int .u8 0, .int .i64 0, .string ⟨#[]⟩, .slice none 0 0, .int .i64 0] ((l.length + 1) * 5)) (l.length + 1) (by simp) (by unfold maxLen; omega) (size_madeCells _ _)
        simp only [World.size_alloc] at this
        exact this
      case round =>
        obtain ⟨j, A2, cap2, l', hj, rfl, inv⟩ := hrel
        have fr := inv.fr
        have big := inv.big
        have own := inv.own
        have hsep0 : (Value.slice A2 j cap2).ownBlock ≠ some (w.heap.size + 1 + 1) := fun h => by have := own.lt _ h; omega
        obtain ⟨c0, c1, c2, c3, c4, cf⟩ := inv.b2.cells5
        obtain ⟨d0, d1, d2, d3, d4, df⟩ := inv.b0.cells5
        by_cases hlt : j < l.length
        · obtain ⟨b, o, k1, n1, s1, A1, cap1, l1, r1, rfl, hb0, hb1, hx, hin, e0, e1, e2, e3, e4⟩ := T.elem (ht.no fr hh) hlt
          have IH := ih l[j] (List.getElem_mem hlt)
          rw [hx] at IH
          have HX := hide hx
          rw [T.val_mk] at IH
          have hh0 : hi ≤ wr.heap.size := by omega
          have IH2 := IH wr.drew lo hi (hin.no ((Fr.refl No wr).drew) hh0) hh0
          have HIH := hide IH2
          have HI := hide inv
          have HB2 := hide inv.b2
          have HO := hide own
          have g0 : b < wr.heap.size := by omega
          have g1 : w.heap.size < wr.heap.size := by omega
          have g2 : w.heap.size + 1 + 1 < wr.heap.size := by omega
          have hv0' : some (w.heap.size + 1 + 1) ≠ (Value.slice A2 j cap2).ownBlock := Ne.symm hsep0
          have HH := hide hh
          clear hx ih inv ht hmk IH IH2 fr own hin hh
          go_wp2_with fail
          go_region_law (first
            | ((refine step_append_lies _ (by rfl) _ _ _ (by rfl) (w.heap.size + 3) 27 i0 _ 5 64 Try.underlying24 hi0 hz0 hz1 hz2 rfl (by omega) (.slice A2 j cap2) j (rowCells l') (by rfl) ownD ⟨w2.heap.size, 0, none⟩ 1 1 [.int .u8 k5, .int .i64 n5, .string s5, .slice A5 l5.length cap5, .int .i64 r5] (by rfl) (by rfl) (World.news_of_block (Blk.new w2 27 _)) (by simp [Value.oneCell']) (by omega) (by unfold maxLen; omega) (by omega) (by simp; omega) _ rfl ?_); intro g cp w3 hown3 hgrow hat hlt3; obtain ⟨c5, f5⟩ := lent_grown hgrow c4D f4D (by simp; omega) hv0')
            | (go_simp; go_at_call 40; (with_reducible refine HIH.out.mono ?_); rintro e w2 ⟨⟨k5, n5, s5, A5, cap5, l5, r5⟩, rfl, hv5, hin5, hmk5, fr1⟩; rw [T.val_mk]; obtain ⟨ownD, bD, c3D, c4D, f4D, hsz2, hlt2⟩ := lent_after (m := #[.int .u8 k5, .int .i64 n5, .string s5, .slice A5 l5.length cap5, .int .i64 r5]) HB2.out HO.out fr1))
          all_goals
            go_wp2
            go_roundw
            case rel =>
              exact ⟨j + 1, _, _, _, hlt, by go_num, lent_push HI.out hlt (hv5.trans (congrArg T.v HX.out).symm) hin5 hmk5 fr1 hown3 hgrow (by simpa using hat)⟩
            case measure => simp [intOf]; omega
        · obtain rfl : l.length = j := by omega
          have HI := hide inv
          have HB2 := hide inv.b2
          have HB1 := hide inv.b1
          have HO := hide own
          have g1 : w.heap.size < wr.heap.size := by omega
          have g2 : w.heap.size + 1 + 1 < wr.heap.size := by omega
          have hv0' : some (w.heap.size + 1 + 1) ≠ (Value.slice A2 l.length cap2).ownBlock := Ne.symm hsep0
          clear ih inv ht hmk fr own hh
          go_wp2_with fail
          go_region_law (first
            | ((refine step_append_lies _ (by rfl) _ _ _ (by rfl) (w.heap.size + 3) 27 i0 _ 5 64 Try.underlying24 hi0 hz0 hz1 hz2 rfl (by omega) (.slice A2 l.length cap2) l.length (rowCells l') (by rfl) ownD ⟨w2.heap.size, 0, none⟩ 1 1 [.int .u8 1, .int .i64 77, .string ⟨#[]⟩, .slice none 0 0, .int .i64 0] (by rfl) (by rfl) (World.news_of_block (Blk.new w2 27 _)) (by simp [Value.oneCell']) (by omega) (by unfold maxLen; omega) (by omega) (by simp; omega) _ rfl ?_); intro g cp w3 hown3 hgrow hat hlt3; obtain ⟨c5, f5⟩ := lent_grown hgrow c4D f4D (by simp; omega) hv0')
            | (go_simp; go_at_call 79; (with_reducible refine (num2_any 77 _).mono ?_); rintro e w2 ⟨rfl, fr1⟩; obtain ⟨ownD, bD, c3D, c4D, f4D, hsz2, hlt2⟩ := lent_after (m := #[.int .u8 1, .int .i64 77, .string ⟨#[]⟩, .slice none 0 0, .int .i64 0]) HB2.out HO.out fr1))
          all_goals
            have F3 : Fr (fun i => some i = (Value.slice A2 l.length cap2).ownBlock) wr w3 :=
              ((((Fr.refl _ wr).drew.thenNo fr1).alloc (.cells #[.int .u8 1, .int .i64 77, .string ⟨#[]⟩, .slice none 0 0, .int .i64 0] 27))).trans' (fr_grown hgrow) (fun i _ h => h)
            have hn0 : ∀ i, i < w.heap.size + 3 → ¬ some i = (Value.slice A2 l.length cap2).ownBlock := fun i hi h => by have := HO.out.lt i h.symm; omega
            have B0 := HI.out.b0.fr F3 (hn0 _ (by omega))
            have B1 := HI.out.b1.fr F3 (hn0 _ (by omega))
            have B2 := HI.out.b2.fr F3 (hn0 _ (by omega))
            obtain ⟨x0, x1, x2, x3, x4, xf⟩ := B0.cells5
            obtain ⟨y0, y1, y2, y3, y4, yf⟩ := B1.cells5
            obtain ⟨z0, z1, z2, z3, z4, zf⟩ := B2.cells5
            have hcp := owns_le hown3
            have hcp2 : (l.length : Int) ≤ (cp : Int) := by omega
            have q0 := B0.lt
            have q1 := B1.lt
            have q2 := B2.lt
            have HOWN := hide hown3
            have HGR := hide hgrow
            have HAT := hide hat
            have HF1 := hide fr1
            clear F3 hn0 B0 B1 B2 hown3 hgrow hat fr1 hcp c0 c1 c2 c3 c4 cf d0 d1 d2 d3 d4 df c5 f5 c3D c4D f4D bD ownD
            go_wp2
            refine bodyPost_ret (v := .agg #[.int .u8 k, .int .i64 n, .string s, .slice (some ⟨g, 0, none⟩) l.length cp, .int .i64 r]) (by simp [results, Try.results40, go_sem, *]) rfl ?_
            generalize hW : World.setCell _ _ _ = W
            have hfr : Fr (fun i => i = w.heap.size + 1 ∨ i = w.heap.size + 1 + 1) w3 W := by
              rw [← hW]
              repeat (first | with_reducible exact Fr.refl _ w3 | with_reducible refine Fr.set ?_ (by simp) _)
            have hl' := HI.out.len
            obtain ⟨e1, e2, e3, e4⟩ := lent_end HI.out hlen ⟨fit.k0, fit.k1, fit.n0, fit.n1, fit.s1, fit.r0, fit.r1⟩ HF1.out HOWN.out HGR.out (by simpa using HAT.out) hfr
            exact ⟨T.mk k n s (some ⟨g, 0, none⟩) cp l' r, by rw [T.val_mk, hl'], by rw [e1, T.v_mk], e2, e3, e4⟩

end Go.Proofs.Ytihjmipmjogpoaa

/- Chapter 2: high: the bytes of a number. -/
namespace Go.Proofs.Ytihjmipmjogpoaa
open Go.RowKit

/-- So many bytes of a number, the highest first. -/
def hiB (n : Nat) : Nat → List Nat
  | 0 => []
  | j + 1 => (n / 2 ^ (8 * j)) % 256 :: hiB n j

theorem hiB_length (n j : Nat) : (hiB n j).length = j := by
  induction j with
  | zero => rfl
  | succ j ih => simp [hiB, ih]

def byteCells (l : List Nat) : List Value := l.map fun (x : Nat) => .int .u8 (x : Int)

theorem byte_info : (Try.prog.info? 5).map (fun i => (i.zero, i.size, i.bytes)) = some (some (.int .u8 0), 1, 1) := by kernel_rfl

/-- The blocks of bytes from base on. -/
def BS (base : Nat) (w : World) (i : Nat) : Prop := base ≤ i ∧ ∃ cur, w.heap[i]? = some (.cells cur 5 (0, 0))

theorem BS.trans {base : Nat} {a b c : World} (h : Fr (BS base a) a b) (k : Fr (BS base b) b c) : Fr (BS base a) a c :=
  h.trans' k fun i hi ⟨h0, cur, h1⟩ => by
    by_cases hs : BS base a i
    · exact hs
    · exact ⟨h0, cur, (h.block i hi hs).symm.trans h1⟩

theorem BS.grown {base n : Nat} {a w w' : World} {v : Value} {xs : List Value} (h : Fr (BS base a) a w) (ho : w.ownsRow base 5 1 v n xs) (hg : w.grownBy w' v.ownBlock) : Fr (BS base a) a w' :=
  BS.trans h ((Fr.refl _ w).grown hg fun i hi _ => by
    rcases ho.2 with ⟨rfl, _⟩ | ⟨g, cap, cur, rfl, hb, hh, _⟩
    · cases hi
    · simp [Value.ownBlock] at hi; subst hi; exact ⟨hb, cur, hh⟩)

theorem Blk.bs {base g : Nat} {t : TypeId} {w : World} {cs : Array Value} (h : Blk w g t cs) (ht : t ≠ 5) : ¬ BS base w g := by
  rintro ⟨_, cur, h1⟩
  unfold Blk at h
  rw [h] at h1
  injection h1 with h1
  injection h1 with _ h2
  exact ht h2

/-- A row of bytes with more behind it. -/
def GrowP (xs more : List Nat) (base : Nat) (w : World) (e : Ending) (w' : World) : Prop :=
  ∃ v', e = .returned v' ∧ w'.ownsRow base 5 1 v' (xs ++ more).length (byteCells (xs ++ more)) ∧ Fr (BS base w) w w'

set_option maxRecDepth 100000 in
set_option maxHeartbeats 4000000 in
theorem high_any (v : Value) (xs : List Nat) (base : Nat) (n width : Nat) (w : World) (hn : n < 18446744073709551616) (hwd : width ≤ 8) (hx : xs.length ≤ 1000000) (ho : w.ownsRow base 5 1 v xs.length (byteCells xs)) (hb : base ≤ w.heap.size) :
    Calls Try.prog 139 #[v, .int .u64 (n : Int), .int .i64 (width : Int)] w (GrowP xs (hiB n width) base w) := by
  obtain ⟨i0, hi0, hz0, hz1, hz2⟩ := info_parts byte_info
  have hw1 : (width : Int) ≤ 8 := by omega
  go_enter Try.func139, Try.ntmps139
  go_wp2_with fail
  go_loopw [0, 7] (fun s0 s7 wr => ∃ (j : Nat) (done : List Nat), j ≤ width ∧ s7 = .int .i64 ((j : Int) - 1) ∧ hiB n width = done ++ hiB n j ∧ done.length + j = width ∧ wr.ownsRow base 5 1 s0 (xs ++ done).length (byteCells (xs ++ done)) ∧ Fr (BS base w) w wr) (fun _ s7 _ => ((intOf s7) + 1).toNat)
  case atStart => exact ⟨width, [], Nat.le_refl _, by go_num, by simp, by simp, by simpa using ho, Fr.refl _ _⟩
  case round =>
    obtain ⟨j, done, hj, rfl, hd, hdl, how, fr⟩ := hrel
    cases j with
    | zero =>
      rw [show (((0 : Nat) : Int) - 1) = -1 from rfl]
      have hq : hiB n width = done := by rw [hd]; simp [hiB]
      have HQ := hide hq
      have HO := hide how
      have HF := hide fr
      clear hq how fr hd ho
      go_wp2
      go_ret
      exact ⟨_, rfl, by rw [HQ.out]; exact HO.out, HF.out⟩
    | succ j =>
      have e1 : (((j + 1 : Nat) : Int) - 1) = (j : Int) := by omega
      rw [e1]
      have hj8 : (j : Int) < 8 := by omega
      have hd1 := hd
      have HD := hide hd
      have HL := hide hdl
      have hle := (show (xs ++ done).length ≤ 1000008 by simp; omega)
      generalize hL : xs ++ done = L at *
      have hown1 := how.alloc (.cells #[.int .u8 ((n : Int) / 2 ^ (8 * j) % 256)] 5)
      have hbw : base ≤ wr.heap.size := Nat.le_trans hb fr.size
      have hcast : ((n / 2 ^ (8 * j) % 256 : Nat) : Int) = (n : Int) / 2 ^ (8 * j) % 256 := by push_cast; rfl
      have HC := hide hcast
      have HF := hide fr
      have HO := hide how
      have HLL := hide hL
      clear hd hdl hd1 e1 hcast fr how hL ho
      go_wp2_with (at_builtin; refine wpList_append_lies _ (by rfl) _ _ _ (by rfl) base 5 i0 _ 1 1 Try.underlying151 hi0 hz0 hz1 hz2 (by rfl) (by omega) _ L.length (byteCells L) (by rfl) hown1 ⟨wr.heap.size, 0, none⟩ 1 1 [.int .u8 ((n : Int) / 2 ^ (8 * j) % 256)] (by rfl) (by rfl) (World.news_of_block (heap_alloc_new wr _)) (by simp [Value.oneCell']) (by omega) (by unfold maxLen; omega) (by omega) (by simp; omega) (wr.heap.size + 1) (by simp) ?_; intro g cap w1 hown2 hgrow hat hlt1)
      go_roundw
      case rel =>
        refine ⟨j, done ++ [n / 2 ^ (8 * j) % 256], by omega, by go_num, by rw [HD.out]; simp [hiB], by simp; have := HL.out; omega, ?_, ?_⟩
        · rw [← List.append_assoc, HLL.out, List.length_append, byteCells, List.map_append]
          have h := hown2
          rw [← HC.out] at h
          exact h
        · exact BS.grown (HF.out.alloc _) hown1 hgrow
      case measure => first | (simp [intOf]; done) | (simp [intOf]; omega)

end Go.Proofs.Ytihjmipmjogpoaa

/- Chapter 2: write: the bytes of a value. -/
namespace Go.Proofs.Ytihjmipmjogpoaa
open Go.RowKit

theorem step_append_str {P : Program} {ops : Array Oper} {o : Oper} {a : Act} {w : World} {K : Act → World → Prop} {Q : Exit → Act → World → Prop} {E : Prop} (hg : o.guard = none) (sl x : Operand) (t u : TypeId)
    (ho : o.op = Op.call { callee := Callee.builtin Builtin.append, args := #[sl, x], argTypes := #[t, u] }) (base : Nat) (e : TypeId) (i : TypeInfo) (ht : P.underlying t = some (.slice e)) (hu : P.underlying u = some .string) (hi : P.info? e = some i) (hz : i.zero = some (.int .u8 0))
    (hsize : i.size = 1) (hby : i.bytes = 1) (v : Value) (n : Nat) (xs : List Value) (hs : a.eval sl = v) (hown : w.ownsRow base e 1 v n xs) (s : ByteArray) (hx : a.eval x = .string s) (h63 : n + s.size ≤ maxLen) (hbytes : n + s.size ≤ 140737488355328) (hbase : base ≤ w.heap.size)
    (hK : ∀ v' w', w'.ownsRow base e 1 v' (n + s.size) (xs ++ Lib.strCells s) → w.grownBy w' v.ownBlock → K (a.put o.dst v') w') :
    if Region.wanted o (yielded ops a.tmps) = true then Oper.wp P o a w K Q else E := by
  have hw : Region.wanted o (yielded ops a.tmps) = true := by simp [Region.wanted, hg]
  rw [if_pos hw]
  obtain ⟨v', w', hrun, r1, r2, _⟩ := Lib.run_append_own_string (P := P) w base t u o.type e i ht hu hi hz hsize hby v n xs hown s h63 hbytes hbase
  unfold Oper.wp
  simp [execOp, ho, resolve, invoke, builtin, hs, hx, hrun, Result.andThen]
  exact hK v' w' r1 r2

def strB (s : ByteArray) : List Nat := s.data.toList.map UInt8.toNat

theorem fr_undrew {base : Nat} {w w' : World} (h : Fr (BS base w.drew) w.drew w') : Fr (BS base w) w w' := ⟨h.os, h.tape, h.output, h.size, fun b hb hn => h.block b hb hn⟩

theorem strB_length (s : ByteArray) : (strB s).length = s.size := by rw [strB, List.length_map, Array.length_toList]; rfl

theorem strB_cells (s : ByteArray) : byteCells (strB s) = Lib.strCells s := by simp [byteCells, strB, Lib.strCells]

/-- The bytes of a value: its one form. -/
def V.enc : V → List Nat
  | .mk k n s l r => k.toNat :: (if k = 1 then hiB ((n + 9223372036854775808).toNat) 8 else if k = 2 then hiB s.size 2 ++ strB s else if k = 3 then hiB l.length 2 ++ (l.map V.enc).flatten else if k = 4 then hiB r.toNat 4 else [])
termination_by v => v

theorem V.enc_mk (k n : Int) (s : ByteArray) (l : List V) (r : Int) : (V.mk k n s l r).enc = k.toNat :: (if k = 1 then hiB ((n + 9223372036854775808).toNat) 8 else if k = 2 then hiB s.size 2 ++ strB s else if k = 3 then hiB l.length 2 ++ (l.map V.enc).flatten else if k = 4 then hiB r.toNat 4 else []) := by rw [V.enc]

theorem blk5w {w : World} {g : Nat} {t : TypeId} {a b c d e : Value} (h : Blk w g t #[a, b, c, d, e]) : w.cell? ⟨g, 0, none⟩ = some a ∧ w.cell? ⟨g, 1, none⟩ = some b ∧ w.cell? ⟨g, 2, none⟩ = some c ∧ w.cell? ⟨g, 3, none⟩ = some d ∧ w.cell? ⟨g, 4, none⟩ = some e :=
  ⟨h.cell 0, h.cell 1, h.cell 2, h.cell 3, h.cell 4⟩

theorem u64_num (n : Int) (h0 : -9223372036854775808 ≤ n) (h1 : n ≤ 9223372036854775807) : IntKind.u64.wrap (IntKind.u64.wrap n + 9223372036854775808) = ((n + 9223372036854775808).toNat : Int) ∧ (n + 9223372036854775808).toNat < 18446744073709551616 := by
  rw [IntKind.wrap_u64, IntKind.wrap_u64]; omega

theorem u64_nat (n : Nat) (h : n < 18446744073709551616) : IntKind.u64.wrap (n : Int) = (n : Int) := by
  rw [IntKind.wrap_u64]; omega

theorem u64_pos (r : Int) (h0 : 0 ≤ r) (h1 : r ≤ 9223372036854775807) : IntKind.u64.wrap r = (r.toNat : Int) ∧ r.toNat < 18446744073709551616 := by
  rw [IntKind.wrap_u64]; omega

theorem GrowP.cons {xs more : List Nat} {x base : Nat} {w w1 : World} {e : Ending} {w' : World} (fr : Fr (BS base w) w w1) (h : GrowP (xs ++ [x]) more base w1 e w') : GrowP xs (x :: more) base w e w' := by
  obtain ⟨v', rfl, ho, f⟩ := h
  exact ⟨v', rfl, by simpa using ho, BS.trans fr f⟩

theorem GrowP.more {xs a b : List Nat} {base : Nat} {w w1 : World} {e : Ending} {w' : World} (fr : Fr (BS base w) w w1) (h : GrowP (xs ++ a) b base w1 e w') : GrowP xs (a ++ b) base w e w' := by
  obtain ⟨v', rfl, ho, f⟩ := h
  exact ⟨v', rfl, by rw [← List.append_assoc]; exact ho, BS.trans fr f⟩

set_option maxRecDepth 100000 in
set_option maxHeartbeats 4000000 in
theorem write_any (t : T) : ∀ (v : Value) (xs : List Nat) (base : Nat) (w : World) (lo hi : Nat), t.In w lo hi → hi ≤ base → base ≤ w.heap.size → t.v.ok = true → w.ownsRow base 5 1 v xs.length (byteCells xs) → xs.length + t.v.enc.length ≤ 1000000 → Calls Try.prog 113 #[v, t.val] w (GrowP xs t.v.enc base w) := by
  induction t using T.ind with
  | h k n s A cap l r ih =>
    intro v xs base w lo hi ht hhi hbase hok ho hlen
    rw [T.val_mk]
    obtain ⟨i0, hi0, hz0, hz1, hz2⟩ := info_parts byte_info
    have fit := (T.in_mk.1 ht).1
    have k0 := fit.k0
    have k1 := fit.k1
    have henc : (T.mk k n s A cap l r).v.enc = k.toNat :: (if k = 1 then hiB ((n + 9223372036854775808).toNat) 8 else if k = 2 then hiB s.size 2 ++ strB s else if k = 3 then hiB (l.map T.v).length 2 ++ ((l.map T.v).map V.enc).flatten else if k = 4 then hiB r.toNat 4 else []) := by rw [T.v_mk, V.enc_mk]
    have hb := Blk.new w 27 #[.int .u8 k, .int .i64 n, .string s, .slice A l.length cap, .int .i64 r]
    have hkn : ((k.toNat : Nat) : Int) = k := by omega
    have hxs : xs.length ≤ 1000000 := by omega
    obtain ⟨c0, c1, c2, c3, c4, cf⟩ := hb.cells5
    have hown1 := (ho.alloc (.cells #[.int .u8 k, .int .i64 n, .string s, .slice A l.length cap, .int .i64 r] 27)).alloc (.cells #[.int .u8 k] 5)
    have fr1 : Fr (BS base w) w ((w.alloc (.cells #[.int .u8 k, .int .i64 n, .string s, .slice A l.length cap, .int .i64 r] 27)).alloc (.cells #[.int .u8 k] 5)) := ((Fr.refl _ w).alloc _).alloc _
    have HE := hide henc
    have HB := hide (hb.alloc (.cells #[.int .u8 k] 5))
    have HO := hide hown1
    have HF := hide fr1
    have HKN := hide hkn
    clear henc hb hkn fr1 ho
    go_enter Try.func113, Try.ntmps113
    go_upto_region 2 with (at_builtin; refine wpList_append_lies _ (by rfl) _ _ _ (by rfl) base 5 i0 _ 1 1 Try.underlying151 hi0 hz0 hz1 hz2 (by rfl) (by omega) v xs.length (byteCells xs) (by rfl) hown1 ⟨w.heap.size + 1, 0, none⟩ 1 1 [.int .u8 k] (by rfl) (by rfl) (World.news_of_block (Blk.new' _ 5 #[.int .u8 k] (by simp))) (by simp [Value.oneCell']) (by omega) (by unfold maxLen; omega) (by omega) (by simp; omega) (w.heap.size + 1 + 1) (by simp) ?_; intro g cap1 w1 hown2 hgrow hat hlt1)
    have fr2 := BS.grown HF.out hown1 hgrow
    have hb2 := HB.out.fr ((Fr.refl (fun i => v.ownBlock = some i) _).grown hgrow fun i hi _ => hi) (fun h => by
      have h1 := HB.out.bs (base := base) (by decide)
      rcases HO.out.2 with ⟨rfl, _⟩ | ⟨g', cap', cur, rfl, hb', hh', _⟩
      · cases h
      · simp [Value.ownBlock] at h; subst h; exact h1 ⟨hb', cur, hh'⟩)
    have hown3 : w1.ownsRow base 5 1 (.slice (some ⟨g, 0, none⟩) (xs.length + 1) cap1) (xs ++ [k.toNat]).length (byteCells (xs ++ [k.toNat])) := by
      rw [List.length_append, byteCells, List.map_append]
      have h := hown2
      rw [← HKN.out] at h
      exact h
    have hb1 : base ≤ w1.heap.size := by have := fr2.size; omega
    have hlen1 : (xs ++ [k.toNat]).length = xs.length + 1 := by simp
    have hok1 := hok
    rw [T.v_mk, V.ok_mk, Bool.and_eq_true] at hok1
    have hH := fun n wd w' (f : Fr No w1 w') (h : n < 18446744073709551616) (h2 : wd ≤ 8) => high_any (.slice (some ⟨g, 0, none⟩) (xs.length + 1) cap1) (xs ++ [k.toNat]) base n wd w' h h2 (by rw [hlen1]; have := hlen; rw [HE.out] at this; simp at this; omega) (owns_fr hown3 f fun _ _ h => h) (Nat.le_trans hb1 f.size)
    obtain ⟨x0, x1, x2, x3, x4, xf⟩ := hb2.cells5
    have q0 := hb2.lt
    have HFR := hide fr2
    have HB2 := hide hb2
    have HO3 := hide hown3
    have HOK := hide hok1
    have HH := hide hH
    have HL := hide hlen
    have n0 := fit.n0
    have n1 := fit.n1
    clear hown1 hown2 hgrow hat c0 c1 c2 c3 c4 cf fr2 hb2 hown3 hok1 hH hlen hlen1 hok
    by_cases h1 : k = 1
    · subst h1
      have he1 := HE.out
      rw [if_pos rfl] at he1
      have HE1 := hide he1
      clear he1
      obtain ⟨e1, e2⟩ := u64_num n n0 n1
      have E1 := hide e1
      have E2 := hide e2
      clear e1 e2
      go_wp2_with fail
      rw [E1.out]
      refine (HH.out _ 8 _ (Fr.refl No w1) E2.out (by omega)).mono ?_
      rintro e w2 ⟨v2, rfl, ho2, f2⟩
      have HP := hide (GrowP.cons HFR.out ⟨v2, rfl, ho2, f2⟩)
      clear ho2 f2
      go_wp2
      go_ret
      rw [HE1.out]
      exact HP.out
    by_cases h2 : k = 2
    · subst h2
      have he1 := HE.out
      rw [if_neg (by decide), if_pos rfl] at he1
      have HE1 := hide he1
      clear he1
      have hss : s.size ≤ 256 := by have := HOK.out.1; simp [fok] at this; omega
      have hws := u64_nat s.size (by omega)
      have hbd : (xs ++ [Int.toNat 2] ++ hiB s.size 2).length + s.size ≤ 1001000 := by simp [hiB_length]; omega
      have HBD := hide hbd
      have HL1 := hide hb1
      clear hbd
      go_wp2_with fail
      go_region_held3 (fun w' => w'.cell? ⟨w.heap.size, 2, none⟩ = some (.string s))
        (first | with_reducible exact HS3.out | with_reducible exact HS2.out | exact x2)
        (first
          | ((refine step_append_str rfl _ _ _ _ (by rfl) base 5 i0 Try.underlying151 Try.underlying9 hi0 hz0 hz1 hz2 v2 (xs ++ [Int.toNat 2] ++ hiB s.size 2).length (byteCells (xs ++ [Int.toNat 2] ++ hiB s.size 2)) (by rfl) HO5.out s (by rfl) (Nat.le_trans HBD.out (by unfold maxLen; omega)) (Nat.le_trans HBD.out (by omega)) hb5 ?_); intro v3 w3 ho3 hg3; have HO6 := hide ho3; have HF6 := hide (BS.grown (Fr.refl (BS base w2) w2) HO5.out hg3); have HS3 := hide (blk5w (HB5.out.fr HF6.out (HB5.out.bs (by decide)))).2.2.1; clear ho3 hg3)
          | (go_at_call 139; ((refine (HH.out s.size 2 _ ((Fr.refl No w1).drew) (by omega) (by omega)).mono ?_); rintro e w2 ⟨v2, rfl, ho2, f2⟩; have hb5 := (show base ≤ w2.heap.size from Nat.le_trans HL1.out f2.size); have HB5 := hide (Blk.fr (a := w1.drew) HB2.out f2 (Blk.bs (w := w1.drew) HB2.out (by decide))); have HS2 := hide (blk5w HB5.out).2.2.1; have HF5 := hide f2; have HO5 := hide ho2; clear ho2 f2)))
      go_wp2
      go_ret
      rw [HE1.out]
      have hf5 : Fr (BS base w1) w1 w2 := fr_undrew HF5.out
      refine GrowP.cons HFR.out (GrowP.more hf5 ⟨v3, rfl, ?_, HF6.out⟩)
      have h := HO6.out
      rw [← strB_cells, byteCells, byteCells, ← List.map_append] at h
      rw [List.length_append, strB_length]
      exact h
    by_cases h3 : k = 3
    · subst h3
      have he1 := HE.out
      rw [if_neg (by decide), if_neg (by decide), if_pos rfl] at he1
      have HE1 := hide he1
      clear he1
      have hll := fit.len1
      go_wp2_with fail
      refine (HH.out l.length 2 _ (Fr.refl No w1) (by omega) (by omega)).mono ?_
      rintro e w2 ⟨v2, rfl, ho2, f2⟩
      have hb4 := HB2.out.fr f2 (HB2.out.bs (by decide))
      have HF4 := hide (BS.trans HFR.out f2)
      have HO4 := hide ho2
      have HB4 := hide hb4
      clear x0 x1 x2 x3 x4 xf q0 ho2 f2
      obtain ⟨x0, x1, x2, x3, x4, xf⟩ := hb4.cells5
      have q0 := hb4.lt
      clear hb4
      go_wp2_with fail
      have hll2 : (l.length : Int) ≤ 2199023255488 := by omega
      go_loopw [0, 44] (fun s0 s44 wr => ∃ j : Nat, j ≤ l.length ∧ s44 = .int .i64 j ∧ wr.ownsRow base 5 1 s0 (xs ++ [Int.toNat 3] ++ hiB l.length 2 ++ (((l.map T.v).take j).map V.enc).flatten).length (byteCells (xs ++ [Int.toNat 3] ++ hiB l.length 2 ++ (((l.map T.v).take j).map V.enc).flatten)) ∧ Fr (BS base w2) w2 wr) (fun _ s44 _ => l.length - (intOf s44).toNat)
      case atStart => exact ⟨0, Nat.zero_le _, rfl, by simpa using HO4.out, Fr.refl _ _⟩
      case round =>
        obtain ⟨j, hj, rfl, how, fr⟩ := hrel
        by_cases hlt : j < l.length
        · have fw := BS.trans HF4.out fr
          obtain ⟨b, o, k6, n6, s6, A6, cap6, l6, r6, rfl, hb0, hb9, hx, hin, e0, e1, e2, e3, e4⟩ := T.elem (ht.fr fw (Nat.le_trans hhi hbase) (fun i h0 h1 ⟨h2, _⟩ => by omega)) hlt
          have hbr : base ≤ wr.heap.size := Nat.le_trans hbase fw.size
          have g0 : b < wr.heap.size := by omega
          have IH := ih l[j] (List.getElem_mem hlt)
          have htk : ((l.map T.v).take (j + 1)).map V.enc = ((l.map T.v).take j).map V.enc ++ [(T.mk k6 n6 s6 A6 cap6 l6 r6).v.enc] := by
            rw [List.take_succ_eq_append_getElem (by simpa using hlt), List.map_append, List.getElem_map, hx]; rfl
          have hokx : (T.mk k6 n6 s6 A6 cap6 l6 r6).v.ok = true := by
            rw [← hx]; exact List.all_eq_true.1 HOK.out.2 _ (List.mem_map_of_mem (List.getElem_mem hlt))
          have hsumx : (((l.map T.v).take (j + 1)).map V.enc).flatten.length ≤ (((l.map T.v).map V.enc).flatten).length := by
            conv => rhs; rw [← List.take_append_drop (j + 1) (l.map T.v), List.map_append, List.flatten_append, List.length_append]
            omega
          rw [htk, List.flatten_append, List.length_append] at hsumx
          simp only [List.flatten_cons, List.flatten_nil, List.append_nil] at hsumx
          rw [hx, T.val_mk] at IH
          have hbound : (xs ++ [Int.toNat 3] ++ hiB l.length 2 ++ (((l.map T.v).take j).map V.enc).flatten).length + (T.mk k6 n6 s6 A6 cap6 l6 r6).v.enc.length ≤ 1000000 := by
            have h := HL.out
            rw [HE1.out] at h
            simp only [List.length_append, List.length_cons, List.length_nil, hiB_length, List.length_map] at h ⊢
            omega
          have frB := (Fr.refl No wr).alloc (.cells #[.int .u8 k6, .int .i64 n6, .string s6, .slice A6 l6.length cap6, .int .i64 r6] 27)
          have hI := fun v0 (h0 : wr.ownsRow base 5 1 v0 _ _) => IH v0 _ base (wr.alloc (.cells #[.int .u8 k6, .int .i64 n6, .string s6, .slice A6 l6.length cap6, .int .i64 r6] 27)) lo hi (hin.no frB (by omega)) hhi (Nat.le_trans hbr frB.size) hokx (owns_fr h0 frB fun _ _ h => h) hbound
          have HI := hide (hI _ how)
          have HTK := hide htk
          have HFRR := hide fr
          clear hI IH ih frB htk hx hin hokx hsumx hbound fr fw how
          go_wp2_with fail
          refine HI.out.mono ?_
          rintro e w3 ⟨v3, rfl, ho3, f3⟩
          have HO7 := hide ho3
          have hf3 := BS.trans (HFRR.out.alloc (.cells #[.int .u8 k6, .int .i64 n6, .string s6, .slice A6 l6.length cap6, .int .i64 r6] 27)) f3
          have HF7 := hide hf3
          clear ho3 f3 hf3
          go_wp2
          go_roundw
          case rel =>
            refine ⟨j + 1, hlt, by go_num, ?_, HF7.out⟩
            rw [HTK.out, List.flatten_append, ← List.append_assoc]
            simpa only [List.flatten_cons, List.flatten_nil, List.append_nil] using HO7.out
          case measure => simp [intOf]; omega
        · obtain rfl : j = l.length := by omega
          have HOW := hide how
          have HFRR := hide fr
          clear how fr ih
          go_wp2
          go_ret
          rw [HE1.out]
          have hf := BS.trans HF4.out HFRR.out
          refine ⟨_, rfl, ?_, hf⟩
          have h := HOW.out
          rw [List.take_of_length_le (by simp)] at h
          simp only [List.length_map, List.append_assoc, List.cons_append, List.nil_append] at h ⊢
          exact h
    by_cases h4 : k = 4
    · subst h4
      have he1 := HE.out
      rw [if_neg (by decide), if_neg (by decide), if_neg (by decide), if_pos rfl] at he1
      have HE1 := hide he1
      clear he1
      have hr1 : 1 ≤ r := by have := HOK.out.1; simp [fok] at this; omega
      obtain ⟨e1, e2⟩ := u64_pos r (by omega) fit.r1
      have E1 := hide e1
      have E2 := hide e2
      clear e1 e2 hr1
      go_wp2_with fail
      rw [E1.out]
      refine (HH.out _ 4 _ (Fr.refl No w1) E2.out (by omega)).mono ?_
      rintro e w2 ⟨v2, rfl, ho2, f2⟩
      have HP := hide (GrowP.cons HFR.out ⟨v2, rfl, ho2, f2⟩)
      clear ho2 f2
      go_wp2
      go_ret
      rw [HE1.out]
      exact HP.out
    have h1' : (k == 1) = false := by simpa using h1
    have h2' : (k == 2) = false := by simpa using h2
    have h3' : (k == 3) = false := by simpa using h3
    have h4' : (k == 4) = false := by simpa using h4
    go_wp2
    go_ret
    rw [HE.out, if_neg h1, if_neg h2, if_neg h3, if_neg h4]
    exact GrowP.cons HFR.out ⟨_, rfl, by rw [List.append_nil]; exact HO3.out, Fr.refl _ _⟩

end Go.Proofs.Ytihjmipmjogpoaa

/- Texts joined: X3, P1, B2, P6, P11, Wo0. -/
import Derived.Test.YtlejelbefmkakaaGreatJn1
import Derived.Laws.IdiomRangeMap
import Derived.RangeFuncRecord
import Derived.MapKept
import Derived.Maps.RangeRun

namespace Go.Proofs.YtlejelbefmkakaaGreat
open Go.RowKit
theorem value_info : (Tryz.prog.info? 28).map (fun i => (i.zero, i.size, i.bytes)) = some (some (.agg #[.int .u8 0, .int .i64 0, .string ⟨#[]⟩, .slice none 0 0, .int .i64 0]), 5, 64) := by kernel_rfl

theorem run_make_rowN {P : Program} (t e : TypeId) (i : TypeInfo) (z : Value) (ht : P.underlying t = some (.slice e)) (hi : P.info? e = some i) (hz : i.zero = some z)
    (kl kc : IntKind) (n c : Nat) (hnc : n ≤ c) (hbytes : i.bytes * c ≤ 281474976710656) (h63 : c ≤ 9223372036854775807) (w : World) :
    (Instr.makeSlice t (.int kl (n : Int)) (.int kc (c : Int))).run P w = .ok (.slice (some ⟨w.heap.size, 0, none⟩) n c) (w.alloc (.cells (madeCells z.cells (c * i.size)) e)) := by
  have hb : (i.bytes : Int) * (c : Int) ≤ 281474976710656 := by
    have h : ((i.bytes * c : Nat) : Int) ≤ 281474976710656 := by omega
    rwa [Int.natCast_mul] at h
  have hr := run_make (P := P) w t e i z ht hi hz kl kc n c (by omega) (by omega) hb (by omega)
  simp only [Int.toNat_natCast] at hr
  exact hr

/-- A value of the same data in memory of its own, all of it new. -/
def OwnP (v : V) (w : World) (e : Ending) (w' : World) : Prop :=
  ∃ t' : T, e = .returned t'.val ∧ t'.v = v ∧ t'.Ow w' w.heap.size w'.heap.size ∧ Fr No w w'

/-- Where the loop of 'own' stands. -/
structure OwnInv (w : World) (X Z : Array Value) (l : List T) (j : Nat) (l' : List T) (wr : World) : Prop where
  len : l'.length = j
  vs : l'.map T.v = (l.take j).map T.v
  fr : Fr No w wr
  b0 : Blk wr w.heap.size 28 X
  b1 : Blk wr (w.heap.size + 1) 28 Z
  row : ∃ cs, Blk wr (w.heap.size + 1 + 1) 28 cs ∧ cs.size = l.length * 5 ∧ RowIs cs 0 l'
  forest : Forest wr (w.heap.size + 3) wr.heap.size l'
  big : w.heap.size + 3 ≤ wr.heap.size

set_option maxHeartbeats 1000000 in
theorem own_any (t : T) : ∀ (w : World) (lo hi : Nat), t.In w lo hi → hi ≤ w.heap.size → Calls Tryz.prog 198 #[t.val] w (OwnP t.v w) := by
  induction t using T.ind with
  | h k n s A cap l r ih =>
    intro w lo hi ht hh
    rw [T.val_mk]
    have fit := (T.in_mk.1 ht).1
    have hlen := fit.len1
    obtain ⟨i0, hi0, hz0, hz1, hz2⟩ := info_parts value_info
    have hmk := fun W => run_make_rowN (P := Tryz.prog) 26 28 i0 _ Tryz.underlying26 hi0 hz0 .i64 .i64 l.length l.length (Nat.le_refl _) (by rw [hz2]; omega) (by omega) W
    rw [hz1] at hmk
    clear hi0 hz0 hz1 hz2
    by_cases hl : l.length = 0
    · have hl0 : ((l.length : Int) == 0) = true := by simp [hl]
      obtain rfl : l = [] := List.eq_nil_of_length_eq_zero hl
      clear hmk
      go_enter Tryz.func198, Tryz.ntmps198
      go_wp2
      refine bodyPost_ret (v := .agg #[.int .u8 k, .int .i64 n, .string s, .slice none 0 0, .int .i64 r]) (by simp [results, Tryz.results198, go_sem]) rfl ?_
      refine ⟨T.mk k n s none 0 [] r, rfl, by simp [T.v_mk], T.ow_nil ⟨fit.k0, fit.k1, fit.n0, fit.n1, fit.s1, by simp, Nat.le_refl _, fit.r0, fit.r1⟩, ?_⟩
      exact ((Fr.refl No w).alloc _).alloc _
    · have hl0 : ((l.length : Int) == 0) = false := by simp; intro h; subst h; simp at hl
      have hl1 : (0 : Int) < (l.length : Int) := by omega
      go_enter Tryz.func198, Tryz.ntmps198
      go_wp2_with fail
      go_loopw [19] (fun i wr => ∃ (j : Nat) (l' : List T), j ≤ l.length ∧ i = .int .i64 j ∧
          OwnInv w #[.int .u8 k, .int .i64 n, .string s, .slice A l.length cap, .int .i64 r] #[.int .u8 0, .int .i64 0, .string ⟨#[]⟩, .slice none 0 0, .int .i64 0] l j l' wr)
        (fun i _ => l.length - (intOf i).toNat)
      case atStart =>
        refine ⟨0, [], Nat.zero_le _, rfl, rfl, by simp, (((Fr.refl No w).alloc _).alloc _).alloc _, ((Blk.new' w 28 _ rfl).alloc _).alloc _, (Blk.new' (w.alloc _) 28 _ (by simp)).alloc _,
          ⟨_, Blk.new' ((w.alloc _).alloc _) 28 _ (by simp), size_madeCells _ _, RowIs.nil _ _⟩, Forest.nil _ _ _, by simp⟩
      case round =>
        obtain ⟨j, l', hj, rfl, inv⟩ := hrel
        have fr := inv.fr
        have big := inv.big
        by_cases hlt : j < l.length
        · obtain ⟨b, o, k1, n1, s1, A1, cap1, l1, r1, rfl, hb0, hb1, hx, hin, e0, e1, e2, e3, e4⟩ := T.elem (ht.no fr hh) hlt
          have IH := ih l[j] (List.getElem_mem hlt)
          rw [hx] at IH
          have HX := hide hx
          have hle := Nat.le_of_lt hlt
          have HI := hide inv
          clear hx ih inv hmk
          go_wp2_with fail
          refine (IH _ lo hi (hin.no ((Fr.refl No wr).alloc _) (by omega)) (by simp; omega)).mono ?_
          rintro e w2 ⟨t', rfl, hv, ow, fr2⟩
          have HV := hide hv
          clear hv
          simp only [World.size_alloc] at ow
          cases t' with
          | mk k2 n2 s2 A2 cap2 l2 r2 =>
            rw [T.val_mk]
            obtain ⟨cs, hb, hcs, hrow⟩ := HI.out.row
            have blk2 := (hb.alloc (.cells #[.int .u8 k1, .int .i64 n1, .string s1, .slice A1 l1.length cap1, .int .i64 r1] 28)).fr fr2 (fun h => h)
            obtain ⟨y0, x0⟩ : ∃ y, w2.cell? ⟨w.heap.size + 1 + 1, j * 5, none⟩ = some y := ⟨cs[j * 5]'(by omega), by rw [blk2.cell]; exact Array.getElem?_eq_getElem _⟩
            obtain ⟨y1, x1⟩ : ∃ y, w2.cell? ⟨w.heap.size + 1 + 1, j * 5 + 1, none⟩ = some y := ⟨cs[j * 5 + 1]'(by omega), by rw [blk2.cell]; exact Array.getElem?_eq_getElem _⟩
            obtain ⟨y2, x2⟩ : ∃ y, w2.cell? ⟨w.heap.size + 1 + 1, j * 5 + 2, none⟩ = some y := ⟨cs[j * 5 + 2]'(by omega), by rw [blk2.cell]; exact Array.getElem?_eq_getElem _⟩
            obtain ⟨y3, x3⟩ : ∃ y, w2.cell? ⟨w.heap.size + 1 + 1, j * 5 + 3, none⟩ = some y := ⟨cs[j * 5 + 3]'(by omega), by rw [blk2.cell]; exact Array.getElem?_eq_getElem _⟩
            obtain ⟨y4, x4⟩ : ∃ y, w2.cell? ⟨w.heap.size + 1 + 1, j * 5 + 4, none⟩ = some y := ⟨cs[j * 5 + 4]'(by omega), by rw [blk2.cell]; exact Array.getElem?_eq_getElem _⟩
            have xf := blk2.frozen
            have HB := hide blk2
            have HR := hide hrow
            have HC := hide hcs
            have HO := hide ow
            clear blk2 hb hrow hcs ow
            go_wp2
            go_roundw
            case rel =>
              have inv := HI.out
              have hcs := HC.out
              have hsz2 := fr2.size
              simp only [World.size_alloc] at hsz2
              have hfar : ∀ {g : Nat} {X : Array Value}, g < w.heap.size + 2 → Blk wr g 28 X → Blk (((((w2.setCell ⟨w.heap.size + 1 + 1, j * 5, none⟩ (.int .u8 k2)).setCell ⟨w.heap.size + 1 + 1, j * 5 + 1, none⟩ (.int .i64 n2)).setCell ⟨w.heap.size + 1 + 1, j * 5 + 2, none⟩ (.string s2)).setCell
                  ⟨w.heap.size + 1 + 1, j * 5 + 3, none⟩ (.slice A2 l2.length cap2)).setCell ⟨w.heap.size + 1 + 1, j * 5 + 4, none⟩ (.int .i64 r2)) g 28 X := fun {g X} hg hX =>
                (((((((hX.alloc _).fr fr2 (fun h => h)).far (by simp; omega) _).far (by simp; omega) _).far (by simp; omega) _).far (by simp; omega) _).far (by simp; omega) _)
              have hst : Fr (· = w.heap.size + 1 + 1) w2 (((((w2.setCell ⟨w.heap.size + 1 + 1, j * 5, none⟩ (.int .u8 k2)).setCell ⟨w.heap.size + 1 + 1, j * 5 + 1, none⟩ (.int .i64 n2)).setCell ⟨w.heap.size + 1 + 1, j * 5 + 2, none⟩ (.string s2)).setCell
                  ⟨w.heap.size + 1 + 1, j * 5 + 3, none⟩ (.slice A2 l2.length cap2)).setCell ⟨w.heap.size + 1 + 1, j * 5 + 4, none⟩ (.int .i64 r2)) := (Fr.refl (fun i => i = w.heap.size + 1 + 1) w2).five (fun _ => rfl) _ _ _ _ _ _
              refine ⟨j + 1, l' ++ [T.mk k2 n2 s2 A2 cap2 l2 r2], hlt, by go_num, by simp [inv.len], ?_, ?_, hfar (by omega) inv.b0, hfar (by omega) inv.b1, ⟨_, HB.out.five _ _ _ _ _ _, ?_, ?_⟩, ?_, ?_⟩
              · rw [List.map_append, inv.vs, List.take_succ_eq_append_getElem hlt, List.map_append, List.map_singleton, List.map_singleton, HV.out, HX.out]
              · exact (((fr.alloc _).thenNo fr2).five (by omega) _ _ _ _ _ _)
              · simpa using hcs
              · have := HR.out.five (k := k2) (n := n2) (s := s2) (A := A2) (cap := cap2) (l1 := l2) (r := r2) (by rw [inv.len, hcs]; omega)
                simpa [inv.len] using this
              · have h1 : Forest w2 (w.heap.size + 3) (wr.heap.size + 1) l' := ((inv.forest.no ((Fr.refl No wr).alloc _) (Nat.le_refl _)).no fr2 (by simp)).more (Nat.le_refl _) (by omega)
                have h2 := h1.snoc HO.out (by omega) hsz2
                simpa using h2.fr hst (Nat.le_refl _) (fun i hi _ e => by omega)
              · simp; omega
            case measure => simp [intOf]; omega
        · obtain rfl : l.length = j := by omega
          have c0 : wr.cell? ⟨w.heap.size, 0, none⟩ = some (.int .u8 k) := inv.b0.cell 0
          have c1 : wr.cell? ⟨w.heap.size, 1, none⟩ = some (.int .i64 n) := inv.b0.cell 1
          have c2 : wr.cell? ⟨w.heap.size, 2, none⟩ = some (.string s) := inv.b0.cell 2
          have c3 : wr.cell? ⟨w.heap.size, 3, none⟩ = some (.slice A l.length cap) := inv.b0.cell 3
          have c4 : wr.cell? ⟨w.heap.size, 4, none⟩ = some (.int .i64 r) := inv.b0.cell 4
          have cf := inv.b0.frozen 3
          have d0 : wr.cell? ⟨w.heap.size + 1, 0, none⟩ = some (.int .u8 0) := inv.b1.cell 0
          have d1 : wr.cell? ⟨w.heap.size + 1, 1, none⟩ = some (.int .i64 0) := inv.b1.cell 1
          have d2 : wr.cell? ⟨w.heap.size + 1, 2, none⟩ = some (.string ⟨#[]⟩) := inv.b1.cell 2
          have d3 : wr.cell? ⟨w.heap.size + 1, 3, none⟩ = some (.slice none 0 0) := inv.b1.cell 3
          have d4 : wr.cell? ⟨w.heap.size + 1, 4, none⟩ = some (.int .i64 0) := inv.b1.cell 4
          have df := inv.b1.frozen
          have HI := hide inv
          clear inv hmk ih
          go_wp2
          have inv := HI.out
          refine bodyPost_ret (v := .agg #[.int .u8 k, .int .i64 n, .string s, .slice (some ⟨w.heap.size + 1 + 1, 0, none⟩) l.length l.length, .int .i64 r]) (by simp [results, Tryz.results198, go_sem, *]) rfl ?_
          generalize hW : World.setCell _ _ _ = W
          have hfr : Fr (fun i => i = w.heap.size ∨ i = w.heap.size + 1) wr W := by
            rw [← hW]
            repeat (first | with_reducible exact Fr.refl _ wr | with_reducible refine Fr.set ?_ (by simp) _)
          obtain ⟨cs, hb, hcs, hrow⟩ := inv.row
          have hl' := inv.len
          have hb' : Blk W (w.heap.size + 1 + 1) 28 cs := hb.fr hfr (by omega)
          have hF : Forest W (w.heap.size + 3) wr.heap.size l' := inv.forest.fr hfr (Nat.le_refl _) (fun i h0 h1 h2 => by omega)
          have hsz := hfr.size
          refine ⟨T.mk k n s (some ⟨w.heap.size + 1 + 1, 0, none⟩) l.length l' r, by rw [T.val_mk, hl'], ?_, ?_, inv.fr.trans' hfr (fun i hi h => by omega)⟩
          · rw [T.v_mk, T.v_mk, inv.vs, List.take_of_length_le (Nat.le_refl _)]
          · refine T.ow_mk ⟨fit.k0, fit.k1, fit.n0, fit.n1, fit.s1, by omega, by omega, fit.r0, fit.r1⟩ (hF.more (by omega) hsz) hb' hrow (by omega) (by omega) (fun hm => ?_)
            have := hF.blocks _ hm
            omega
end Go.Proofs.YtlejelbefmkakaaGreat

/- Chapter 2: a value whose lists lie in rows of their own; value.own's are such. -/
namespace Go.Proofs.YtlejelbefmkakaaGreat
open Go.RowKit

/-- Each list of a tree lies in a row of its own, alone; where there is none, nothing is kept. -/
def T.Sp (w : World) (lo hi : Nat) : T → Prop
  | .mk k n s A cap l r => Fit k n s l.length cap r ∧ (l = [] → A = none ∧ cap = 0) ∧ (l ≠ [] → w.ownsRow lo 28 5 (.slice A l.length cap) l.length (rowCells l) ∧ ∃ g, A = some ⟨g, 0, none⟩ ∧ g < hi) ∧ ∀ x ∈ l, T.Sp w lo hi x
termination_by t => t

theorem T.sp_mk {w : World} {lo hi : Nat} {k n : Int} {s : ByteArray} {A : Option Addr} {cap : Nat} {l : List T} {r : Int} :
    (T.mk k n s A cap l r).Sp w lo hi ↔ Fit k n s l.length cap r ∧ (l = [] → A = none ∧ cap = 0) ∧ (l ≠ [] → w.ownsRow lo 28 5 (.slice A l.length cap) l.length (rowCells l) ∧ ∃ g, A = some ⟨g, 0, none⟩ ∧ g < hi) ∧ ∀ x ∈ l, x.Sp w lo hi := by
  rw [T.Sp]

theorem owns_mono {w : World} {base base' : Nat} {e : TypeId} {size : Nat} {v : Value} {n : Nat} {xs : List Value} (h : w.ownsRow base e size v n xs) (hb : base' ≤ base) : w.ownsRow base' e size v n xs := by
  refine ⟨h.1, ?_⟩
  rcases h.2 with h | ⟨g, cap, cur, h1, h2, h3⟩
  · exact .inl h
  · exact .inr ⟨g, cap, cur, h1, by omega, h3⟩

theorem T.Sp.inn {w : World} {lo hi : Nat} (t : T) : t.Sp w lo hi → t.In w lo hi := by
  induction t using T.ind with
  | h k n s A cap l r ih =>
    rw [T.sp_mk, T.in_mk]
    rintro ⟨h1, _, h3, h4⟩
    refine ⟨h1, fun hl => ?_, fun x hx => ih x hx (h4 x hx)⟩
    obtain ⟨ho, g, rfl, hg⟩ := h3 hl
    have hb := owns_lt ho g rfl
    refine ⟨g, 0, rfl, hb.1, hg, fun i x hx j u hu => ?_⟩
    have := World.ownsRow.cells ho (g := g) rfl _ _ (rowCells_get l i j x u hx hu)
    rw [add_at, ← Nat.add_assoc] at this
    exact this

theorem T.Sp.fr {S : Nat → Prop} {w w' : World} {lo hi : Nat} (hf : Fr S w w') (t : T) : (∀ b ∈ t.blocks, ¬ S b) → t.Sp w lo hi → t.Sp w' lo hi := by
  induction t using T.ind with
  | h k n s A cap l r ih =>
    intro hs
    rw [T.blocks_mk] at hs
    rw [T.sp_mk, T.sp_mk]
    rintro ⟨h1, h2, h3, h4⟩
    refine ⟨h1, h2, fun hl => ?_, fun x hx => ih x hx (fun b hb => hs b (List.mem_append_right _ (List.mem_flatten.2 ⟨_, List.mem_map_of_mem hx, hb⟩))) (h4 x hx)⟩
    obtain ⟨ho, g, rfl, hg⟩ := h3 hl
    refine ⟨owns_fr ho hf (fun g' hg' => ?_), g, rfl, hg⟩
    simp [Value.ownBlock] at hg'
    subst hg'
    refine hs g (List.mem_append_left _ ?_)
    cases l with
    | nil => exact absurd rfl hl
    | cons x l => simp

theorem T.Sp.more {w : World} {lo hi lo' hi' : Nat} (hl : lo' ≤ lo) (hh : hi ≤ hi') (t : T) : t.Sp w lo hi → t.Sp w lo' hi' := by
  induction t using T.ind with
  | h k n s A cap l r ih =>
    rw [T.sp_mk, T.sp_mk]
    rintro ⟨h1, h2, h3, h4⟩
    refine ⟨h1, h2, fun hl' => ?_, fun x hx => ih x hx (h4 x hx)⟩
    obtain ⟨ho, g, hA, hg⟩ := h3 hl'
    exact ⟨owns_mono ho hl, g, hA, by omega⟩

/-- .. and no two of them lie in one. -/
structure T.Sh (w : World) (lo hi : Nat) (t : T) : Prop where
  sp : t.Sp w lo hi
  nodup : t.blocks.Nodup

theorem T.Sh.inn {w : World} {lo hi : Nat} {t : T} (h : t.Sh w lo hi) : t.In w lo hi := T.Sp.inn t h.sp
theorem T.Sh.fr {S : Nat → Prop} {w w' : World} {lo hi : Nat} {t : T} (h : t.Sh w lo hi) (hf : Fr S w w') (hs : ∀ b ∈ t.blocks, ¬ S b) : t.Sh w' lo hi := ⟨T.Sp.fr hf t hs h.sp, h.nodup⟩
theorem T.Sh.fr' {S : Nat → Prop} {w w' : World} {lo hi : Nat} {t : T} (h : t.Sh w lo hi) (hf : Fr S w w') (hs : ∀ i, lo ≤ i → i < hi → ¬ S i) : t.Sh w' lo hi :=
  h.fr hf fun b hb => hs b (T.In.blocks t h.inn b hb).1 (T.In.blocks t h.inn b hb).2
theorem T.Sh.no {w w' : World} {lo hi : Nat} {t : T} (h : t.Sh w lo hi) (hf : Fr No w w') : t.Sh w' lo hi := h.fr hf fun _ _ h => h
theorem T.Sh.more {w : World} {lo hi lo' hi' : Nat} {t : T} (h : t.Sh w lo hi) (hl : lo' ≤ lo) (hh : hi ≤ hi') : t.Sh w lo' hi' := ⟨T.Sp.more hl hh t h.sp, h.nodup⟩

theorem T.sh_leaf {w : World} {lo hi : Nat} {k n : Int} {s : ByteArray} {r : Int} (h : Fit k n s 0 0 r) : (T.mk k n s none 0 [] r).Sh w lo hi :=
  ⟨T.sp_mk.2 ⟨h, fun _ => ⟨rfl, rfl⟩, fun h => absurd rfl h, by simp⟩, by rw [T.blocks_mk]; simp⟩

theorem row_list {cs : Array Value} {l : List T} (hs : cs.size = l.length * 5) (hr : RowIs cs 0 l) : cs.toList = rowCells l := by
  refine List.ext_getElem (by rw [Array.length_toList, rowCells_length, hs]) fun i h1 h2 => ?_
  rw [Array.length_toList] at h1
  have hi : i / 5 < l.length := by omega
  have hx : l[i / 5]? = some l[i / 5] := List.getElem?_eq_getElem hi
  have hc : i % 5 < l[i / 5].cells.length := by rw [T.cells_length]; omega
  have hu : l[i / 5].cells[i % 5]? = some l[i / 5].cells[i % 5] := List.getElem?_eq_getElem hc
  have e1 := hr (i / 5) _ hx (i % 5) _ hu
  have e2 := rowCells_get l (i / 5) (i % 5) _ _ hx hu
  have e3 : i / 5 * 5 + i % 5 = i := by omega
  rw [Nat.zero_add, e3] at e1
  rw [e3] at e2
  rw [List.getElem?_eq_getElem h2] at e2
  rw [Array.getElem?_eq_getElem h1] at e1
  rw [Array.getElem_toList]
  exact (Option.some.inj e1).trans (Option.some.inj e2).symm

/-- A row of so many values in a block known whole is its own. -/
theorem owns_blk {w : World} {g lo : Nat} {cs : Array Value} {l : List T} (h : Blk w g 28 cs) (hs : cs.size = l.length * 5) (hr : RowIs cs 0 l) (h0 : lo ≤ g) (hm : l.length ≤ maxLen) : w.ownsRow lo 28 5 (.slice (some ⟨g, 0, none⟩) l.length l.length) l.length (rowCells l) :=
  ⟨rowCells_length l, .inr ⟨g, l.length, cs, rfl, h0, h, Nat.le_refl _, hm, hs, by rw [row_list hs hr, List.take_of_length_le (by rw [rowCells_length]; omega)]⟩⟩

/-- A value of the same data in memory of its own. -/
def OwnP2 (v : V) (w : World) (e : Ending) (w' : World) : Prop :=
  ∃ t' : T, e = .returned t'.val ∧ t'.v = v ∧ t'.Sh w' w.heap.size w'.heap.size ∧ Fr No w w'

/-- Rows of one's own are no frozen ones. -/
theorem T.Sp.free {w : World} {lo hi : Nat} (t : T) : t.Sp w lo hi → ∀ b ∈ t.blocks, ∀ o, w.frozen? ⟨b, o, none⟩ = false := by
  induction t using T.ind with
  | h k n s A cap l r ih =>
    rw [T.sp_mk, T.blocks_mk]
    rintro ⟨h1, _, h3, h4⟩ b hb o
    rcases List.mem_append.1 hb with hb | hb
    · cases l with
      | nil => simp at hb
      | cons x l =>
        obtain ⟨ho, g, rfl, hg⟩ := h3 (by simp)
        simp at hb
        subst hb
        rcases ho.2 with ⟨h, _⟩ | ⟨g, cap, cur, h, _, hh, _⟩
        · cases h
        · simp at h
          obtain ⟨rfl, -⟩ := h
          exact Blk.frozen hh o
    · obtain ⟨bs, hbs, hb⟩ := List.mem_flatten.1 hb
      obtain ⟨x, hx, rfl⟩ := List.mem_map.1 hbs
      exact ih x hx (h4 x hx) b hb o

theorem T.Sh.ow {w : World} {lo hi : Nat} {t : T} (h : t.Sh w lo hi) : t.Ow w lo hi := ⟨h.inn, h.nodup, T.Sp.free t h.sp⟩

/-- Where the loop of 'own' stands. -/
structure OwnInv2 (w : World) (X Z : Array Value) (l : List T) (j : Nat) (l' : List T) (wr : World) : Prop where
  len : l'.length = j
  vs : l'.map T.v = (l.take j).map T.v
  fr : Fr No w wr
  b0 : Blk wr w.heap.size 28 X
  b1 : Blk wr (w.heap.size + 1) 28 Z
  row : ∃ cs, Blk wr (w.heap.size + 1 + 1) 28 cs ∧ cs.size = l.length * 5 ∧ RowIs cs 0 l'
  forest : Forest wr (w.heap.size + 3) wr.heap.size l'
  big : w.heap.size + 3 ≤ wr.heap.size
  sp : ∀ x ∈ l', x.Sp wr (w.heap.size + 3) wr.heap.size

set_option maxHeartbeats 4000000 in
theorem own2_any (t : T) : ∀ (w : World) (lo hi : Nat), t.In w lo hi → hi ≤ w.heap.size → Calls Tryz.prog 198 #[t.val] w (OwnP2 t.v w) := by
  induction t using T.ind with
  | h k n s A cap l r ih =>
    intro w lo hi ht hh
    rw [T.val_mk]
    have fit := (T.in_mk.1 ht).1
    have hlen := fit.len1
    obtain ⟨i0, hi0, hz0, hz1, hz2⟩ := info_parts value_info
    have hmk := fun W => run_make_rowN (P := Tryz.prog) 26 28 i0 _ Tryz.underlying26 hi0 hz0 .i64 .i64 l.length l.length (Nat.le_refl _) (by rw [hz2]; omega) (by omega) W
    rw [hz1] at hmk
    clear hi0 hz0 hz1 hz2
    by_cases hl : l.length = 0
    · have hl0 : ((l.length : Int) == 0) = true := by simp [hl]
      obtain rfl : l = [] := List.eq_nil_of_length_eq_zero hl
      clear hmk
      go_enter Tryz.func198, Tryz.ntmps198
      go_wp2
      refine bodyPost_ret (v := .agg #[.int .u8 k, .int .i64 n, .string s, .slice none 0 0, .int .i64 r]) (by simp [results, Tryz.results198, go_sem]) rfl ?_
      refine ⟨T.mk k n s none 0 [] r, rfl, by simp [T.v_mk], T.sh_leaf ⟨fit.k0, fit.k1, fit.n0, fit.n1, fit.s1, by simp, Nat.le_refl _, fit.r0, fit.r1⟩, ?_⟩
      exact ((Fr.refl No w).alloc _).alloc _
    · have hl0 : ((l.length : Int) == 0) = false := by simp; intro h; subst h; simp at hl
      have hl1 : (0 : Int) < (l.length : Int) := by omega
      go_enter Tryz.func198, Tryz.ntmps198
      go_wp2_with fail
      go_loopw [19] (fun i wr => ∃ (j : Nat) (l' : List T), j ≤ l.length ∧ i = .int .i64 j ∧
          OwnInv2 w #[.int .u8 k, .int .i64 n, .string s, .slice A l.length cap, .int .i64 r] #[.int .u8 0, .int .i64 0, .string ⟨#[]⟩, .slice none 0 0, .int .i64 0] l j l' wr)
        (fun i _ => l.length - (intOf i).toNat)
      case atStart =>
        refine ⟨0, [], Nat.zero_le _, rfl, rfl, by simp, (((Fr.refl No w).alloc _).alloc _).alloc _, ((Blk.new' w 28 _ rfl).alloc _).alloc _, (Blk.new' (w.alloc _) 28 _ (by simp)).alloc _,
          ⟨_, Blk.new' ((w.alloc _).alloc _) 28 _ (by simp), size_madeCells _ _, RowIs.nil _ _⟩, Forest.nil _ _ _, by simp, by simp⟩
      case round =>
        obtain ⟨j, l', hj, rfl, inv⟩ := hrel
        have fr := inv.fr
        have big := inv.big
        by_cases hlt : j < l.length
        · obtain ⟨b, o, k1, n1, s1, A1, cap1, l1, r1, rfl, hb0, hb1, hx, hin, e0, e1, e2, e3, e4⟩ := T.elem (ht.no fr hh) hlt
          have IH := ih l[j] (List.getElem_mem hlt)
          rw [hx] at IH
          have HX := hide hx
          have hle := Nat.le_of_lt hlt
          have HI := hide inv
          clear hx ih inv hmk
          go_wp2_with fail
          refine (IH _ lo hi (hin.no ((Fr.refl No wr).alloc _) (by omega)) (by simp; omega)).mono ?_
          rintro e w2 ⟨t', rfl, hv, sh, fr2⟩
          have HV := hide hv
          clear hv
          simp only [World.size_alloc] at sh
          have ow := sh.ow
          cases t' with
          | mk k2 n2 s2 A2 cap2 l2 r2 =>
            rw [T.val_mk]
            obtain ⟨cs, hb, hcs, hrow⟩ := HI.out.row
            have blk2 := (hb.alloc (.cells #[.int .u8 k1, .int .i64 n1, .string s1, .slice A1 l1.length cap1, .int .i64 r1] 28)).fr fr2 (fun h => h)
            obtain ⟨y0, x0⟩ : ∃ y, w2.cell? ⟨w.heap.size + 1 + 1, j * 5, none⟩ = some y := ⟨cs[j * 5]'(by omega), by rw [blk2.cell]; exact Array.getElem?_eq_getElem _⟩
            obtain ⟨y1, x1⟩ : ∃ y, w2.cell? ⟨w.heap.size + 1 + 1, j * 5 + 1, none⟩ = some y := ⟨cs[j * 5 + 1]'(by omega), by rw [blk2.cell]; exact Array.getElem?_eq_getElem _⟩
            obtain ⟨y2, x2⟩ : ∃ y, w2.cell? ⟨w.heap.size + 1 + 1, j * 5 + 2, none⟩ = some y := ⟨cs[j * 5 + 2]'(by omega), by rw [blk2.cell]; exact Array.getElem?_eq_getElem _⟩
            obtain ⟨y3, x3⟩ : ∃ y, w2.cell? ⟨w.heap.size + 1 + 1, j * 5 + 3, none⟩ = some y := ⟨cs[j * 5 + 3]'(by omega), by rw [blk2.cell]; exact Array.getElem?_eq_getElem _⟩
            obtain ⟨y4, x4⟩ : ∃ y, w2.cell? ⟨w.heap.size + 1 + 1, j * 5 + 4, none⟩ = some y := ⟨cs[j * 5 + 4]'(by omega), by rw [blk2.cell]; exact Array.getElem?_eq_getElem _⟩
            have xf := blk2.frozen
            have HB := hide blk2
            have HR := hide hrow
            have HC := hide hcs
            have HO := hide ow
            have HSH := hide sh
            clear sh
            clear blk2 hb hrow hcs ow
            go_wp2
            go_roundw
            case rel =>
              have inv := HI.out
              have hcs := HC.out
              have hsz2 := fr2.size
              simp only [World.size_alloc] at hsz2
              have hfar : ∀ {g : Nat} {X : Array Value}, g < w.heap.size + 2 → Blk wr g 28 X → Blk (((((w2.setCell ⟨w.heap.size + 1 + 1, j * 5, none⟩ (.int .u8 k2)).setCell ⟨w.heap.size + 1 + 1, j * 5 + 1, none⟩ (.int .i64 n2)).setCell ⟨w.heap.size + 1 + 1, j * 5 + 2, none⟩ (.string s2)).setCell
                  ⟨w.heap.size + 1 + 1, j * 5 + 3, none⟩ (.slice A2 l2.length cap2)).setCell ⟨w.heap.size + 1 + 1, j * 5 + 4, none⟩ (.int .i64 r2)) g 28 X := fun {g X} hg hX =>
                (((((((hX.alloc _).fr fr2 (fun h => h)).far (by simp; omega) _).far (by simp; omega) _).far (by simp; omega) _).far (by simp; omega) _).far (by simp; omega) _)
              have hst : Fr (· = w.heap.size + 1 + 1) w2 (((((w2.setCell ⟨w.heap.size + 1 + 1, j * 5, none⟩ (.int .u8 k2)).setCell ⟨w.heap.size + 1 + 1, j * 5 + 1, none⟩ (.int .i64 n2)).setCell ⟨w.heap.size + 1 + 1, j * 5 + 2, none⟩ (.string s2)).setCell
                  ⟨w.heap.size + 1 + 1, j * 5 + 3, none⟩ (.slice A2 l2.length cap2)).setCell ⟨w.heap.size + 1 + 1, j * 5 + 4, none⟩ (.int .i64 r2)) := (Fr.refl (fun i => i = w.heap.size + 1 + 1) w2).five (fun _ => rfl) _ _ _ _ _ _
              refine ⟨j + 1, l' ++ [T.mk k2 n2 s2 A2 cap2 l2 r2], hlt, by go_num, by simp [inv.len], ?_, ?_, hfar (by omega) inv.b0, hfar (by omega) inv.b1, ⟨_, HB.out.five _ _ _ _ _ _, ?_, ?_⟩, ?_, ?_, ?_⟩
              · rw [List.map_append, inv.vs, List.take_succ_eq_append_getElem hlt, List.map_append, List.map_singleton, List.map_singleton, HV.out, HX.out]
              · exact (((fr.alloc _).thenNo fr2).five (by omega) _ _ _ _ _ _)
              · simpa using hcs
              · have := HR.out.five (k := k2) (n := n2) (s := s2) (A := A2) (cap := cap2) (l1 := l2) (r := r2) (by rw [inv.len, hcs]; omega)
                simpa [inv.len] using this
              · have h1 : Forest w2 (w.heap.size + 3) (wr.heap.size + 1) l' := ((inv.forest.no ((Fr.refl No wr).alloc _) (Nat.le_refl _)).no fr2 (by simp)).more (Nat.le_refl _) (by omega)
                have h2 := h1.snoc HO.out (by omega) hsz2
                simpa using h2.fr hst (Nat.le_refl _) (fun i hi _ e => by omega)
              · simp; omega
              · intro x hx
                have hbl : ∀ (y : T) (lo hi : Nat), y.In w2 lo hi → w.heap.size + 3 ≤ lo → ∀ b ∈ y.blocks, ¬ b = w.heap.size + 1 + 1 := fun y lo hi hy hl b hb e => by
                  have := T.In.blocks y hy b hb; omega
                rcases List.mem_append.1 hx with hx | hx
                · have h1 := inv.sp x hx
                  have h2 := T.Sp.fr fr2 x (fun _ _ h => h) (T.Sp.fr ((Fr.refl No wr).alloc (.cells #[.int .u8 k1, .int .i64 n1, .string s1, .slice A1 l1.length cap1, .int .i64 r1] 28)) x (fun _ _ h => h) h1)
                  have h3 := T.Sp.fr hst x (hbl x _ _ (T.Sp.inn x h2) (Nat.le_refl _)) h2
                  exact T.Sp.more (Nat.le_refl _) (by simp; omega) x h3
                · simp at hx; subst hx
                  have h3 := T.Sp.fr hst _ (hbl _ _ _ HSH.out.inn (by omega)) HSH.out.sp
                  exact T.Sp.more (by omega) (by simp) _ h3
            case measure => simp [intOf]; omega
        · obtain rfl : l.length = j := by omega
          have c0 : wr.cell? ⟨w.heap.size, 0, none⟩ = some (.int .u8 k) := inv.b0.cell 0
          have c1 : wr.cell? ⟨w.heap.size, 1, none⟩ = some (.int .i64 n) := inv.b0.cell 1
          have c2 : wr.cell? ⟨w.heap.size, 2, none⟩ = some (.string s) := inv.b0.cell 2
          have c3 : wr.cell? ⟨w.heap.size, 3, none⟩ = some (.slice A l.length cap) := inv.b0.cell 3
          have c4 : wr.cell? ⟨w.heap.size, 4, none⟩ = some (.int .i64 r) := inv.b0.cell 4
          have cf := inv.b0.frozen 3
          have d0 : wr.cell? ⟨w.heap.size + 1, 0, none⟩ = some (.int .u8 0) := inv.b1.cell 0
          have d1 : wr.cell? ⟨w.heap.size + 1, 1, none⟩ = some (.int .i64 0) := inv.b1.cell 1
          have d2 : wr.cell? ⟨w.heap.size + 1, 2, none⟩ = some (.string ⟨#[]⟩) := inv.b1.cell 2
          have d3 : wr.cell? ⟨w.heap.size + 1, 3, none⟩ = some (.slice none 0 0) := inv.b1.cell 3
          have d4 : wr.cell? ⟨w.heap.size + 1, 4, none⟩ = some (.int .i64 0) := inv.b1.cell 4
          have df := inv.b1.frozen
          have HI := hide inv
          clear inv hmk ih
          go_wp2
          have inv := HI.out
          refine bodyPost_ret (v := .agg #[.int .u8 k, .int .i64 n, .string s, .slice (some ⟨w.heap.size + 1 + 1, 0, none⟩) l.length l.length, .int .i64 r]) (by simp [results, Tryz.results198, go_sem, *]) rfl ?_
          generalize hW : World.setCell _ _ _ = W
          have hfr : Fr (fun i => i = w.heap.size ∨ i = w.heap.size + 1) wr W := by
            rw [← hW]
            repeat (first | with_reducible exact Fr.refl _ wr | with_reducible refine Fr.set ?_ (by simp) _)
          obtain ⟨cs, hb, hcs, hrow⟩ := inv.row
          have hl' := inv.len
          have hb' : Blk W (w.heap.size + 1 + 1) 28 cs := hb.fr hfr (by omega)
          have hF : Forest W (w.heap.size + 3) wr.heap.size l' := inv.forest.fr hfr (Nat.le_refl _) (fun i h0 h1 h2 => by omega)
          have hsz := hfr.size
          refine ⟨T.mk k n s (some ⟨w.heap.size + 1 + 1, 0, none⟩) l.length l' r, by rw [T.val_mk, hl'], ?_, ?_, inv.fr.trans' hfr (fun i hi h => by omega)⟩
          · rw [T.v_mk, T.v_mk, inv.vs, List.take_of_length_le (Nat.le_refl _)]
          · have how : (T.mk k n s (some ⟨w.heap.size + 1 + 1, 0, none⟩) l.length l' r).Ow W w.heap.size W.heap.size := by
             refine T.ow_mk ⟨fit.k0, fit.k1, fit.n0, fit.n1, fit.s1, by omega, by omega, fit.r0, fit.r1⟩ (hF.more (by omega) hsz) hb' hrow (by omega) (by omega) (fun hm => ?_)
             have := hF.blocks _ hm
             omega
            refine ⟨T.sp_mk.2 ⟨(T.in_mk.1 how.inn).1, fun h => by subst h; simp at hl'; omega, fun _ => ⟨?_, _, rfl, by omega⟩, fun x hx => ?_⟩, how.nodup⟩
            · have := owns_blk (lo := w.heap.size) hb' (by rw [hcs, hl']) hrow (by omega) (by rw [hl']; unfold maxLen; omega)
              rwa [hl'] at this ⊢
            · have h1 := inv.sp x hx
              have h2 := T.Sp.fr hfr x (fun b hb h => by
                have := T.In.blocks x (T.Sp.inn x h1) b hb
                have h' : b = w.heap.size ∨ b = w.heap.size + 1 := h
                omega) h1
              exact T.Sp.more (by omega) hsz x h2

end Go.Proofs.YtlejelbefmkakaaGreat

/- value.Own and brand.own: a value in memory of its own. -/
namespace Go.Proofs.YtlejelbefmkakaaGreat
open Go.RowKit

/-- The zero value. -/
def T.zero : T := .mk 0 0 ⟨#[]⟩ none 0 [] 0
def V.zero : V := .mk 0 0 ⟨#[]⟩ [] 0
theorem T.zero_v : T.zero.v = V.zero := by simp [T.zero, T.v_mk, V.zero]
theorem T.zero_ow (w : World) (lo hi : Nat) : T.zero.Ow w lo hi := T.ow_nil ⟨by decide, by decide, by decide, by decide, by decide, by decide, by decide, by decide, by decide⟩
theorem T.zero_val : T.zero.val = .agg #[.int .u8 0, .int .i64 0, .string ⟨#[]⟩, .slice none 0 0, .int .i64 0] := rfl

/-- A value in new memory, and an error's number. -/
def OwnE (v : V) (n : Int) (w : World) (e : Ending) (w' : World) : Prop :=
  ∃ t' : T, e = .returned (.tuple #[t'.val, .int .i64 n]) ∧ t'.v = v ∧ t'.Ow w' w.heap.size w'.heap.size ∧ Fr No w w'

set_option maxHeartbeats 1000000 in
theorem Own_any (t : T) (w : World) (lo hi : Nat) (ht : t.In w lo hi) (hh : hi ≤ w.heap.size) :
    Calls Tryz.prog 146 #[t.val] w (OwnE (if t.v.may = true then t.v else V.zero) (if t.v.may = true then 0 else 2) w) := by
  have hM := fun w' h h' => may_any t w' lo hi h h'
  have hO := fun w' h h' => own_any t w' lo hi h h'
  cases t with
  | mk k n s A cap l r =>
    rw [T.val_mk] at *
    cases hm : (T.mk k n s A cap l r).v.may
    · rw [hm] at hM
      go_enter Tryz.func146, Tryz.ntmps146
      go_wp2_with fail
      refine (hM _ (ht.no (((Fr.refl No w).alloc _).alloc _) hh) (by simp; omega)).mono ?_
      rintro e w2 ⟨rfl, fr2⟩
      have hsz := fr2.size
      simp only [World.size_alloc] at hsz
      have hs0 : w.heap.size + 1 < w2.heap.size := by omega
      have b1 := (Blk.new' (w.alloc (.cells #[.int .u8 k, .int .i64 n, .string s, .slice A l.length cap, .int .i64 r] 28)) 28 #[.int .u8 0, .int .i64 0, .string ⟨#[]⟩, .slice none 0 0, .int .i64 0] (g := w.heap.size + 1) (by simp)).fr fr2 (fun h => h)
      obtain ⟨d0, d1, d2, d3, d4, df⟩ := b1.cells5
      have hF2 : Fr No w w2 := (((Fr.refl No w).alloc _).alloc _).trans fr2
      have HF := hide hF2
      clear b1 hO hF2
      go_wp2
      refine bodyPost_ret (v := .tuple #[.agg #[.int .u8 0, .int .i64 0, .string ⟨#[]⟩, .slice none 0 0, .int .i64 0], .int .i64 2]) (by simp [results, Tryz.results146, go_sem, *]) rfl ?_
      have hF2 := HF.out
      exact ⟨T.zero, rfl, T.zero_v, T.zero_ow _ _ _, (by repeat (first | with_reducible exact hF2 | with_reducible refine Fr.setNew ?_ (by simp) _ | with_reducible refine Fr.alloc ?_ _))⟩
    · rw [hm] at hM
      go_enter Tryz.func146, Tryz.ntmps146
      go_wp2_with fail
      refine (hM _ (ht.no (((Fr.refl No w).alloc _).alloc _) hh) (by simp; omega)).mono ?_
      rintro e w2 ⟨rfl, fr2⟩
      have hsz := fr2.size
      simp only [World.size_alloc] at hsz
      have hs0 : w.heap.size + 1 < w2.heap.size := by omega
      have b0 := ((Blk.new' w 28 #[.int .u8 k, .int .i64 n, .string s, .slice A l.length cap, .int .i64 r] (g := w.heap.size) rfl).alloc (.cells #[.int .u8 0, .int .i64 0, .string ⟨#[]⟩, .slice none 0 0, .int .i64 0] 28)).fr fr2 (fun h => h)
      have b1 := (Blk.new' (w.alloc (.cells #[.int .u8 k, .int .i64 n, .string s, .slice A l.length cap, .int .i64 r] 28)) 28 #[.int .u8 0, .int .i64 0, .string ⟨#[]⟩, .slice none 0 0, .int .i64 0] (g := w.heap.size + 1) (by simp)).fr fr2 (fun h => h)
      obtain ⟨c0, c1, c2, c3, c4, cf⟩ := b0.cells5
      obtain ⟨d0, d1, d2, d3, d4, df⟩ := b1.cells5
      have hF2 : Fr No w w2 := (((Fr.refl No w).alloc _).alloc _).trans fr2
      have HT := hide (ht.no hF2 hh)
      clear ht
      have HF := hide hF2
      have HB := hide b1
      clear b1 b0 hF2
      go_wp2_with fail
      refine (hO _ HT.out (by omega)).mono ?_
      rintro e w3 ⟨t', rfl, hv, ow, fr3⟩
      have b1 := HB.out.fr fr3 (fun h => h)
      obtain ⟨d0, d1, d2, d3, d4, df⟩ := b1.cells5
      have hF2 := HF.out.trans fr3
      have HF2 := hide hF2
      have HV := hide hv
      have HO := hide ow
      have hsz3 := fr3.size
      clear hv ow hF2 b1
      cases t' with
      | mk k2 n2 s2 A2 cap2 l2 r2 =>
        rw [T.val_mk]
        go_wp2
        refine bodyPost_ret (v := .tuple #[.agg #[.int .u8 k2, .int .i64 n2, .string s2, .slice A2 l2.length cap2, .int .i64 r2], .int .i64 0]) (by simp [results, Tryz.results146, go_sem, *]) rfl ?_
        have hF2 := HF2.out
        refine ⟨T.mk k2 n2 s2 A2 cap2 l2 r2, rfl, HV.out, ?_, (by repeat (first | with_reducible exact hF2 | with_reducible refine Fr.setNew ?_ (by simp) _ | with_reducible refine Fr.alloc ?_ _))⟩
        refine (HO.out.fr (S := (· = w.heap.size + 1)) ?_ (Nat.le_refl _) (fun i h0 h1 h2 => by omega)).more (by omega) (by simp)
        repeat (first | with_reducible exact Fr.refl _ w3 | with_reducible refine Fr.set ?_ (by simp) _)

end Go.Proofs.YtlejelbefmkakaaGreat

/- Chapter 2: Own, At: their answers lie in rows of their own. -/
namespace Go.Proofs.YtlejelbefmkakaaGreat
open Go.RowKit

theorem T.zero_sh (w : World) (lo hi : Nat) : T.zero.Sh w lo hi := T.sh_leaf ⟨by decide, by decide, by decide, by decide, by decide, by decide, by decide, by decide, by decide⟩

def OwnE2 (v : V) (n : Int) (w : World) (e : Ending) (w' : World) : Prop :=
  ∃ t' : T, e = .returned (.tuple #[t'.val, .int .i64 n]) ∧ t'.v = v ∧ t'.Sh w' w.heap.size w'.heap.size ∧ Fr No w w'

set_option maxHeartbeats 1000000 in
theorem Own2_any (t : T) (w : World) (lo hi : Nat) (ht : t.In w lo hi) (hh : hi ≤ w.heap.size) :
    Calls Tryz.prog 146 #[t.val] w (OwnE2 (if t.v.may = true then t.v else V.zero) (if t.v.may = true then 0 else 2) w) := by
  have hM := fun w' h h' => may_any t w' lo hi h h'
  have hO := fun w' h h' => own2_any t w' lo hi h h'
  cases t with
  | mk k n s A cap l r =>
    rw [T.val_mk] at *
    cases hm : (T.mk k n s A cap l r).v.may
    · rw [hm] at hM
      go_enter Tryz.func146, Tryz.ntmps146
      go_wp2_with fail
      refine (hM _ (ht.no (((Fr.refl No w).alloc _).alloc _) hh) (by simp; omega)).mono ?_
      rintro e w2 ⟨rfl, fr2⟩
      have hsz := fr2.size
      simp only [World.size_alloc] at hsz
      have hs0 : w.heap.size + 1 < w2.heap.size := by omega
      have b1 := (Blk.new' (w.alloc (.cells #[.int .u8 k, .int .i64 n, .string s, .slice A l.length cap, .int .i64 r] 28)) 28 #[.int .u8 0, .int .i64 0, .string ⟨#[]⟩, .slice none 0 0, .int .i64 0] (g := w.heap.size + 1) (by simp)).fr fr2 (fun h => h)
      obtain ⟨d0, d1, d2, d3, d4, df⟩ := b1.cells5
      have hF2 : Fr No w w2 := (((Fr.refl No w).alloc _).alloc _).trans fr2
      have HF := hide hF2
      clear b1 hO hF2
      go_wp2
      refine bodyPost_ret (v := .tuple #[.agg #[.int .u8 0, .int .i64 0, .string ⟨#[]⟩, .slice none 0 0, .int .i64 0], .int .i64 2]) (by simp [results, Tryz.results146, go_sem, *]) rfl ?_
      have hF2 := HF.out
      exact ⟨T.zero, rfl, T.zero_v, T.zero_sh _ _ _, (by repeat (first | with_reducible exact hF2 | with_reducible refine Fr.setNew ?_ (by simp) _ | with_reducible refine Fr.alloc ?_ _))⟩
    · rw [hm] at hM
      go_enter Tryz.func146, Tryz.ntmps146
      go_wp2_with fail
      refine (hM _ (ht.no (((Fr.refl No w).alloc _).alloc _) hh) (by simp; omega)).mono ?_
      rintro e w2 ⟨rfl, fr2⟩
      have hsz := fr2.size
      simp only [World.size_alloc] at hsz
      have hs0 : w.heap.size + 1 < w2.heap.size := by omega
      have b0 := ((Blk.new' w 28 #[.int .u8 k, .int .i64 n, .string s, .slice A l.length cap, .int .i64 r] (g := w.heap.size) rfl).alloc (.cells #[.int .u8 0, .int .i64 0, .string ⟨#[]⟩, .slice none 0 0, .int .i64 0] 28)).fr fr2 (fun h => h)
      have b1 := (Blk.new' (w.alloc (.cells #[.int .u8 k, .int .i64 n, .string s, .slice A l.length cap, .int .i64 r] 28)) 28 #[.int .u8 0, .int .i64 0, .string ⟨#[]⟩, .slice none 0 0, .int .i64 0] (g := w.heap.size + 1) (by simp)).fr fr2 (fun h => h)
      obtain ⟨c0, c1, c2, c3, c4, cf⟩ := b0.cells5
      obtain ⟨d0, d1, d2, d3, d4, df⟩ := b1.cells5
      have hF2 : Fr No w w2 := (((Fr.refl No w).alloc _).alloc _).trans fr2
      have HT := hide (ht.no hF2 hh)
      clear ht
      have HF := hide hF2
      have HB := hide b1
      clear b1 b0 hF2
      go_wp2_with fail
      refine (hO _ HT.out (by omega)).mono ?_
      rintro e w3 ⟨t', rfl, hv, ow, fr3⟩
      have b1 := HB.out.fr fr3 (fun h => h)
      obtain ⟨d0, d1, d2, d3, d4, df⟩ := b1.cells5
      have hF2 := HF.out.trans fr3
      have HF2 := hide hF2
      have HV := hide hv
      have HO := hide ow
      have hsz3 := fr3.size
      clear hv ow hF2 b1
      cases t' with
      | mk k2 n2 s2 A2 cap2 l2 r2 =>
        rw [T.val_mk]
        go_wp2
        refine bodyPost_ret (v := .tuple #[.agg #[.int .u8 k2, .int .i64 n2, .string s2, .slice A2 l2.length cap2, .int .i64 r2], .int .i64 0]) (by simp [results, Tryz.results146, go_sem, *]) rfl ?_
        have hF2 := HF2.out
        refine ⟨T.mk k2 n2 s2 A2 cap2 l2 r2, rfl, HV.out, ?_, (by repeat (first | with_reducible exact hF2 | with_reducible refine Fr.setNew ?_ (by simp) _ | with_reducible refine Fr.alloc ?_ _))⟩
        refine (HO.out.fr' (S := (· = w.heap.size + 1)) ?_ (fun i h0 h1 h2 => by have h' : i = w.heap.size + 1 := h2; omega)).more (by omega) (by simp)
        repeat (first | with_reducible exact Fr.refl _ w3 | with_reducible refine Fr.set ?_ (by simp) _)

end Go.Proofs.YtlejelbefmkakaaGreat

/- Chapter 2: Of, the program's and the document's. -/
namespace Go.Proofs.YtlejelbefmkakaaGreat
open Go.RowKit

theorem all1_any (t : T) (w : World) (lo hi : Nat) (ht : t.In w lo hi) (hh : hi ≤ w.heap.size) : Calls Tryz.prog 275 #[t.val] w fun e w' => e = .returned (.bool (!t.v.may)) ∧ Fr No w w' := by
  have IH := fun w' h h' => may_any t w' lo hi h h'
  cases t with
  | mk k n s A cap l r =>
    rw [T.val_mk] at *
    generalize (T.mk k n s A cap l r).v.may = z at *
    cases z
    all_goals
      go_enter Tryz.func275, Tryz.ntmps275
      go_wp2_with fail
      refine (IH _ (ht.no ((Fr.refl No w).alloc _) hh) (by simp; omega)).mono ?_
      rintro e w2 ⟨rfl, fr2⟩
      go_wp2
      go_ret
      exact ⟨rfl, ((Fr.refl No w).alloc _).trans fr2⟩

set_option maxRecDepth 100000 in
set_option maxHeartbeats 4000000 in
theorem indexV_any (A : Option Addr) (cap : Nat) (l : List T) (w : World) (lo hi : Nat) (ht : (T.row A cap l).In w lo hi) (hh : hi ≤ w.heap.size) :
    Calls Tryz.prog 283 #[.slice A l.length cap, .func (.func 275) #[] #[]] w fun e w' => (∃ z : Int, e = .returned (.int .i64 z) ∧ ((0 ≤ z ∧ (l.map T.v).all V.may = false) ∨ (z = -1 ∧ (l.map T.v).all V.may = true))) ∧ Fr No w w' := by
  have hlen := (T.in_mk.1 ht).1.len1
  have hB := all1_any
  go_enter Tryz.func283, Tryz.ntmps283
  go_wp2_with fail
  go_loopw [8] (fun i wr => ∃ j : Nat, j ≤ l.length ∧ i = .int .i64 j ∧ Fr No w wr ∧ ∀ v ∈ (l.map T.v).take j, v.may = true) (fun i _ => l.length - (intOf i).toNat)
  case atStart => exact ⟨0, Nat.zero_le _, rfl, Fr.refl _ _, by simp⟩
  case round =>
    obtain ⟨j, hj, rfl, fr, hall⟩ := hrel
    have HA := hide hall
    have hsz := fr.size
    clear hall
    by_cases hlt : j < l.length
    · obtain ⟨b, o, k1, n1, s1, A1, cap1, l1, r1, rfl, hb0, hb1, hx, hin, e0, e1, e2, e3, e4⟩ := T.elem (ht.no fr hh) hlt
      have hc := hB l[j] wr lo hi (by rw [hx]; exact hin) (by omega)
      have hj' : j < (l.map T.v).length := by simpa using hlt
      have hxv : (l.map T.v)[j] = (T.mk k1 n1 s1 A1 cap1 l1 r1).v := by rw [List.getElem_map, hx]
      rw [hx, T.val_mk] at hc
      generalize (T.mk k1 n1 s1 A1 cap1 l1 r1).v = u at *
      have g0 : b < wr.heap.size := by omega
      have htk : (l.map T.v).take (j + 1) = (l.map T.v).take j ++ [u] := by rw [List.take_succ_eq_append_getElem hj', hxv]
      have hmem : u ∈ l.map T.v := by rw [← hxv]; exact List.getElem_mem hj'
      have HT := hide htk
      have HM := hide hmem
      have HF := hide fr
      clear hx hxv htk hmem fr hin hB ht
      cases hm : u.may with
      | false =>
        rw [hm] at hc
        have HC := hide hc
        have hno : (l.map T.v).all V.may = false := by
          rw [Bool.eq_false_iff]
          intro h
          rw [List.all_eq_true.1 h u HM.out] at hm
          cases hm
        have HN := hide hno
        clear hc hno hm
        go_wp2_with fail
        refine HC.out.mono ?_
        rintro e w2 ⟨rfl, f2⟩
        have HF2 := hide (HF.out.trans f2)
        clear f2
        go_wp2
        go_ret
        exact ⟨⟨_, rfl, .inl ⟨by omega, HN.out⟩⟩, HF2.out⟩
      | true =>
        rw [hm] at hc
        have HC := hide hc
        have HMM := hide hm
        clear hc hm
        go_wp2_with fail
        refine HC.out.mono ?_
        rintro e w2 ⟨rfl, f2⟩
        have HF2 := hide (HF.out.trans f2)
        clear f2
        go_wp2
        go_roundw
        case rel =>
          refine ⟨j + 1, hlt, by go_num, HF2.out, fun v hv => ?_⟩
          rw [HT.out] at hv
          rcases List.mem_append.1 hv with hv | hv
          · exact HA.out v hv
          · simp at hv; subst hv; exact HMM.out
        case measure => simp [intOf]; omega
    · obtain rfl : l.length = j := by omega
      have hyes : (l.map T.v).all V.may = true := List.all_eq_true.2 fun v hv => HA.out v (by rw [List.take_of_length_le (by simp)]; exact hv)
      have HY := hide hyes
      have HF := hide fr
      clear fr hyes ht hB
      go_wp2
      go_ret
      exact ⟨⟨-1, rfl, .inr ⟨rfl, HY.out⟩⟩, HF.out⟩

theorem containsV_any (A : Option Addr) (cap : Nat) (l : List T) (w : World) (lo hi : Nat) (ht : (T.row A cap l).In w lo hi) (hh : hi ≤ w.heap.size) :
    Calls Tryz.prog 274 #[.slice A l.length cap, .func (.func 275) #[] #[]] w fun e w' => e = .returned (.bool (!(l.map T.v).all V.may)) ∧ Fr No w w' := by
  have hI := indexV_any A cap l w lo hi ht hh
  generalize (l.map T.v).all V.may = q at *
  clear ht
  go_enter Tryz.func274, Tryz.ntmps274
  go_wp2_with fail
  refine hI.mono ?_
  rintro e w2 ⟨⟨z, rfl, hz⟩, fr2⟩
  rcases hz with ⟨h0, rfl⟩ | ⟨rfl, rfl⟩
  · have h1 : decide ((0 : Int) ≤ z) = true := by simpa using h0
    go_wp2
    go_ret
    exact ⟨rfl, fr2⟩
  · go_wp2
    go_ret
    exact ⟨rfl, fr2⟩

/-- May all be? -/
theorem allV_any (A : Option Addr) (cap : Nat) (l : List T) (w : World) (lo hi : Nat) (ht : (T.row A cap l).In w lo hi) (hh : hi ≤ w.heap.size) :
    Calls Tryz.prog 255 #[.slice A l.length cap] w fun e w' => e = .returned (.bool ((l.map T.v).all V.may)) ∧ Fr No w w' := by
  have hI := containsV_any A cap l w lo hi ht hh
  generalize (l.map T.v).all V.may = q at *
  clear ht
  cases q
  all_goals
    go_enter Tryz.func255, Tryz.ntmps255
    go_wp2_with fail
    refine hI.mono ?_
    rintro e w2 ⟨rfl, fr2⟩
    go_wp2
    go_ret
    exact ⟨rfl, fr2⟩

/-- What Of answers. -/
def ofV (l : List V) : V × Int := if l.all V.may = true then (if (V.mk 3 0 ⟨#[]⟩ l 0).may = true then (V.mk 3 0 ⟨#[]⟩ l 0, 0) else (V.zero, 4)) else (V.zero, 2)

theorem T.row_v (A : Option Addr) (cap : Nat) (l : List T) : (T.row A cap l).v = V.mk 3 0 ⟨#[]⟩ (l.map T.v) 0 := by rw [T.row, T.v_mk]

/-- A value that is known, and an error's number. -/
def InE (v : V) (n : Int) (w : World) (e : Ending) (w' : World) : Prop :=
  ∃ t' : T, e = .returned (.tuple #[t'.val, .int .i64 n]) ∧ t'.v = v ∧ t'.In w' w.heap.size w'.heap.size ∧ Fr No w w'

set_option maxRecDepth 100000 in
set_option maxHeartbeats 4000000 in
theorem vOf_any (A : Option Addr) (cap : Nat) (l : List T) (w : World) (lo hi : Nat) (ht : (T.row A cap l).In w lo hi) (hh : hi ≤ w.heap.size) :
    Calls Tryz.prog 209 #[.slice A l.length cap] w (OwnE2 (ofV (l.map T.v)).1 (ofV (l.map T.v)).2 w) := by
  have hA := fun w' h h' => allV_any A cap l w' lo hi h h'
  have hM := fun w' h h' => may_any (T.row A cap l) w' lo hi h h'
  have hO := fun w' h h' => own2_any (T.row A cap l) w' lo hi h h'
  rw [T.row_v] at hM hO
  have hval : (T.row A cap l).val = .agg #[.int .u8 3, .int .i64 0, .string ⟨#[]⟩, .slice A l.length cap, .int .i64 0] := rfl
  rw [hval] at hM hO
  clear hval
  have fr0 := (Fr.refl No w).alloc (.cells #[.int .u8 0, .int .i64 0, .string ⟨#[]⟩, .slice none 0 0, .int .i64 0] 28)
  have bz0 := Blk.new w 28 #[.int .u8 0, .int .i64 0, .string ⟨#[]⟩, .slice none 0 0, .int .i64 0]
  have ht0 := ht.no fr0 hh
  have hs0 : w.heap.size < (w.alloc (.cells #[.int .u8 0, .int .i64 0, .string ⟨#[]⟩, .slice none 0 0, .int .i64 0] 28)).heap.size := by simp
  clear ht
  cases ha : (l.map T.v).all V.may with
  | false =>
    have e1 : ofV (l.map T.v) = (V.zero, 2) := by simp only [ofV]; rw [ha]; rfl
    rw [e1]
    rw [ha] at hA
    clear ha e1 hM hO
    go_enter Tryz.func209, Tryz.ntmps209
    go_wp2_with fail
    generalize World.alloc w _ = w0 at *
    refine (hA w0 ht0 (by omega)).mono ?_
    rintro e w2 ⟨rfl, f2⟩
    have bz2 := bz0.fr f2 fun h => h
    obtain ⟨d0, d1, d2, d3, d4, df⟩ := bz2.cells5
    have q0 := bz2.lt
    have HF := hide (fr0.trans f2)
    clear hA ht0 bz0 fr0 f2 bz2
    go_wp2
    refine bodyPost_ret (v := .tuple #[.agg #[.int .u8 0, .int .i64 0, .string ⟨#[]⟩, .slice none 0 0, .int .i64 0], .int .i64 2]) (by simp [results, Tryz.results209, go_sem, *]) rfl ?_
    have hF2 := HF.out
    refine ⟨T.zero, rfl, T.zero_v, T.zero_sh _ _ _, ?_⟩
    repeat (first | with_reducible exact hF2 | with_reducible refine Fr.setNew ?_ (Nat.le_refl _) _)
  | true =>
    rw [ha] at hA
    cases hm : (V.mk 3 0 ⟨#[]⟩ (l.map T.v) 0).may with
    | false =>
      have e1 : ofV (l.map T.v) = (V.zero, 4) := by simp only [ofV]; rw [ha, hm]; rfl
      rw [e1]
      rw [hm] at hM
      clear ha hm e1 hO
      go_enter Tryz.func209, Tryz.ntmps209
      go_wp2_with fail
      generalize World.alloc w _ = w0 at *
      refine (hA w0 ht0 (by omega)).mono ?_
      rintro e w2 ⟨rfl, f2⟩
      have bz2 := bz0.fr f2 fun h => h
      have ht2 := ht0.no f2 (by omega)
      have HF := hide (fr0.trans f2)
      have hs2 := (fr0.trans f2).size
      clear hA ht0 bz0 fr0 f2
      go_wp2_with fail
      have f3 := (Fr.refl No w2).alloc (.cells #[.int .u8 3, .int .i64 0, .string ⟨#[]⟩, .slice A l.length cap, .int .i64 0] 28)
      have HF3 := hide (HF.out.trans f3)
      have bz3 := bz2.fr f3 fun h => h
      have ht3 := ht2.no f3 (by omega)
      have hs3 := f3.size
      clear bz2 ht2 f3
      generalize World.alloc w2 _ = w3 at *
      refine (hM w3 ht3 (by omega)).mono ?_
      rintro e w4 ⟨rfl, f4⟩
      have bz4 := bz3.fr f4 fun h => h
      obtain ⟨d0, d1, d2, d3, d4, df⟩ := bz4.cells5
      have q0 := bz4.lt
      have HF4 := hide (HF3.out.trans f4)
      clear hM ht3 bz3 f4 bz4
      go_wp2
      refine bodyPost_ret (v := .tuple #[.agg #[.int .u8 0, .int .i64 0, .string ⟨#[]⟩, .slice none 0 0, .int .i64 0], .int .i64 4]) (by simp [results, Tryz.results209, go_sem, *]) rfl ?_
      have hF2 := HF4.out
      refine ⟨T.zero, rfl, T.zero_v, T.zero_sh _ _ _, ?_⟩
      repeat (first | with_reducible exact hF2 | with_reducible refine Fr.setNew ?_ (Nat.le_refl _) _)
    | true =>
      have e1 : ofV (l.map T.v) = (V.mk 3 0 ⟨#[]⟩ (l.map T.v) 0, 0) := by simp only [ofV]; rw [ha, hm]; rfl
      rw [e1]
      rw [hm] at hM
      generalize V.mk 3 0 ⟨#[]⟩ (l.map T.v) 0 = u at *
      clear ha hm e1
      go_enter Tryz.func209, Tryz.ntmps209
      go_wp2_with fail
      generalize World.alloc w _ = w0 at *
      refine (hA w0 ht0 (by omega)).mono ?_
      rintro e w2 ⟨rfl, f2⟩
      have bz2 := bz0.fr f2 fun h => h
      have ht2 := ht0.no f2 (by omega)
      have HF := hide (fr0.trans f2)
      have hs2 := (fr0.trans f2).size
      clear hA ht0 bz0 fr0 f2
      have hsz2 : w.heap.size < w2.heap.size := bz2.lt
      go_wp2_with fail
      have f3 := (Fr.refl No w2).alloc (.cells #[.int .u8 3, .int .i64 0, .string ⟨#[]⟩, .slice A l.length cap, .int .i64 0] 28)
      have HF3 := hide (HF.out.trans f3)
      have bz3 := bz2.fr f3 fun h => h
      have bv3 := Blk.new w2 28 #[.int .u8 3, .int .i64 0, .string ⟨#[]⟩, .slice A l.length cap, .int .i64 0]
      have ht3 := ht2.no f3 (by omega)
      have hs3 := f3.size
      clear bz2 ht2 f3
      generalize World.alloc w2 _ = w3 at *
      refine (hM w3 ht3 (by omega)).mono ?_
      rintro e w4 ⟨rfl, f4⟩
      have bz4 := bz3.fr f4 fun h => h
      have bv4 := bv3.fr f4 fun h => h
      have ht4 := ht3.no f4 (by omega)
      obtain ⟨c0, c1, c2, c3, c4, -⟩ := bv4.cells5
      have qv := bv4.lt
      have HF4 := hide (HF3.out.trans f4)
      have hs4 := f4.size
      clear hM ht3 bz3 bv3 f4 bv4
      go_wp2_with fail
      refine (hO w4 ht4 (by omega)).mono ?_
      rintro e w5 ⟨⟨k5, n5, s5, A5, cap5, l5, r5⟩, rfl, hv5, hsh5, f5⟩
      rw [T.val_mk]
      have bz5 := bz4.fr f5 fun h => h
      obtain ⟨d0, d1, d2, d3, d4, df⟩ := bz5.cells5
      have q0 := bz5.lt
      have HF5 := hide (HF4.out.trans f5)
      have HV := hide hv5
      have HSH := hide hsh5
      have hs5 := f5.size
      clear hO ht4 bz4 f5 bz5 hv5 hsh5 c0 c1 c2 c3 c4 qv
      go_wp2
      refine bodyPost_ret (v := .tuple #[.agg #[.int .u8 k5, .int .i64 n5, .string s5, .slice A5 l5.length cap5, .int .i64 r5], .int .i64 0]) (by simp [results, Tryz.results209, go_sem, *]) rfl ?_
      have hF2 := HF5.out
      refine ⟨T.mk k5 n5 s5 A5 cap5 l5 r5, rfl, HV.out, ?_, ?_⟩
      · refine (T.Sh.fr' (S := (· = w.heap.size)) HSH.out ?_ (fun i h0 h1 h2 => by have h' : i = w.heap.size := h2; omega)).more (by omega) (by simp)
        repeat (first | with_reducible exact Fr.refl _ w5 | with_reducible refine Fr.set ?_ (by simp) _)
      · repeat (first | with_reducible exact hF2 | with_reducible refine Fr.setNew ?_ (Nat.le_refl _) _)

end Go.Proofs.YtlejelbefmkakaaGreat

/- Worlds whose things have no code, names, lists: how they lie in memory. -/
namespace Go.Proofs.YtlejelbefmkakaaGreat
open Go.RowKit

theorem lt_of_heap {w : World} {i : Nat} {o : Obj} (h : w.heap[i]? = some o) : i < w.heap.size := by
  rcases Nat.lt_or_ge i w.heap.size with hlt | hge
  · exact hlt
  · rw [Array.getElem?_eq_none hge] at h; cases h

/-! ### Maps by whole numbers -/

theorem get_map {W : World} {B : Nat} {es : Array MapEntry} {c : Nat} (h : W.heap[B]? = some (.map es c)) : (getObj B).run Tryz.prog W = .ok (.map es c) W := by
  simp [getObj, Sem.run, h]

theorem set_map {W : World} {B : Nat} {es : Array MapEntry} {c : Nat} (o : Obj) (h : W.heap[B]? = some (.map es c)) : (setObj B o).run Tryz.prog W = .ok () (W.putObj B o) := by
  simp [setObj, Sem.run, h, World.putObj]

theorem findNow_none {n : Int} : ∀ {es : List MapEntry} {i : Nat}, (∀ e ∈ es, ∃ c : Int, e.key = .int .i64 c ∧ n ≠ c) → Instr.findNow (.int .i64) (.int .i64 n) es i = some none
  | [], _, _ => rfl
  | e :: es, i, h => by
    obtain ⟨c, hc, hne⟩ := h e (by simp)
    unfold Instr.findNow
    have : Instr.sameNow (.int .i64) (.int .i64 n) e.key = some false := by rw [hc]; simp [Instr.sameNow]; exact hne
    rw [this]
    exact findNow_none fun e he => h e (by simp [he])

theorem findNow_some {n : Int} : ∀ {es : List MapEntry} {i j : Nat} {e : MapEntry}, (∀ e ∈ es, ∃ c : Int, e.key = .int .i64 c) → es[j]? = some e → e.key = .int .i64 n → (∀ k e', k < j → es[k]? = some e' → e'.key ≠ .int .i64 n) →
    Instr.findNow (.int .i64) (.int .i64 n) es i = some (some (i + j, e.val))
  | [], _, j, e, _, h, _, _ => by simp at h
  | e0 :: es, i, 0, e, _, h, hk, _ => by
    simp at h; subst h
    unfold Instr.findNow
    have : Instr.sameNow (.int .i64) (.int .i64 n) e0.key = some true := by rw [hk]; simp [Instr.sameNow]
    rw [this]; rfl
  | e0 :: es, i, j + 1, e, hall, h, hk, hb => by
    obtain ⟨c, hc⟩ := hall e0 (by simp)
    have hne : n ≠ c := fun h' => hb 0 e0 (by omega) rfl (by rw [hc, h'])
    unfold Instr.findNow
    have : Instr.sameNow (.int .i64) (.int .i64 n) e0.key = some false := by rw [hc]; simp [Instr.sameNow]; exact hne
    rw [this]
    have := findNow_some (n := n) (i := i + 1) (j := j) (fun e he => hall e (List.mem_cons_of_mem _ he)) (by simpa using h) hk (fun k e' hk' he' => hb (k + 1) e' (by omega) (by simpa using he'))
    rw [show i + (j + 1) = i + 1 + j from by omega]
    exact this

section
variable {t el kt : TypeId} {w : World} {B cl : Nat} {es : Array MapEntry}

theorem checkKey_num (hk : Tryz.prog.underlying kt = some (.int .i64)) (e : Bool) (n : Int) (w : World) : (Instr.checkKey e 10000 kt (.int .i64 n)).run Tryz.prog w = .ok () w := by
  have : ∀ d, (Instr.checkKey e (d + 1) kt (.int .i64 n)).run Tryz.prog w = .ok () w := fun d => by simp [Instr.checkKey, run_underlying hk]
  exact this 9999

theorem look_num {z : Value} (hk : Tryz.prog.underlying kt = some (.int .i64)) (ht : Tryz.prog.underlying t = some (.map kt el)) (hz : (zeroValue el).run Tryz.prog w = .ok z w) (n : Int) (hB : w.heap[B]? = some (.map es cl)) (o : Option Nat)
    (hn : o = none → ∀ e ∈ es.toList, ∃ c : Int, e.key = .int .i64 c ∧ n ≠ c) (hs : ∀ j, o = some j → ∃ e, es.toList[j]? = some e ∧ e.key = .int .i64 n ∧ (∀ e ∈ es.toList, ∃ c : Int, e.key = .int .i64 c) ∧ ∀ k e', k < j → es.toList[k]? = some e' → e'.key ≠ .int .i64 n) :
    (Instr.lookup t (.map (some B)) (.int .i64 n) true).run Tryz.prog w = .ok (match o.bind fun j => es.toList[j]? with | some e => .tuple #[e.val, .bool true] | none => .tuple #[z, .bool false]) w ∧
    (Instr.lookup t (.map (some B)) (.int .i64 n) false).run Tryz.prog w = .ok (match o.bind fun j => es.toList[j]? with | some e => e.val | none => z) w := by
  unfold Instr.lookup
  cases o with
  | none =>
    have hf := findNow_none (i := 0) (hn rfl)
    constructor <;> simp [run_underlying ht, get_map hB, checkKey_num hk, Instr.findKey, run_underlying hk, hf, Result.andThen, hz]
  | some j =>
    obtain ⟨e, h1, h2, h3, h4⟩ := hs j rfl
    have hf := findNow_some (i := 0) h3 h1 h2 h4
    have h1' : es[j]? = some e := by simpa using h1
    constructor <;> simp [run_underlying ht, get_map hB, checkKey_num hk, Instr.findKey, run_underlying hk, hf, Result.andThen, h1']

/-- A store under a number that isn't there. -/
theorem update_num (hk : Tryz.prog.underlying kt = some (.int .i64)) (ht : Tryz.prog.underlying t = some (.map kt el)) (n : Int) (val : Value) (hB : w.heap[B]? = some (.map es cl))
    (h : ∀ e ∈ es.toList, ∃ c : Int, e.key = .int .i64 c ∧ n ≠ c) :
    (Instr.mapUpdate t (.map (some B)) (.int .i64 n) val).run Tryz.prog w = .ok () (w.putObj B (.map (es.push { key := .int .i64 n, val := val, born := cl }) (cl + 1))) := by
  unfold Instr.mapUpdate
  simp only [Sem.run_bind, run_underlying ht, Result.andThen_ok, get_map hB, checkKey_num hk, Instr.findKey, run_underlying hk, findNow_none h, Sem.run_pure, set_map _ hB]
end

/-- A thing: its kind, home, value, numbers; it has no list of values, no code, no names. -/
structure Th where
  kind : Int
  home : Int
  v : T
  n : Int
  lost : Int
  ofr : Int
  byr : Int
  set : Int
  full : Bool

/-- A thing's cells. -/
def Th.cells (x : Th) : List Value := [.int .u8 x.kind, .int .i64 x.home] ++ (x.v.cells ++ [.slice none 0 0, .int .i64 x.n, .int .i64 x.lost, .int .i64 x.ofr, .int .i64 x.byr, .int .u8 x.set, .bool x.full, .slice none 0 0, .slice none 0 0])

/-- A thing as the program handles it. -/
def Th.val (x : Th) : Value := .agg x.cells.toArray

/-- A world in memory: its block, the maps, the slices; the things 1, 2, .. and where each lies; the facets. -/
structure Wm where
  wb : Nat
  M : Nat
  F : Nat
  P : Option Addr
  pn : Nat
  pc : Nat
  C : Option Addr
  cn : Nat
  cc : Nat
  D : Option Addr
  dc : Nat
  made : List Nat
  th : List (Nat × Th)
  fac : List (Int × Int × Int)

def Wm.cells (m : Wm) : Array Value := #[.slice m.P m.pn m.pc, .slice m.C m.cn m.cc, .map (some m.M), .map (some m.F), .int .i64 (m.th.length : Int), .slice m.D m.made.length m.dc]

/-- The entries of the map of things. -/
def ThsAre (es : List MapEntry) (l : List (Nat × Th)) : Prop :=
  es.length = l.length ∧ ∀ (i : Nat) (e : MapEntry) (x : Nat × Th), es[i]? = some e → l[i]? = some x → e.key = .int .i64 ((i : Int) + 1) ∧ e.val = .pointer (some ⟨x.1, 0, none⟩)

/-- The entries of the map of facets. -/
def FacAre (es : List MapEntry) (l : List (Int × Int × Int)) : Prop :=
  es.length = l.length ∧ ∀ (i : Nat) (e : MapEntry) (x : Int × Int × Int), es[i]? = some e → l[i]? = some x → e.key = .agg #[.int .i64 x.1, .int .u8 x.2.1] ∧ e.val = .int .i64 x.2.2

/-- The stamps of a map's entries are below its clock, and no two alike. -/
def Stm (es : List MapEntry) (cl : Nat) : Prop := (∀ x ∈ es, x.born < cl) ∧ (es.map (·.born)).Nodup

/-- The blocks of a world. -/
def Wm.B (m : Wm) (i : Nat) : Prop := i = m.wb ∨ i = m.M ∨ i = m.F ∨ (Value.slice m.D m.made.length m.dc).ownBlock = some i ∨ ∃ x ∈ m.th, i = x.1 ∨ i ∈ x.2.v.blocks

structure Wm.Ok (m : Wm) (lo : Nat) (W : World) : Prop where
  blk : Blk W m.wb 38 m.cells
  things : ∃ es cl, W.heap[m.M]? = some (.map es cl) ∧ ThsAre es.toList m.th ∧ Stm es.toList cl
  facets : ∃ es cl, W.heap[m.F]? = some (.map es cl) ∧ FacAre es.toList m.fac
  made : W.ownsRow lo 3 1 (.slice m.D m.made.length m.dc) m.made.length (m.made.map fun (n : Nat) => Value.int .i64 (n : Int))
  box : ∀ x ∈ m.th, Blk W x.1 138 x.2.cells.toArray
  vals : ∀ x ∈ m.th, x.2.v.Sh W lo W.heap.size
  lo0 : lo ≤ m.wb ∧ lo ≤ m.M ∧ lo ≤ m.F ∧ ∀ x ∈ m.th, lo ≤ x.1
  mf : m.M ≠ m.F
  dist : m.th.Pairwise fun a b => a.1 ≠ b.1
  len : m.th.length ≤ 100000
  mades : ∀ n ∈ m.made, n ≤ 512
  sides : 1 ≤ m.made.length ∧ m.made.length ≤ 16

section
variable {m : Wm} {lo : Nat} {W W' : World} {S : Nat → Prop}

theorem Wm.Ok.lt (h : m.Ok lo W) : ∀ i, m.B i → lo ≤ i ∧ i < W.heap.size := by
  obtain ⟨es, cl, hm, -⟩ := h.things
  obtain ⟨ef, cf, hf, hfe⟩ := h.facets
  obtain ⟨l0, l1, l2, l3⟩ := h.lo0
  rintro i (rfl | rfl | rfl | hi | ⟨x, hx, rfl | hi⟩)
  · exact ⟨l0, h.blk.lt⟩
  · exact ⟨l1, lt_of_heap hm⟩
  · exact ⟨l2, lt_of_heap hf⟩
  · exact owns_lt h.made i hi
  · exact ⟨l3 x hx, (h.box x hx).lt⟩
  · exact T.In.blocks _ (h.vals x hx).inn i hi

theorem Wm.Ok.fr (h : m.Ok lo W) (f : Fr S W W') (hs : ∀ i, m.B i → ¬ S i) : m.Ok lo W' := by
  obtain ⟨es, cl, hm, he⟩ := h.things
  obtain ⟨ef, cf, hf, hfe⟩ := h.facets
  exact ⟨h.blk.fr f (hs _ (.inl rfl)), ⟨es, cl, (f.block _ (lt_of_heap hm) (hs _ (.inr (.inl rfl)))).trans hm, he⟩, ⟨ef, cf, (f.block _ (lt_of_heap hf) (hs _ (.inr (.inr (.inl rfl))))).trans hf, hfe⟩,
    owns_fr h.made f fun g hg => hs g (.inr (.inr (.inr (.inl hg)))), fun x hx => (h.box x hx).fr f (hs _ (.inr (.inr (.inr (.inr ⟨x, hx, .inl rfl⟩))))),
    fun x hx => ((h.vals x hx).fr f fun b hb => hs b (.inr (.inr (.inr (.inr ⟨x, hx, .inr hb⟩))))).more (Nat.le_refl _) f.size, h.lo0, h.mf, h.dist, h.len, h.mades, h.sides⟩

theorem Wm.Ok.no (h : m.Ok lo W) (f : Fr No W W') : m.Ok lo W' := h.fr f fun _ _ h => h
end

end Go.Proofs.YtlejelbefmkakaaGreat

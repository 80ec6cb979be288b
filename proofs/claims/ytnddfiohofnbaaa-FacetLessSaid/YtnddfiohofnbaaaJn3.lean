/- Texts joined: X3, P1, B2, P6, Gw. -/
import Derived.Test.YtnddfiohofnbaaaJn2

namespace Go.Proofs.Ytnddfiohofnbaaa
open Go.RowKit
theorem value_info : (Try.prog.info? 37).map (fun i => (i.zero, i.size, i.bytes)) = some (some (.agg #[.int .u8 0, .int .i64 0, .string ⟨#[]⟩, .slice none 0 0, .int .i64 0]), 5, 64) := by kernel_rfl

theorem run_make_rowN {P : Program} (t e : TypeId) (i : TypeInfo) (z : Value) (ht : P.underlying t = some (.slice e)) (hi : P.info? e = some i) (hz : i.zero = some z)
    (kl kc : IntKind) (n c : Nat) (hnc : n ≤ c) (hbytes : i.bytes * c ≤ 281474976710656) (h63 : c ≤ 9223372036854775807) (w : World) :
    (Instr.makeSlice t (.int kl (n : Int)) (.int kc (c : Int))).run P w = .ok (.slice (some ⟨w.heap.size, 0, none⟩) n c) (w.alloc (.cells (madeCells z.cells (c * i.size)) e)) := by
  have hb : (i.bytes : Int) * (c : Int) ≤ 281474976710656 := by
    have h : ((i.bytes * c : Nat) : Int) ≤ 281474976710656 := by omega
    rwa [Int.natCast_mul] at h
  have hr := run_make (P := P) w t e i z ht hi hz kl kc n c (by omega) (by omega) hb (by omega)
  simp only [Int.toNat_natCast] at hr
  exact hr

/-- A value of the same data in memory of its own, all of it new. -/
def OwnP (v : V) (w : World) (e : Ending) (w' : World) : Prop :=
  ∃ t' : T, e = .returned t'.val ∧ t'.v = v ∧ t'.Ow w' w.heap.size w'.heap.size ∧ Fr No w w'

/-- Where the loop of 'own' stands. -/
structure OwnInv (w : World) (X Z : Array Value) (l : List T) (j : Nat) (l' : List T) (wr : World) : Prop where
  len : l'.length = j
  vs : l'.map T.v = (l.take j).map T.v
  fr : Fr No w wr
  b0 : Blk wr w.heap.size 37 X
  b1 : Blk wr (w.heap.size + 1) 37 Z
  row : ∃ cs, Blk wr (w.heap.size + 1 + 1) 37 cs ∧ cs.size = l.length * 5 ∧ RowIs cs 0 l'
  forest : Forest wr (w.heap.size + 3) wr.heap.size l'
  big : w.heap.size + 3 ≤ wr.heap.size

set_option maxHeartbeats 1000000 in
theorem own_any (t : T) : ∀ (w : World) (lo hi : Nat), t.In w lo hi → hi ≤ w.heap.size → Calls Try.prog 116 #[t.val] w (OwnP t.v w) := by
  induction t using T.ind with
  | h k n s A cap l r ih =>
    intro w lo hi ht hh
    rw [T.val_mk]
    have fit := (T.in_mk.1 ht).1
    have hlen := fit.len1
    obtain ⟨i0, hi0, hz0, hz1, hz2⟩ := info_parts value_info
    have hmk := fun W => run_make_rowN (P := Try.prog) 35 37 i0 _ Try.underlying35 hi0 hz0 .i64 .i64 l.length l.length (Nat.le_refl _) (by rw [hz2]; omega) (by omega) W
    rw [hz1] at hmk
    clear hi0 hz0 hz1 hz2
    by_cases hl : l.length = 0
    · have hl0 : ((l.length : Int) == 0) = true := by simp [hl]
      obtain rfl : l = [] := List.eq_nil_of_length_eq_zero hl
      clear hmk
      go_enter Try.func116, Try.ntmps116
      go_wp2
      refine bodyPost_ret (v := .agg #[.int .u8 k, .int .i64 n, .string s, .slice none 0 0, .int .i64 r]) (by simp [results, Try.results116, go_sem]) rfl ?_
      refine ⟨T.mk k n s none 0 [] r, rfl, by simp [T.v_mk], T.ow_nil ⟨fit.k0, fit.k1, fit.n0, fit.n1, fit.s1, by simp, Nat.le_refl _, fit.r0, fit.r1⟩, ?_⟩
      exact ((Fr.refl No w).alloc _).alloc _
    · have hl0 : ((l.length : Int) == 0) = false := by simp; intro h; subst h; simp at hl
      have hl1 : (0 : Int) < (l.length : Int) := by omega
      go_enter Try.func116, Try.ntmps116
      go_wp2_with fail
      go_loopw [19] (fun i wr => ∃ (j : Nat) (l' : List T), j ≤ l.length ∧ i = .int .i64 j ∧
          OwnInv w #[.int .u8 k, .int .i64 n, .string s, .slice A l.length cap, .int .i64 r] #[.int .u8 0, .int .i64 0, .string ⟨#[]⟩, .slice none 0 0, .int .i64 0] l j l' wr)
        (fun i _ => l.length - (intOf i).toNat)
      case atStart =>
        refine ⟨0, [], Nat.zero_le _, rfl, rfl, by simp, (((Fr.refl No w).alloc _).alloc _).alloc _, ((Blk.new' w 37 _ rfl).alloc _).alloc _, (Blk.new' (w.alloc _) 37 _ (by simp)).alloc _,
          ⟨_, Blk.new' ((w.alloc _).alloc _) 37 _ (by simp), size_madeCells _ _, RowIs.nil _ _⟩, Forest.nil _ _ _, by simp⟩
      case round =>
        obtain ⟨j, l', hj, rfl, inv⟩ := hrel
        have fr := inv.fr
        have big := inv.big
        by_cases hlt : j < l.length
        · obtain ⟨b, o, k1, n1, s1, A1, cap1, l1, r1, rfl, hb0, hb1, hx, hin, e0, e1, e2, e3, e4⟩ := T.elem (ht.no fr hh) hlt
          have IH := ih l[j] (List.getElem_mem hlt)
          rw [hx] at IH
          have HX := hide hx
          have hle := Nat.le_of_lt hlt
          have HI := hide inv
          clear hx ih inv hmk
          go_wp2_with fail
          refine (IH _ lo hi (hin.no ((Fr.refl No wr).alloc _) (by omega)) (by simp; omega)).mono ?_
          rintro e w2 ⟨t', rfl, hv, ow, fr2⟩
          have HV := hide hv
          clear hv
          simp only [World.size_alloc] at ow
          cases t' with
          | mk k2 n2 s2 A2 cap2 l2 r2 =>
            rw [T.val_mk]
            obtain ⟨cs, hb, hcs, hrow⟩ := HI.out.row
            have blk2 := (hb.alloc (.cells #[.int .u8 k1, .int .i64 n1, .string s1, .slice A1 l1.length cap1, .int .i64 r1] 37)).fr fr2 (fun h => h)
            obtain ⟨y0, x0⟩ : ∃ y, w2.cell? ⟨w.heap.size + 1 + 1, j * 5, none⟩ = some y := ⟨cs[j * 5]'(by omega), by rw [blk2.cell]; exact Array.getElem?_eq_getElem _⟩
            obtain ⟨y1, x1⟩ : ∃ y, w2.cell? ⟨w.heap.size + 1 + 1, j * 5 + 1, none⟩ = some y := ⟨cs[j * 5 + 1]'(by omega), by rw [blk2.cell]; exact Array.getElem?_eq_getElem _⟩
            obtain ⟨y2, x2⟩ : ∃ y, w2.cell? ⟨w.heap.size + 1 + 1, j * 5 + 2, none⟩ = some y := ⟨cs[j * 5 + 2]'(by omega), by rw [blk2.cell]; exact Array.getElem?_eq_getElem _⟩
            obtain ⟨y3, x3⟩ : ∃ y, w2.cell? ⟨w.heap.size + 1 + 1, j * 5 + 3, none⟩ = some y := ⟨cs[j * 5 + 3]'(by omega), by rw [blk2.cell]; exact Array.getElem?_eq_getElem _⟩
            obtain ⟨y4, x4⟩ : ∃ y, w2.cell? ⟨w.heap.size + 1 + 1, j * 5 + 4, none⟩ = some y := ⟨cs[j * 5 + 4]'(by omega), by rw [blk2.cell]; exact Array.getElem?_eq_getElem _⟩
            have xf := blk2.frozen
            have HB := hide blk2
            have HR := hide hrow
            have HC := hide hcs
            have HO := hide ow
            clear blk2 hb hrow hcs ow
            go_wp2
            go_roundw
            case rel =>
              have inv := HI.out
              have hcs := HC.out
              have hsz2 := fr2.size
              simp only [World.size_alloc] at hsz2
              have hfar : ∀ {g : Nat} {X : Array Value}, g < w.heap.size + 2 → Blk wr g 37 X → Blk (((((w2.setCell ⟨w.heap.size + 1 + 1, j * 5, none⟩ (.int .u8 k2)).setCell ⟨w.heap.size + 1 + 1, j * 5 + 1, none⟩ (.int .i64 n2)).setCell ⟨w.heap.size + 1 + 1, j * 5 + 2, none⟩ (.string s2)).setCell
                  ⟨w.heap.size + 1 + 1, j * 5 + 3, none⟩ (.slice A2 l2.length cap2)).setCell ⟨w.heap.size + 1 + 1, j * 5 + 4, none⟩ (.int .i64 r2)) g 37 X := fun {g X} hg hX =>
                (((((((hX.alloc _).fr fr2 (fun h => h)).far (by simp; omega) _).far (by simp; omega) _).far (by simp; omega) _).far (by simp; omega) _).far (by simp; omega) _)
              have hst : Fr (· = w.heap.size + 1 + 1) w2 (((((w2.setCell ⟨w.heap.size + 1 + 1, j * 5, none⟩ (.int .u8 k2)).setCell ⟨w.heap.size + 1 + 1, j * 5 + 1, none⟩ (.int .i64 n2)).setCell ⟨w.heap.size + 1 + 1, j * 5 + 2, none⟩ (.string s2)).setCell
                  ⟨w.heap.size + 1 + 1, j * 5 + 3, none⟩ (.slice A2 l2.length cap2)).setCell ⟨w.heap.size + 1 + 1, j * 5 + 4, none⟩ (.int .i64 r2)) := (Fr.refl (fun i => i = w.heap.size + 1 + 1) w2).five (fun _ => rfl) _ _ _ _ _ _
              refine ⟨j + 1, l' ++ [T.mk k2 n2 s2 A2 cap2 l2 r2], hlt, by go_num, by simp [inv.len], ?_, ?_, hfar (by omega) inv.b0, hfar (by omega) inv.b1, ⟨_, HB.out.five _ _ _ _ _ _, ?_, ?_⟩, ?_, ?_⟩
              · rw [List.map_append, inv.vs, List.take_succ_eq_append_getElem hlt, List.map_append, List.map_singleton, List.map_singleton, HV.out, HX.out]
              · exact (((fr.alloc _).thenNo fr2).five (by omega) _ _ _ _ _ _)
              · simpa using hcs
              · have := HR.out.five (k := k2) (n := n2) (s := s2) (A := A2) (cap := cap2) (l1 := l2) (r := r2) (by rw [inv.len, hcs]; omega)
                simpa [inv.len] using this
              · have h1 : Forest w2 (w.heap.size + 3) (wr.heap.size + 1) l' := ((inv.forest.no ((Fr.refl No wr).alloc _) (Nat.le_refl _)).no fr2 (by simp)).more (Nat.le_refl _) (by omega)
                have h2 := h1.snoc HO.out (by omega) hsz2
                simpa using h2.fr hst (Nat.le_refl _) (fun i hi _ e => by omega)
              · simp; omega
            case measure => simp [intOf]; omega
        · obtain rfl : l.length = j := by omega
          have c0 : wr.cell? ⟨w.heap.size, 0, none⟩ = some (.int .u8 k) := inv.b0.cell 0
          have c1 : wr.cell? ⟨w.heap.size, 1, none⟩ = some (.int .i64 n) := inv.b0.cell 1
          have c2 : wr.cell? ⟨w.heap.size, 2, none⟩ = some (.string s) := inv.b0.cell 2
          have c3 : wr.cell? ⟨w.heap.size, 3, none⟩ = some (.slice A l.length cap) := inv.b0.cell 3
          have c4 : wr.cell? ⟨w.heap.size, 4, none⟩ = some (.int .i64 r) := inv.b0.cell 4
          have cf := inv.b0.frozen 3
          have d0 : wr.cell? ⟨w.heap.size + 1, 0, none⟩ = some (.int .u8 0) := inv.b1.cell 0
          have d1 : wr.cell? ⟨w.heap.size + 1, 1, none⟩ = some (.int .i64 0) := inv.b1.cell 1
          have d2 : wr.cell? ⟨w.heap.size + 1, 2, none⟩ = some (.string ⟨#[]⟩) := inv.b1.cell 2
          have d3 : wr.cell? ⟨w.heap.size + 1, 3, none⟩ = some (.slice none 0 0) := inv.b1.cell 3
          have d4 : wr.cell? ⟨w.heap.size + 1, 4, none⟩ = some (.int .i64 0) := inv.b1.cell 4
          have df := inv.b1.frozen
          have HI := hide inv
          clear inv hmk ih
          go_wp2
          have inv := HI.out
          refine bodyPost_ret (v := .agg #[.int .u8 k, .int .i64 n, .string s, .slice (some ⟨w.heap.size + 1 + 1, 0, none⟩) l.length l.length, .int .i64 r]) (by simp [results, Try.results116, go_sem, *]) rfl ?_
          generalize hW : World.setCell _ _ _ = W
          have hfr : Fr (fun i => i = w.heap.size ∨ i = w.heap.size + 1) wr W := by
            rw [← hW]
            repeat (first | with_reducible exact Fr.refl _ wr | with_reducible refine Fr.set ?_ (by simp) _)
          obtain ⟨cs, hb, hcs, hrow⟩ := inv.row
          have hl' := inv.len
          have hb' : Blk W (w.heap.size + 1 + 1) 37 cs := hb.fr hfr (by omega)
          have hF : Forest W (w.heap.size + 3) wr.heap.size l' := inv.forest.fr hfr (Nat.le_refl _) (fun i h0 h1 h2 => by omega)
          have hsz := hfr.size
          refine ⟨T.mk k n s (some ⟨w.heap.size + 1 + 1, 0, none⟩) l.length l' r, by rw [T.val_mk, hl'], ?_, ?_, inv.fr.trans' hfr (fun i hi h => by omega)⟩
          · rw [T.v_mk, T.v_mk, inv.vs, List.take_of_length_le (Nat.le_refl _)]
          · refine T.ow_mk ⟨fit.k0, fit.k1, fit.n0, fit.n1, fit.s1, by omega, by omega, fit.r0, fit.r1⟩ (hF.more (by omega) hsz) hb' hrow (by omega) (by omega) (fun hm => ?_)
            have := hF.blocks _ hm
            omega
end Go.Proofs.Ytnddfiohofnbaaa

/- Chapter 2: a value whose lists lie in rows of their own; value.own's are such. -/
namespace Go.Proofs.Ytnddfiohofnbaaa
open Go.RowKit

/-- Each list of a tree lies in a row of its own, alone; where there is none, nothing is kept. -/
def T.Sp (w : World) (lo hi : Nat) : T → Prop
  | .mk k n s A cap l r => Fit k n s l.length cap r ∧ (l = [] → A = none ∧ cap = 0) ∧ (l ≠ [] → w.ownsRow lo 37 5 (.slice A l.length cap) l.length (rowCells l) ∧ ∃ g, A = some ⟨g, 0, none⟩ ∧ g < hi) ∧ ∀ x ∈ l, T.Sp w lo hi x
termination_by t => t

theorem T.sp_mk {w : World} {lo hi : Nat} {k n : Int} {s : ByteArray} {A : Option Addr} {cap : Nat} {l : List T} {r : Int} :
    (T.mk k n s A cap l r).Sp w lo hi ↔ Fit k n s l.length cap r ∧ (l = [] → A = none ∧ cap = 0) ∧ (l ≠ [] → w.ownsRow lo 37 5 (.slice A l.length cap) l.length (rowCells l) ∧ ∃ g, A = some ⟨g, 0, none⟩ ∧ g < hi) ∧ ∀ x ∈ l, x.Sp w lo hi := by
  rw [T.Sp]

theorem owns_mono {w : World} {base base' : Nat} {e : TypeId} {size : Nat} {v : Value} {n : Nat} {xs : List Value} (h : w.ownsRow base e size v n xs) (hb : base' ≤ base) : w.ownsRow base' e size v n xs := by
  refine ⟨h.1, ?_⟩
  rcases h.2 with h | ⟨g, cap, cur, h1, h2, h3⟩
  · exact .inl h
  · exact .inr ⟨g, cap, cur, h1, by omega, h3⟩

theorem T.Sp.inn {w : World} {lo hi : Nat} (t : T) : t.Sp w lo hi → t.In w lo hi := by
  induction t using T.ind with
  | h k n s A cap l r ih =>
    rw [T.sp_mk, T.in_mk]
    rintro ⟨h1, _, h3, h4⟩
    refine ⟨h1, fun hl => ?_, fun x hx => ih x hx (h4 x hx)⟩
    obtain ⟨ho, g, rfl, hg⟩ := h3 hl
    have hb := owns_lt ho g rfl
    refine ⟨g, 0, rfl, hb.1, hg, fun i x hx j u hu => ?_⟩
    have := World.ownsRow.cells ho (g := g) rfl _ _ (rowCells_get l i j x u hx hu)
    rw [add_at, ← Nat.add_assoc] at this
    exact this

theorem T.Sp.fr {S : Nat → Prop} {w w' : World} {lo hi : Nat} (hf : Fr S w w') (t : T) : (∀ b ∈ t.blocks, ¬ S b) → t.Sp w lo hi → t.Sp w' lo hi := by
  induction t using T.ind with
  | h k n s A cap l r ih =>
    intro hs
    rw [T.blocks_mk] at hs
    rw [T.sp_mk, T.sp_mk]
    rintro ⟨h1, h2, h3, h4⟩
    refine ⟨h1, h2, fun hl => ?_, fun x hx => ih x hx (fun b hb => hs b (List.mem_append_right _ (List.mem_flatten.2 ⟨_, List.mem_map_of_mem hx, hb⟩))) (h4 x hx)⟩
    obtain ⟨ho, g, rfl, hg⟩ := h3 hl
    refine ⟨owns_fr ho hf (fun g' hg' => ?_), g, rfl, hg⟩
    simp [Value.ownBlock] at hg'
    subst hg'
    refine hs g (List.mem_append_left _ ?_)
    cases l with
    | nil => exact absurd rfl hl
    | cons x l => simp

theorem T.Sp.more {w : World} {lo hi lo' hi' : Nat} (hl : lo' ≤ lo) (hh : hi ≤ hi') (t : T) : t.Sp w lo hi → t.Sp w lo' hi' := by
  induction t using T.ind with
  | h k n s A cap l r ih =>
    rw [T.sp_mk, T.sp_mk]
    rintro ⟨h1, h2, h3, h4⟩
    refine ⟨h1, h2, fun hl' => ?_, fun x hx => ih x hx (h4 x hx)⟩
    obtain ⟨ho, g, hA, hg⟩ := h3 hl'
    exact ⟨owns_mono ho hl, g, hA, by omega⟩

/-- .. and no two of them lie in one. -/
structure T.Sh (w : World) (lo hi : Nat) (t : T) : Prop where
  sp : t.Sp w lo hi
  nodup : t.blocks.Nodup

theorem T.Sh.inn {w : World} {lo hi : Nat} {t : T} (h : t.Sh w lo hi) : t.In w lo hi := T.Sp.inn t h.sp
theorem T.Sh.fr {S : Nat → Prop} {w w' : World} {lo hi : Nat} {t : T} (h : t.Sh w lo hi) (hf : Fr S w w') (hs : ∀ b ∈ t.blocks, ¬ S b) : t.Sh w' lo hi := ⟨T.Sp.fr hf t hs h.sp, h.nodup⟩
theorem T.Sh.fr' {S : Nat → Prop} {w w' : World} {lo hi : Nat} {t : T} (h : t.Sh w lo hi) (hf : Fr S w w') (hs : ∀ i, lo ≤ i → i < hi → ¬ S i) : t.Sh w' lo hi :=
  h.fr hf fun b hb => hs b (T.In.blocks t h.inn b hb).1 (T.In.blocks t h.inn b hb).2
theorem T.Sh.no {w w' : World} {lo hi : Nat} {t : T} (h : t.Sh w lo hi) (hf : Fr No w w') : t.Sh w' lo hi := h.fr hf fun _ _ h => h
theorem T.Sh.more {w : World} {lo hi lo' hi' : Nat} {t : T} (h : t.Sh w lo hi) (hl : lo' ≤ lo) (hh : hi ≤ hi') : t.Sh w lo' hi' := ⟨T.Sp.more hl hh t h.sp, h.nodup⟩

theorem T.sh_leaf {w : World} {lo hi : Nat} {k n : Int} {s : ByteArray} {r : Int} (h : Fit k n s 0 0 r) : (T.mk k n s none 0 [] r).Sh w lo hi :=
  ⟨T.sp_mk.2 ⟨h, fun _ => ⟨rfl, rfl⟩, fun h => absurd rfl h, by simp⟩, by rw [T.blocks_mk]; simp⟩

theorem row_list {cs : Array Value} {l : List T} (hs : cs.size = l.length * 5) (hr : RowIs cs 0 l) : cs.toList = rowCells l := by
  refine List.ext_getElem (by rw [Array.length_toList, rowCells_length, hs]) fun i h1 h2 => ?_
  rw [Array.length_toList] at h1
  have hi : i / 5 < l.length := by omega
  have hx : l[i / 5]? = some l[i / 5] := List.getElem?_eq_getElem hi
  have hc : i % 5 < l[i / 5].cells.length := by rw [T.cells_length]; omega
  have hu : l[i / 5].cells[i % 5]? = some l[i / 5].cells[i % 5] := List.getElem?_eq_getElem hc
  have e1 := hr (i / 5) _ hx (i % 5) _ hu
  have e2 := rowCells_get l (i / 5) (i % 5) _ _ hx hu
  have e3 : i / 5 * 5 + i % 5 = i := by omega
  rw [Nat.zero_add, e3] at e1
  rw [e3] at e2
  rw [List.getElem?_eq_getElem h2] at e2
  rw [Array.getElem?_eq_getElem h1] at e1
  rw [Array.getElem_toList]
  exact (Option.some.inj e1).trans (Option.some.inj e2).symm

/-- A row of so many values in a block known whole is its own. -/
theorem owns_blk {w : World} {g lo : Nat} {cs : Array Value} {l : List T} (h : Blk w g 37 cs) (hs : cs.size = l.length * 5) (hr : RowIs cs 0 l) (h0 : lo ≤ g) (hm : l.length ≤ maxLen) : w.ownsRow lo 37 5 (.slice (some ⟨g, 0, none⟩) l.length l.length) l.length (rowCells l) :=
  ⟨rowCells_length l, .inr ⟨g, l.length, cs, rfl, h0, h, Nat.le_refl _, hm, hs, by rw [row_list hs hr, List.take_of_length_le (by rw [rowCells_length]; omega)]⟩⟩

/-- A value of the same data in memory of its own. -/
def OwnP2 (v : V) (w : World) (e : Ending) (w' : World) : Prop :=
  ∃ t' : T, e = .returned t'.val ∧ t'.v = v ∧ t'.Sh w' w.heap.size w'.heap.size ∧ Fr No w w'

/-- Rows of one's own are no frozen ones. -/
theorem T.Sp.free {w : World} {lo hi : Nat} (t : T) : t.Sp w lo hi → ∀ b ∈ t.blocks, ∀ o, w.frozen? ⟨b, o, none⟩ = false := by
  induction t using T.ind with
  | h k n s A cap l r ih =>
    rw [T.sp_mk, T.blocks_mk]
    rintro ⟨h1, _, h3, h4⟩ b hb o
    rcases List.mem_append.1 hb with hb | hb
    · cases l with
      | nil => simp at hb
      | cons x l =>
        obtain ⟨ho, g, rfl, hg⟩ := h3 (by simp)
        simp at hb
        subst hb
        rcases ho.2 with ⟨h, _⟩ | ⟨g, cap, cur, h, _, hh, _⟩
        · cases h
        · simp at h
          obtain ⟨rfl, -⟩ := h
          exact Blk.frozen hh o
    · obtain ⟨bs, hbs, hb⟩ := List.mem_flatten.1 hb
      obtain ⟨x, hx, rfl⟩ := List.mem_map.1 hbs
      exact ih x hx (h4 x hx) b hb o

theorem T.Sh.ow {w : World} {lo hi : Nat} {t : T} (h : t.Sh w lo hi) : t.Ow w lo hi := ⟨h.inn, h.nodup, T.Sp.free t h.sp⟩

/-- Where the loop of 'own' stands. -/
structure OwnInv2 (w : World) (X Z : Array Value) (l : List T) (j : Nat) (l' : List T) (wr : World) : Prop where
  len : l'.length = j
  vs : l'.map T.v = (l.take j).map T.v
  fr : Fr No w wr
  b0 : Blk wr w.heap.size 37 X
  b1 : Blk wr (w.heap.size + 1) 37 Z
  row : ∃ cs, Blk wr (w.heap.size + 1 + 1) 37 cs ∧ cs.size = l.length * 5 ∧ RowIs cs 0 l'
  forest : Forest wr (w.heap.size + 3) wr.heap.size l'
  big : w.heap.size + 3 ≤ wr.heap.size
  sp : ∀ x ∈ l', x.Sp wr (w.heap.size + 3) wr.heap.size

set_option maxHeartbeats 4000000 in
theorem own2_any (t : T) : ∀ (w : World) (lo hi : Nat), t.In w lo hi → hi ≤ w.heap.size → Calls Try.prog 116 #[t.val] w (OwnP2 t.v w) := by
  induction t using T.ind with
  | h k n s A cap l r ih =>
    intro w lo hi ht hh
    rw [T.val_mk]
    have fit := (T.in_mk.1 ht).1
    have hlen := fit.len1
    obtain ⟨i0, hi0, hz0, hz1, hz2⟩ := info_parts value_info
    have hmk := fun W => run_make_rowN (P := Try.prog) 35 37 i0 _ Try.underlying35 hi0 hz0 .i64 .i64 l.length l.length (Nat.le_refl _) (by rw [hz2]; omega) (by omega) W
    rw [hz1] at hmk
    clear hi0 hz0 hz1 hz2
    by_cases hl : l.length = 0
    · have hl0 : ((l.length : Int) == 0) = true := by simp [hl]
      obtain rfl : l = [] := List.eq_nil_of_length_eq_zero hl
      clear hmk
      go_enter Try.func116, Try.ntmps116
      go_wp2
      refine bodyPost_ret (v := .agg #[.int .u8 k, .int .i64 n, .string s, .slice none 0 0, .int .i64 r]) (by simp [results, Try.results116, go_sem]) rfl ?_
      refine ⟨T.mk k n s none 0 [] r, rfl, by simp [T.v_mk], T.sh_leaf ⟨fit.k0, fit.k1, fit.n0, fit.n1, fit.s1, by simp, Nat.le_refl _, fit.r0, fit.r1⟩, ?_⟩
      exact ((Fr.refl No w).alloc _).alloc _
    · have hl0 : ((l.length : Int) == 0) = false := by simp; intro h; subst h; simp at hl
      have hl1 : (0 : Int) < (l.length : Int) := by omega
      go_enter Try.func116, Try.ntmps116
      go_wp2_with fail
      go_loopw [19] (fun i wr => ∃ (j : Nat) (l' : List T), j ≤ l.length ∧ i = .int .i64 j ∧
          OwnInv2 w #[.int .u8 k, .int .i64 n, .string s, .slice A l.length cap, .int .i64 r] #[.int .u8 0, .int .i64 0, .string ⟨#[]⟩, .slice none 0 0, .int .i64 0] l j l' wr)
        (fun i _ => l.length - (intOf i).toNat)
      case atStart =>
        refine ⟨0, [], Nat.zero_le _, rfl, rfl, by simp, (((Fr.refl No w).alloc _).alloc _).alloc _, ((Blk.new' w 37 _ rfl).alloc _).alloc _, (Blk.new' (w.alloc _) 37 _ (by simp)).alloc _,
          ⟨_, Blk.new' ((w.alloc _).alloc _) 37 _ (by simp), size_madeCells _ _, RowIs.nil _ _⟩, Forest.nil _ _ _, by simp, by simp⟩
      case round =>
        obtain ⟨j, l', hj, rfl, inv⟩ := hrel
        have fr := inv.fr
        have big := inv.big
        by_cases hlt : j < l.length
        · obtain ⟨b, o, k1, n1, s1, A1, cap1, l1, r1, rfl, hb0, hb1, hx, hin, e0, e1, e2, e3, e4⟩ := T.elem (ht.no fr hh) hlt
          have IH := ih l[j] (List.getElem_mem hlt)
          rw [hx] at IH
          have HX := hide hx
          have hle := Nat.le_of_lt hlt
          have HI := hide inv
          clear hx ih inv hmk
          go_wp2_with fail
          refine (IH _ lo hi (hin.no ((Fr.refl No wr).alloc _) (by omega)) (by simp; omega)).mono ?_
          rintro e w2 ⟨t', rfl, hv, sh, fr2⟩
          have HV := hide hv
          clear hv
          simp only [World.size_alloc] at sh
          have ow := sh.ow
          cases t' with
          | mk k2 n2 s2 A2 cap2 l2 r2 =>
            rw [T.val_mk]
            obtain ⟨cs, hb, hcs, hrow⟩ := HI.out.row
            have blk2 := (hb.alloc (.cells #[.int .u8 k1, .int .i64 n1, .string s1, .slice A1 l1.length cap1, .int .i64 r1] 37)).fr fr2 (fun h => h)
            obtain ⟨y0, x0⟩ : ∃ y, w2.cell? ⟨w.heap.size + 1 + 1, j * 5, none⟩ = some y := ⟨cs[j * 5]'(by omega), by rw [blk2.cell]; exact Array.getElem?_eq_getElem _⟩
            obtain ⟨y1, x1⟩ : ∃ y, w2.cell? ⟨w.heap.size + 1 + 1, j * 5 + 1, none⟩ = some y := ⟨cs[j * 5 + 1]'(by omega), by rw [blk2.cell]; exact Array.getElem?_eq_getElem _⟩
            obtain ⟨y2, x2⟩ : ∃ y, w2.cell? ⟨w.heap.size + 1 + 1, j * 5 + 2, none⟩ = some y := ⟨cs[j * 5 + 2]'(by omega), by rw [blk2.cell]; exact Array.getElem?_eq_getElem _⟩
            obtain ⟨y3, x3⟩ : ∃ y, w2.cell? ⟨w.heap.size + 1 + 1, j * 5 + 3, none⟩ = some y := ⟨cs[j * 5 + 3]'(by omega), by rw [blk2.cell]; exact Array.getElem?_eq_getElem _⟩
            obtain ⟨y4, x4⟩ : ∃ y, w2.cell? ⟨w.heap.size + 1 + 1, j * 5 + 4, none⟩ = some y := ⟨cs[j * 5 + 4]'(by omega), by rw [blk2.cell]; exact Array.getElem?_eq_getElem _⟩
            have xf := blk2.frozen
            have HB := hide blk2
            have HR := hide hrow
            have HC := hide hcs
            have HO := hide ow
            have HSH := hide sh
            clear sh
            clear blk2 hb hrow hcs ow
            go_wp2
            go_roundw
            case rel =>
              have inv := HI.out
              have hcs := HC.out
              have hsz2 := fr2.size
              simp only [World.size_alloc] at hsz2
              have hfar : ∀ {g : Nat} {X : Array Value}, g < w.heap.size + 2 → Blk wr g 37 X → Blk (((((w2.setCell ⟨w.heap.size + 1 + 1, j * 5, none⟩ (.int .u8 k2)).setCell ⟨w.heap.size + 1 + 1, j * 5 + 1, none⟩ (.int .i64 n2)).setCell ⟨w.heap.size + 1 + 1, j * 5 + 2, none⟩ (.string s2)).setCell
                  ⟨w.heap.size + 1 + 1, j * 5 + 3, none⟩ (.slice A2 l2.length cap2)).setCell ⟨w.heap.size + 1 + 1, j * 5 + 4, none⟩ (.int .i64 r2)) g 37 X := fun {g X} hg hX =>
                (((((((hX.alloc _).fr fr2 (fun h => h)).far (by simp; omega) _).far (by simp; omega) _).far (by simp; omega) _).far (by simp; omega) _).far (by simp; omega) _)
              have hst : Fr (· = w.heap.size + 1 + 1) w2 (((((w2.setCell ⟨w.heap.size + 1 + 1, j * 5, none⟩ (.int .u8 k2)).setCell ⟨w.heap.size + 1 + 1, j * 5 + 1, none⟩ (.int .i64 n2)).setCell ⟨w.heap.size + 1 + 1, j * 5 + 2, none⟩ (.string s2)).setCell
                  ⟨w.heap.size + 1 + 1, j * 5 + 3, none⟩ (.slice A2 l2.length cap2)).setCell ⟨w.heap.size + 1 + 1, j * 5 + 4, none⟩ (.int .i64 r2)) := (Fr.refl (fun i => i = w.heap.size + 1 + 1) w2).five (fun _ => rfl) _ _ _ _ _ _
              refine ⟨j + 1, l' ++ [T.mk k2 n2 s2 A2 cap2 l2 r2], hlt, by go_num, by simp [inv.len], ?_, ?_, hfar (by omega) inv.b0, hfar (by omega) inv.b1, ⟨_, HB.out.five _ _ _ _ _ _, ?_, ?_⟩, ?_, ?_, ?_⟩
              · rw [List.map_append, inv.vs, List.take_succ_eq_append_getElem hlt, List.map_append, List.map_singleton, List.map_singleton, HV.out, HX.out]
              · exact (((fr.alloc _).thenNo fr2).five (by omega) _ _ _ _ _ _)
              · simpa using hcs
              · have := HR.out.five (k := k2) (n := n2) (s := s2) (A := A2) (cap := cap2) (l1 := l2) (r := r2) (by rw [inv.len, hcs]; omega)
                simpa [inv.len] using this
              · have h1 : Forest w2 (w.heap.size + 3) (wr.heap.size + 1) l' := ((inv.forest.no ((Fr.refl No wr).alloc _) (Nat.le_refl _)).no fr2 (by simp)).more (Nat.le_refl _) (by omega)
                have h2 := h1.snoc HO.out (by omega) hsz2
                simpa using h2.fr hst (Nat.le_refl _) (fun i hi _ e => by omega)
              · simp; omega
              · intro x hx
                have hbl : ∀ (y : T) (lo hi : Nat), y.In w2 lo hi → w.heap.size + 3 ≤ lo → ∀ b ∈ y.blocks, ¬ b = w.heap.size + 1 + 1 := fun y lo hi hy hl b hb e => by
                  have := T.In.blocks y hy b hb; omega
                rcases List.mem_append.1 hx with hx | hx
                · have h1 := inv.sp x hx
                  have h2 := T.Sp.fr fr2 x (fun _ _ h => h) (T.Sp.fr ((Fr.refl No wr).alloc (.cells #[.int .u8 k1, .int .i64 n1, .string s1, .slice A1 l1.length cap1, .int .i64 r1] 37)) x (fun _ _ h => h) h1)
                  have h3 := T.Sp.fr hst x (hbl x _ _ (T.Sp.inn x h2) (Nat.le_refl _)) h2
                  exact T.Sp.more (Nat.le_refl _) (by simp; omega) x h3
                · simp at hx; subst hx
                  have h3 := T.Sp.fr hst _ (hbl _ _ _ HSH.out.inn (by omega)) HSH.out.sp
                  exact T.Sp.more (by omega) (by simp) _ h3
            case measure => simp [intOf]; omega
        · obtain rfl : l.length = j := by omega
          have c0 : wr.cell? ⟨w.heap.size, 0, none⟩ = some (.int .u8 k) := inv.b0.cell 0
          have c1 : wr.cell? ⟨w.heap.size, 1, none⟩ = some (.int .i64 n) := inv.b0.cell 1
          have c2 : wr.cell? ⟨w.heap.size, 2, none⟩ = some (.string s) := inv.b0.cell 2
          have c3 : wr.cell? ⟨w.heap.size, 3, none⟩ = some (.slice A l.length cap) := inv.b0.cell 3
          have c4 : wr.cell? ⟨w.heap.size, 4, none⟩ = some (.int .i64 r) := inv.b0.cell 4
          have cf := inv.b0.frozen 3
          have d0 : wr.cell? ⟨w.heap.size + 1, 0, none⟩ = some (.int .u8 0) := inv.b1.cell 0
          have d1 : wr.cell? ⟨w.heap.size + 1, 1, none⟩ = some (.int .i64 0) := inv.b1.cell 1
          have d2 : wr.cell? ⟨w.heap.size + 1, 2, none⟩ = some (.string ⟨#[]⟩) := inv.b1.cell 2
          have d3 : wr.cell? ⟨w.heap.size + 1, 3, none⟩ = some (.slice none 0 0) := inv.b1.cell 3
          have d4 : wr.cell? ⟨w.heap.size + 1, 4, none⟩ = some (.int .i64 0) := inv.b1.cell 4
          have df := inv.b1.frozen
          have HI := hide inv
          clear inv hmk ih
          go_wp2
          have inv := HI.out
          refine bodyPost_ret (v := .agg #[.int .u8 k, .int .i64 n, .string s, .slice (some ⟨w.heap.size + 1 + 1, 0, none⟩) l.length l.length, .int .i64 r]) (by simp [results, Try.results116, go_sem, *]) rfl ?_
          generalize hW : World.setCell _ _ _ = W
          have hfr : Fr (fun i => i = w.heap.size ∨ i = w.heap.size + 1) wr W := by
            rw [← hW]
            repeat (first | with_reducible exact Fr.refl _ wr | with_reducible refine Fr.set ?_ (by simp) _)
          obtain ⟨cs, hb, hcs, hrow⟩ := inv.row
          have hl' := inv.len
          have hb' : Blk W (w.heap.size + 1 + 1) 37 cs := hb.fr hfr (by omega)
          have hF : Forest W (w.heap.size + 3) wr.heap.size l' := inv.forest.fr hfr (Nat.le_refl _) (fun i h0 h1 h2 => by omega)
          have hsz := hfr.size
          refine ⟨T.mk k n s (some ⟨w.heap.size + 1 + 1, 0, none⟩) l.length l' r, by rw [T.val_mk, hl'], ?_, ?_, inv.fr.trans' hfr (fun i hi h => by omega)⟩
          · rw [T.v_mk, T.v_mk, inv.vs, List.take_of_length_le (Nat.le_refl _)]
          · have how : (T.mk k n s (some ⟨w.heap.size + 1 + 1, 0, none⟩) l.length l' r).Ow W w.heap.size W.heap.size := by
             refine T.ow_mk ⟨fit.k0, fit.k1, fit.n0, fit.n1, fit.s1, by omega, by omega, fit.r0, fit.r1⟩ (hF.more (by omega) hsz) hb' hrow (by omega) (by omega) (fun hm => ?_)
             have := hF.blocks _ hm
             omega
            refine ⟨T.sp_mk.2 ⟨(T.in_mk.1 how.inn).1, fun h => by subst h; simp at hl'; omega, fun _ => ⟨?_, _, rfl, by omega⟩, fun x hx => ?_⟩, how.nodup⟩
            · have := owns_blk (lo := w.heap.size) hb' (by rw [hcs, hl']) hrow (by omega) (by rw [hl']; unfold maxLen; omega)
              rwa [hl'] at this ⊢
            · have h1 := inv.sp x hx
              have h2 := T.Sp.fr hfr x (fun b hb h => by
                have := T.In.blocks x (T.Sp.inn x h1) b hb
                have h' : b = w.heap.size ∨ b = w.heap.size + 1 := h
                omega) h1
              exact T.Sp.more (by omega) hsz x h2

end Go.Proofs.Ytnddfiohofnbaaa

/- value.Own and brand.own: a value in memory of its own. -/
namespace Go.Proofs.Ytnddfiohofnbaaa
open Go.RowKit

/-- The zero value. -/
def T.zero : T := .mk 0 0 ⟨#[]⟩ none 0 [] 0
def V.zero : V := .mk 0 0 ⟨#[]⟩ [] 0
theorem T.zero_v : T.zero.v = V.zero := by simp [T.zero, T.v_mk, V.zero]
theorem T.zero_ow (w : World) (lo hi : Nat) : T.zero.Ow w lo hi := T.ow_nil ⟨by decide, by decide, by decide, by decide, by decide, by decide, by decide, by decide, by decide⟩
theorem T.zero_val : T.zero.val = .agg #[.int .u8 0, .int .i64 0, .string ⟨#[]⟩, .slice none 0 0, .int .i64 0] := rfl

/-- A value in new memory, and an error's number. -/
def OwnE (v : V) (n : Int) (w : World) (e : Ending) (w' : World) : Prop :=
  ∃ t' : T, e = .returned (.tuple #[t'.val, .int .i64 n]) ∧ t'.v = v ∧ t'.Ow w' w.heap.size w'.heap.size ∧ Fr No w w'

set_option maxHeartbeats 1000000 in
theorem Own_any (t : T) (w : World) (lo hi : Nat) (ht : t.In w lo hi) (hh : hi ≤ w.heap.size) :
    Calls Try.prog 119 #[t.val] w (OwnE (if t.v.may = true then t.v else V.zero) (if t.v.may = true then 0 else 2) w) := by
  have hM := fun w' h h' => may_any t w' lo hi h h'
  have hO := fun w' h h' => own_any t w' lo hi h h'
  cases t with
  | mk k n s A cap l r =>
    rw [T.val_mk] at *
    cases hm : (T.mk k n s A cap l r).v.may
    · rw [hm] at hM
      go_enter Try.func119, Try.ntmps119
      go_wp2_with fail
      refine (hM _ (ht.no (((Fr.refl No w).alloc _).alloc _) hh) (by simp; omega)).mono ?_
      rintro e w2 ⟨rfl, fr2⟩
      have hsz := fr2.size
      simp only [World.size_alloc] at hsz
      have hs0 : w.heap.size + 1 < w2.heap.size := by omega
      have b1 := (Blk.new' (w.alloc (.cells #[.int .u8 k, .int .i64 n, .string s, .slice A l.length cap, .int .i64 r] 37)) 37 #[.int .u8 0, .int .i64 0, .string ⟨#[]⟩, .slice none 0 0, .int .i64 0] (g := w.heap.size + 1) (by simp)).fr fr2 (fun h => h)
      obtain ⟨d0, d1, d2, d3, d4, df⟩ := b1.cells5
      have hF2 : Fr No w w2 := (((Fr.refl No w).alloc _).alloc _).trans fr2
      have HF := hide hF2
      clear b1 hO hF2
      go_wp2
      refine bodyPost_ret (v := .tuple #[.agg #[.int .u8 0, .int .i64 0, .string ⟨#[]⟩, .slice none 0 0, .int .i64 0], .int .i64 2]) (by simp [results, Try.results119, go_sem, *]) rfl ?_
      have hF2 := HF.out
      exact ⟨T.zero, rfl, T.zero_v, T.zero_ow _ _ _, (by repeat (first | with_reducible exact hF2 | with_reducible refine Fr.setNew ?_ (by simp) _ | with_reducible refine Fr.alloc ?_ _))⟩
    · rw [hm] at hM
      go_enter Try.func119, Try.ntmps119
      go_wp2_with fail
      refine (hM _ (ht.no (((Fr.refl No w).alloc _).alloc _) hh) (by simp; omega)).mono ?_
      rintro e w2 ⟨rfl, fr2⟩
      have hsz := fr2.size
      simp only [World.size_alloc] at hsz
      have hs0 : w.heap.size + 1 < w2.heap.size := by omega
      have b0 := ((Blk.new' w 37 #[.int .u8 k, .int .i64 n, .string s, .slice A l.length cap, .int .i64 r] (g := w.heap.size) rfl).alloc (.cells #[.int .u8 0, .int .i64 0, .string ⟨#[]⟩, .slice none 0 0, .int .i64 0] 37)).fr fr2 (fun h => h)
      have b1 := (Blk.new' (w.alloc (.cells #[.int .u8 k, .int .i64 n, .string s, .slice A l.length cap, .int .i64 r] 37)) 37 #[.int .u8 0, .int .i64 0, .string ⟨#[]⟩, .slice none 0 0, .int .i64 0] (g := w.heap.size + 1) (by simp)).fr fr2 (fun h => h)
      obtain ⟨c0, c1, c2, c3, c4, cf⟩ := b0.cells5
      obtain ⟨d0, d1, d2, d3, d4, df⟩ := b1.cells5
      have hF2 : Fr No w w2 := (((Fr.refl No w).alloc _).alloc _).trans fr2
      have HT := hide (ht.no hF2 hh)
      clear ht
      have HF := hide hF2
      have HB := hide b1
      clear b1 b0 hF2
      go_wp2_with fail
      refine (hO _ HT.out (by omega)).mono ?_
      rintro e w3 ⟨t', rfl, hv, ow, fr3⟩
      have b1 := HB.out.fr fr3 (fun h => h)
      obtain ⟨d0, d1, d2, d3, d4, df⟩ := b1.cells5
      have hF2 := HF.out.trans fr3
      have HF2 := hide hF2
      have HV := hide hv
      have HO := hide ow
      have hsz3 := fr3.size
      clear hv ow hF2 b1
      cases t' with
      | mk k2 n2 s2 A2 cap2 l2 r2 =>
        rw [T.val_mk]
        go_wp2
        refine bodyPost_ret (v := .tuple #[.agg #[.int .u8 k2, .int .i64 n2, .string s2, .slice A2 l2.length cap2, .int .i64 r2], .int .i64 0]) (by simp [results, Try.results119, go_sem, *]) rfl ?_
        have hF2 := HF2.out
        refine ⟨T.mk k2 n2 s2 A2 cap2 l2 r2, rfl, HV.out, ?_, (by repeat (first | with_reducible exact hF2 | with_reducible refine Fr.setNew ?_ (by simp) _ | with_reducible refine Fr.alloc ?_ _))⟩
        refine (HO.out.fr (S := (· = w.heap.size + 1)) ?_ (Nat.le_refl _) (fun i h0 h1 h2 => by omega)).more (by omega) (by simp)
        repeat (first | with_reducible exact Fr.refl _ w3 | with_reducible refine Fr.set ?_ (by simp) _)

end Go.Proofs.Ytnddfiohofnbaaa

/- Chapter 2: Own, At: their answers lie in rows of their own. -/
namespace Go.Proofs.Ytnddfiohofnbaaa
open Go.RowKit

theorem T.zero_sh (w : World) (lo hi : Nat) : T.zero.Sh w lo hi := T.sh_leaf ⟨by decide, by decide, by decide, by decide, by decide, by decide, by decide, by decide, by decide⟩

def OwnE2 (v : V) (n : Int) (w : World) (e : Ending) (w' : World) : Prop :=
  ∃ t' : T, e = .returned (.tuple #[t'.val, .int .i64 n]) ∧ t'.v = v ∧ t'.Sh w' w.heap.size w'.heap.size ∧ Fr No w w'

set_option maxHeartbeats 1000000 in
theorem Own2_any (t : T) (w : World) (lo hi : Nat) (ht : t.In w lo hi) (hh : hi ≤ w.heap.size) :
    Calls Try.prog 119 #[t.val] w (OwnE2 (if t.v.may = true then t.v else V.zero) (if t.v.may = true then 0 else 2) w) := by
  have hM := fun w' h h' => may_any t w' lo hi h h'
  have hO := fun w' h h' => own2_any t w' lo hi h h'
  cases t with
  | mk k n s A cap l r =>
    rw [T.val_mk] at *
    cases hm : (T.mk k n s A cap l r).v.may
    · rw [hm] at hM
      go_enter Try.func119, Try.ntmps119
      go_wp2_with fail
      refine (hM _ (ht.no (((Fr.refl No w).alloc _).alloc _) hh) (by simp; omega)).mono ?_
      rintro e w2 ⟨rfl, fr2⟩
      have hsz := fr2.size
      simp only [World.size_alloc] at hsz
      have hs0 : w.heap.size + 1 < w2.heap.size := by omega
      have b1 := (Blk.new' (w.alloc (.cells #[.int .u8 k, .int .i64 n, .string s, .slice A l.length cap, .int .i64 r] 37)) 37 #[.int .u8 0, .int .i64 0, .string ⟨#[]⟩, .slice none 0 0, .int .i64 0] (g := w.heap.size + 1) (by simp)).fr fr2 (fun h => h)
      obtain ⟨d0, d1, d2, d3, d4, df⟩ := b1.cells5
      have hF2 : Fr No w w2 := (((Fr.refl No w).alloc _).alloc _).trans fr2
      have HF := hide hF2
      clear b1 hO hF2
      go_wp2
      refine bodyPost_ret (v := .tuple #[.agg #[.int .u8 0, .int .i64 0, .string ⟨#[]⟩, .slice none 0 0, .int .i64 0], .int .i64 2]) (by simp [results, Try.results119, go_sem, *]) rfl ?_
      have hF2 := HF.out
      exact ⟨T.zero, rfl, T.zero_v, T.zero_sh _ _ _, (by repeat (first | with_reducible exact hF2 | with_reducible refine Fr.setNew ?_ (by simp) _ | with_reducible refine Fr.alloc ?_ _))⟩
    · rw [hm] at hM
      go_enter Try.func119, Try.ntmps119
      go_wp2_with fail
      refine (hM _ (ht.no (((Fr.refl No w).alloc _).alloc _) hh) (by simp; omega)).mono ?_
      rintro e w2 ⟨rfl, fr2⟩
      have hsz := fr2.size
      simp only [World.size_alloc] at hsz
      have hs0 : w.heap.size + 1 < w2.heap.size := by omega
      have b0 := ((Blk.new' w 37 #[.int .u8 k, .int .i64 n, .string s, .slice A l.length cap, .int .i64 r] (g := w.heap.size) rfl).alloc (.cells #[.int .u8 0, .int .i64 0, .string ⟨#[]⟩, .slice none 0 0, .int .i64 0] 37)).fr fr2 (fun h => h)
      have b1 := (Blk.new' (w.alloc (.cells #[.int .u8 k, .int .i64 n, .string s, .slice A l.length cap, .int .i64 r] 37)) 37 #[.int .u8 0, .int .i64 0, .string ⟨#[]⟩, .slice none 0 0, .int .i64 0] (g := w.heap.size + 1) (by simp)).fr fr2 (fun h => h)
      obtain ⟨c0, c1, c2, c3, c4, cf⟩ := b0.cells5
      obtain ⟨d0, d1, d2, d3, d4, df⟩ := b1.cells5
      have hF2 : Fr No w w2 := (((Fr.refl No w).alloc _).alloc _).trans fr2
      have HT := hide (ht.no hF2 hh)
      clear ht
      have HF := hide hF2
      have HB := hide b1
      clear b1 b0 hF2
      go_wp2_with fail
      refine (hO _ HT.out (by omega)).mono ?_
      rintro e w3 ⟨t', rfl, hv, ow, fr3⟩
      have b1 := HB.out.fr fr3 (fun h => h)
      obtain ⟨d0, d1, d2, d3, d4, df⟩ := b1.cells5
      have hF2 := HF.out.trans fr3
      have HF2 := hide hF2
      have HV := hide hv
      have HO := hide ow
      have hsz3 := fr3.size
      clear hv ow hF2 b1
      cases t' with
      | mk k2 n2 s2 A2 cap2 l2 r2 =>
        rw [T.val_mk]
        go_wp2
        refine bodyPost_ret (v := .tuple #[.agg #[.int .u8 k2, .int .i64 n2, .string s2, .slice A2 l2.length cap2, .int .i64 r2], .int .i64 0]) (by simp [results, Try.results119, go_sem, *]) rfl ?_
        have hF2 := HF2.out
        refine ⟨T.mk k2 n2 s2 A2 cap2 l2 r2, rfl, HV.out, ?_, (by repeat (first | with_reducible exact hF2 | with_reducible refine Fr.setNew ?_ (by simp) _ | with_reducible refine Fr.alloc ?_ _))⟩
        refine (HO.out.fr' (S := (· = w.heap.size + 1)) ?_ (fun i h0 h1 h2 => by have h' : i = w.heap.size + 1 := h2; omega)).more (by omega) (by simp)
        repeat (first | with_reducible exact Fr.refl _ w3 | with_reducible refine Fr.set ?_ (by simp) _)

end Go.Proofs.Ytnddfiohofnbaaa

/- Things of whatever kind, with lists, code and names: how they lie in memory; what came in as one. -/
namespace Go.Proofs.Ytnddfiohofnbaaa
open Go.Joins Go.ChangeShapes Go.WideShapes Go.RowKit Go.Deep

/-- A name in memory: its text, and what it stands for. -/
abbrev Nm := ByteArray × T

def nmCells (x : Nm) : List Value := .string x.1 :: x.2.cells

theorem nmCells_length (x : Nm) : (nmCells x).length = 6 := by simp [nmCells, T.cells_length]

/-- Some names lie one behind the other. -/
structure NmRow (w : World) (lo hi : Nat) (A : Option Addr) (cap : Nat) (l : List Nm) : Prop where
  len1 : l.length * 80 ≤ 140737488351232
  cap1 : l.length ≤ cap
  at_ : l ≠ [] → ∃ b o, A = some ⟨b, o, none⟩ ∧ lo ≤ b ∧ b < hi ∧ ∀ i x, l[i]? = some x → ∀ j u, (nmCells x)[j]? = some u → w.cell? ⟨b, o + i * 6 + j, none⟩ = some u
  inn : ∀ x ∈ l, x.1.size ≤ 140737488351232 ∧ x.2.In w lo hi

/-- Some statements lie one behind the other. -/
structure CdRow (w : World) (lo hi : Nat) (A : Option Addr) (cap : Nat) (l : List G) : Prop where
  len1 : l.length * 256 ≤ 140737488351232
  cap1 : l.length ≤ cap
  ty : ∀ x ∈ l, Ty 170 x
  inn : (G.row A l).In w lo hi

/-- A thing: all that it has. -/
structure Tg where
  kind : Int
  home : Int
  v : T
  VA : Option Addr
  vc : Nat
  vs : List T
  n : Int
  lost : Int
  ofr : Int
  byr : Int
  set : Int
  full : Bool
  CA : Option Addr
  cc : Nat
  code : List G
  NA : Option Addr
  nc : Nat
  names : List Nm

/-- A thing's sixteen cells, written out. -/
def c16 (kind home k n : Int) (s : ByteArray) (A : Option Addr) (len cap : Nat) (r : Int) (VA : Option Addr) (vl vc : Nat) (n1 lost ofr byr set : Int) (full : Bool) (CA : Option Addr) (cl cc : Nat) (NA : Option Addr) (nl nc : Nat) : Array Value :=
  #[.int .u8 kind, .int .i64 home, .int .u8 k, .int .i64 n, .string s, .slice A len cap, .int .i64 r, .slice VA vl vc, .int .i64 n1, .int .i64 lost, .int .i64 ofr, .int .i64 byr, .int .u8 set, .bool full, .slice CA cl cc, .slice NA nl nc]

def Tg.cells (x : Tg) : List Value := [.int .u8 x.kind, .int .i64 x.home] ++ (x.v.cells ++ [.slice x.VA x.vs.length x.vc, .int .i64 x.n, .int .i64 x.lost, .int .i64 x.ofr, .int .i64 x.byr, .int .u8 x.set, .bool x.full, .slice x.CA x.code.length x.cc, .slice x.NA x.names.length x.nc])

def Tg.val (x : Tg) : Value := .agg x.cells.toArray

/-- The bounds of a thing's own numbers. -/
structure Tg.Fit (x : Tg) : Prop where
  kind : 0 ≤ x.kind ∧ x.kind < 256
  home : -9223372036854775808 ≤ x.home ∧ x.home ≤ 9223372036854775807
  n : -9223372036854775808 ≤ x.n ∧ x.n ≤ 9223372036854775807
  lost : -9223372036854775808 ≤ x.lost ∧ x.lost ≤ 9223372036854775807
  ofr : -9223372036854775808 ≤ x.ofr ∧ x.ofr ≤ 9223372036854775807
  byr : -9223372036854775808 ≤ x.byr ∧ x.byr ≤ 9223372036854775807
  set : 0 ≤ x.set ∧ x.set < 256

/-- A thing's lists lie in the blocks from lo on, below hi. -/
structure Tg.In (w : World) (lo hi : Nat) (x : Tg) : Prop where
  fit : x.Fit
  v : x.v.In w lo hi
  vs : (T.row x.VA x.vc x.vs).In w lo hi
  code : CdRow w lo hi x.CA x.cc x.code
  names : NmRow w lo hi x.NA x.nc x.names

section
variable {S : Nat → Prop} {a w : World} {lo hi : Nat}

theorem NmRow.fr {A : Option Addr} {cap : Nat} {l : List Nm} (h : NmRow a lo hi A cap l) (hf : Fr S a w) (hh : hi ≤ a.heap.size) (hs : ∀ i, lo ≤ i → i < hi → ¬ S i) : NmRow w lo hi A cap l := by
  refine ⟨h.len1, h.cap1, fun hl => ?_, fun x hx => ⟨(h.inn x hx).1, (h.inn x hx).2.fr hf hh hs⟩⟩
  obtain ⟨b, o, rfl, h0, h1, hc⟩ := h.at_ hl
  exact ⟨b, o, rfl, h0, h1, fun i x hx j u hu => (hf.cell (by omega) (hs b h0 h1)).trans (hc i x hx j u hu)⟩

theorem NmRow.more {A : Option Addr} {cap : Nat} {l : List Nm} {lo' hi' : Nat} (h : NmRow a lo hi A cap l) (hl : lo' ≤ lo) (hh : hi ≤ hi') : NmRow a lo' hi' A cap l := by
  refine ⟨h.len1, h.cap1, fun hl' => ?_, fun x hx => ⟨(h.inn x hx).1, T.In.more hl hh _ (h.inn x hx).2⟩⟩
  obtain ⟨b, o, rfl, h0, h1, hc⟩ := h.at_ hl'
  exact ⟨b, o, rfl, by omega, by omega, hc⟩

theorem CdRow.fr {A : Option Addr} {cap : Nat} {l : List G} (h : CdRow a lo hi A cap l) (hf : Fr S a w) (hh : hi ≤ a.heap.size) (hs : ∀ i, lo ≤ i → i < hi → ¬ S i) : CdRow w lo hi A cap l := ⟨h.len1, h.cap1, h.ty, h.inn.fr hf hh hs⟩

theorem CdRow.more {A : Option Addr} {cap : Nat} {l : List G} {lo' hi' : Nat} (h : CdRow a lo hi A cap l) (hl : lo' ≤ lo) (hh : hi ≤ hi') : CdRow a lo' hi' A cap l := ⟨h.len1, h.cap1, h.ty, G.In.more hl hh _ h.inn⟩

theorem Tg.In.fr {x : Tg} (h : x.In a lo hi) (hf : Fr S a w) (hh : hi ≤ a.heap.size) (hs : ∀ i, lo ≤ i → i < hi → ¬ S i) : x.In w lo hi := ⟨h.fit, h.v.fr hf hh hs, h.vs.fr hf hh hs, h.code.fr hf hh hs, h.names.fr hf hh hs⟩

theorem Tg.In.no {x : Tg} (h : x.In a lo hi) (hf : Fr No a w) (hh : hi ≤ a.heap.size) : x.In w lo hi := h.fr hf hh fun _ _ _ h => h

theorem Tg.In.more {x : Tg} {lo' hi' : Nat} (h : x.In a lo hi) (hl : lo' ≤ lo) (hh : hi ≤ hi') : x.In a lo' hi' := ⟨h.fit, T.In.more hl hh _ h.v, T.In.more hl hh _ h.vs, h.code.more hl hh, h.names.more hl hh⟩
end

/-- A name's tree. -/
theorem ty_name {g : G} (h : Ty 139 g) : ∃ x : Nm, g.c = nmCells x ∧ x.1.size ≤ 140737488351232 ∧ ∀ (w : World) (lo hi : Nat), g.In w lo hi → x.2.In w lo hi := by
  obtain ⟨c, s⟩ := g
  have h0 := h.fits
  rw [flat_name] at h0
  obtain ⟨nm, c, rfl, w0, h0⟩ := h0.inv_str
  obtain ⟨k, c, rfl, w1, h0⟩ := h0.inv_int
  obtain ⟨n, c, rfl, w2, h0⟩ := h0.inv_int
  obtain ⟨b, c, rfl, w3, h0⟩ := h0.inv_str
  obtain ⟨A, l, cap, c, s, rfl, rfl, w4, w5, h0⟩ := h0.inv_sl
  obtain ⟨r, c, rfl, w6, h0⟩ := h0.inv_int
  obtain ⟨rfl, rfl⟩ := h0.inv_nil
  have hk := h.kids 0 _ (by rw [flat_name]; rfl) rfl
  have hv : Ty 37 (.mk [.int .u8 k, .int .i64 n, .string b, .slice A l.length cap, .int .i64 r] [(A, l)]) := by
    refine .mk _ _ _ ?_ fun i e A' l' x he hs hx => ?_
    · rw [flat_val]
      exact ⟨⟨k, rfl, w1⟩, ⟨n, rfl, w2⟩, ⟨b, rfl, w3⟩, ⟨cap, rfl, w4, w5⟩, ⟨r, rfl, w6⟩, rfl, rfl⟩
    · rw [flat_val] at he
      cases i with
      | zero =>
        simp [sls] at he hs
        obtain ⟨rfl, rfl⟩ := hs
        subst he
        exact hk x hx
      | succ i => simp at hs
  obtain ⟨t, ht, hin⟩ := ty_val _ hv
  refine ⟨(nm, t), ?_, w0, fun w lo hi hi' => hin w lo hi ?_⟩
  · show Value.string nm :: _ = Value.string nm :: t.cells
    rw [← ht]
    rfl
  · rw [G.in_rows] at hi' ⊢
    exact hi'

theorem ty_names {l : List G} (h : ∀ x ∈ l, Ty 139 x) : ∃ ts : List Nm, ts.length = l.length ∧ ∀ (A : Option Addr) (cap : Nat) (w : World) (lo hi : Nat), l.length * 80 ≤ 140737488351232 → l.length ≤ cap → (G.row A l).In w lo hi → NmRow w lo hi A cap ts := by
  have hone : ∀ i, i < l.length → ∃ t : Nm, ∃ x, l[i]? = some x ∧ x.c = nmCells t ∧ t.1.size ≤ 140737488351232 ∧ ∀ (w : World) (lo hi : Nat), x.In w lo hi → t.2.In w lo hi := fun i hi => by
    have hm := List.getElem_mem hi
    obtain ⟨t, h1, h2, h3⟩ := ty_name (h _ hm)
    exact ⟨t, l[i], List.getElem?_eq_getElem hi, h1, h2, h3⟩
  obtain ⟨ts, hts, hq⟩ := choose_list l.length hone
  refine ⟨ts, hts, fun A cap w lo hi hl hc hin => ?_⟩
  obtain ⟨h1, h2⟩ := G.row_in.1 hin
  refine ⟨by rw [hts]; exact hl, by rw [hts]; exact hc, fun hne => ?_, fun x hx => ?_⟩
  · obtain ⟨b, o, rfl, hb0, hb1, hc⟩ := h1 (by rintro rfl; simp at hts; exact hne hts)
    refine ⟨b, o, rfl, hb0, hb1, fun i x hx j u hu => ?_⟩
    obtain ⟨y, hy, hc1, -⟩ := hq i x hx
    have := hc i y hy j u (by rw [hc1]; exact hu)
    rwa [hc1, nmCells_length] at this
  · obtain ⟨i, hi', rfl⟩ := List.mem_iff_getElem.1 hx
    obtain ⟨y, hy, -, hc2, hc3⟩ := hq i _ (List.getElem?_eq_getElem hi')
    exact ⟨hc2, hc3 w lo hi (h2 y (List.mem_of_getElem? hy))⟩

theorem fit_row : Fit 3 0 ⟨#[]⟩ 0 0 0 := ⟨by decide, by decide, by decide, by decide, by decide, by decide, by decide, by decide, by decide⟩

/-- A thing of an entry, and its number. -/
theorem ty_entry {g : G} (h : Ty 129 g) : ∃ (r : Int) (x : Tg), g.c = .int .i64 r :: x.cells ∧ -9223372036854775808 ≤ r ∧ r ≤ 9223372036854775807 ∧ ∀ (w : World) (lo hi : Nat), g.In w lo hi → x.In w lo hi := by
  obtain ⟨c, s⟩ := g
  have h0 := h.fits
  rw [flat_entry] at h0
  obtain ⟨ref, c, rfl, w0, h0⟩ := h0.inv_int
  obtain ⟨kind, c, rfl, w1, h0⟩ := h0.inv_int
  obtain ⟨home, c, rfl, w2, h0⟩ := h0.inv_int
  obtain ⟨k, c, rfl, w3, h0⟩ := h0.inv_int
  obtain ⟨n, c, rfl, w4, h0⟩ := h0.inv_int
  obtain ⟨b, c, rfl, w5, h0⟩ := h0.inv_str
  obtain ⟨A, l, cap, c, s, rfl, rfl, w6, w7, h0⟩ := h0.inv_sl
  obtain ⟨r, c, rfl, w8, h0⟩ := h0.inv_int
  obtain ⟨VA, vl, vc, c, s, rfl, rfl, w9, w10, h0⟩ := h0.inv_sl
  obtain ⟨n1, c, rfl, w11, h0⟩ := h0.inv_int
  obtain ⟨lost, c, rfl, w12, h0⟩ := h0.inv_int
  obtain ⟨ofr, c, rfl, w13, h0⟩ := h0.inv_int
  obtain ⟨byr, c, rfl, w14, h0⟩ := h0.inv_int
  obtain ⟨set, c, rfl, w15, h0⟩ := h0.inv_int
  obtain ⟨full, c, e1, h1⟩ := h0.inv_bool
  subst e1
  replace h0 := h1
  obtain ⟨CA, cl, cc, c, s, rfl, rfl, w16, w17, h0⟩ := h0.inv_sl
  obtain ⟨NA, nl, nc, c, s, rfl, rfl, w18, w19, h0⟩ := h0.inv_sl
  obtain ⟨rfl, rfl⟩ := h0.inv_nil
  have hs : sls (flat 129) = [37, 37, 170, 139] := by rw [flat_entry]; rfl
  have hk0 := h.kids 0 _ (by rw [hs]; rfl) rfl
  have hk1 := h.kids 1 _ (by rw [hs]; rfl) rfl
  have hk2 := h.kids 2 _ (by rw [hs]; rfl) rfl
  have hk3 := h.kids 3 _ (by rw [hs]; rfl) rfl
  have hv : Ty 37 (.mk [.int .u8 k, .int .i64 n, .string b, .slice A l.length cap, .int .i64 r] [(A, l)]) := by
    refine .mk _ _ _ ?_ fun i e A' l' x he hs hx => ?_
    · rw [flat_val]
      exact ⟨⟨k, rfl, w3⟩, ⟨n, rfl, w4⟩, ⟨b, rfl, w5⟩, ⟨cap, rfl, w6, w7⟩, ⟨r, rfl, w8⟩, rfl, rfl⟩
    · rw [flat_val] at he
      cases i with
      | zero =>
        simp [sls] at he hs
        obtain ⟨rfl, rfl⟩ := hs
        subst he
        exact hk0 x hx
      | succ i => simp at hs
  obtain ⟨t, ht, hin⟩ := ty_val _ hv
  obtain ⟨ts, hts, htin⟩ := ty_vals hk1
  obtain ⟨ns, hns, hnin⟩ := ty_names hk3
  refine ⟨ref, ⟨kind, home, t, VA, vc, ts, n1, lost, ofr, byr, set, full, CA, cc, cl, NA, nc, ns⟩, ?_, (wf_i64 w0).1, (wf_i64 w0).2, fun w lo hi hi' => ?_⟩
  · have ht' : t.cells = [.int .u8 k, .int .i64 n, .string b, .slice A l.length cap, .int .i64 r] := ht.symm
    simp [G.c, Tg.cells, ht', hts, hns]
  · have hr := G.in_rows.1 hi'
    refine ⟨⟨wf_u8 w1, wf_i64 w2, wf_i64 w11, wf_i64 w12, wf_i64 w13, wf_i64 w14, wf_u8 w15⟩, hin w lo hi (G.in_rows.2 fun A' l' hm => ?_), ?_, ⟨w17, w16, hk2, hr _ _ (by simp)⟩, hnin NA nc w lo hi w19 w18 (hr _ _ (by simp))⟩
    · simp at hm
      obtain ⟨rfl, rfl⟩ := hm
      exact hr _ _ (by simp)
    · obtain ⟨q1, q2⟩ := htin VA [] [(VA, vl)] w lo hi (by simp) (hr VA vl (by simp))
      refine T.in_mk.2 ⟨⟨by decide, by decide, by decide, by decide, by decide, by rw [hts]; exact w10, by rw [hts]; exact w9, by decide, by decide⟩, q1, q2⟩

end Go.Proofs.Ytnddfiohofnbaaa

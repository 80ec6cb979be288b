/- Texts joined: X3, P1, B2, P6, Gw, Wo0, Gm, Fp, Gf1, Gf2, Wo1, Ga. -/
import Derived.Test.YtlejelbefmkakaaGreatJn1
import Derived.Laws.IdiomRangeMap
import Derived.RangeFuncRecord
import Derived.MapKept
import Derived.Maps.RangeRun
import Derived.Laws.BitsAllLaws
import Derived.LoopN
namespace Go.Proofs.YtlejelbefmkakaaGreat
open Go.RowKit
theorem value_info : (Tryz.prog.info? 28).map (fun i => (i.zero, i.size, i.bytes)) = some (some (.agg #[.int .u8 0, .int .i64 0, .string ⟨#[]⟩, .slice none 0 0, .int .i64 0]), 5, 64) := by kernel_rfl
theorem run_make_rowN {P : Program} (t e : TypeId) (i : TypeInfo) (z : Value) (ht : P.underlying t = some (.slice e)) (hi : P.info? e = some i) (hz : i.zero = some z)
 (kl kc : IntKind) (n c : Nat) (hnc : n ≤ c) (hbytes : i.bytes * c ≤ 281474976710656) (h63 : c ≤ 9223372036854775807) (w : World) :
 (Instr.makeSlice t (.int kl (n : Int)) (.int kc (c : Int))).run P w = .ok (.slice (some ⟨w.heap.size, 0, none⟩) n c) (w.alloc (.cells (madeCells z.cells (c * i.size)) e)) := by
 have hb : (i.bytes : Int) * (c : Int) ≤ 281474976710656 := by
  have h : ((i.bytes * c : Nat) : Int) ≤ 281474976710656 := by omega
  rwa [Int.natCast_mul] at h
 have hr := run_make (P := P) w t e i z ht hi hz kl kc n c (by omega) (by omega) hb (by omega)
 simp only [Int.toNat_natCast] at hr
 exact hr
def OwnP (v : V) (w : World) (e : Ending) (w' : World) : Prop :=
 ∃ t' : T, e = .returned t'.val ∧ t'.v = v ∧ t'.Ow w' w.heap.size w'.heap.size ∧ Fr No w w'
structure OwnInv (w : World) (X Z : Array Value) (l : List T) (j : Nat) (l' : List T) (wr : World) : Prop where
 len : l'.length = j
 vs : l'.map T.v = (l.take j).map T.v
 fr : Fr No w wr
 b0 : Blk wr w.heap.size 28 X
 b1 : Blk wr (w.heap.size + 1) 28 Z
 row : ∃ cs, Blk wr (w.heap.size + 1 + 1) 28 cs ∧ cs.size = l.length * 5 ∧ RowIs cs 0 l'
 forest : Forest wr (w.heap.size + 3) wr.heap.size l'
 big : w.heap.size + 3 ≤ wr.heap.size
end Go.Proofs.YtlejelbefmkakaaGreat

namespace Go.Proofs.YtlejelbefmkakaaGreat
open Go.RowKit
def T.Sp (w : World) (lo hi : Nat) : T → Prop
 | .mk k n s A cap l r => Fit k n s l.length cap r ∧ (l = [] → A = none ∧ cap = 0) ∧ (l ≠ [] → w.ownsRow lo 28 5 (.slice A l.length cap) l.length (rowCells l) ∧ ∃ g, A = some ⟨g, 0, none⟩ ∧ g < hi) ∧ ∀ x ∈ l, T.Sp w lo hi x
termination_by t => t
theorem T.sp_mk {w : World} {lo hi : Nat} {k n : Int} {s : ByteArray} {A : Option Addr} {cap : Nat} {l : List T} {r : Int} :
 (T.mk k n s A cap l r).Sp w lo hi ↔ Fit k n s l.length cap r ∧ (l = [] → A = none ∧ cap = 0) ∧ (l ≠ [] → w.ownsRow lo 28 5 (.slice A l.length cap) l.length (rowCells l) ∧ ∃ g, A = some ⟨g, 0, none⟩ ∧ g < hi) ∧ ∀ x ∈ l, x.Sp w lo hi := by
 rw [T.Sp]
theorem owns_mono {w : World} {base base' : Nat} {e : TypeId} {size : Nat} {v : Value} {n : Nat} {xs : List Value} (h : w.ownsRow base e size v n xs) (hb : base' ≤ base) : w.ownsRow base' e size v n xs := by
 refine ⟨h.1, ?_⟩
 rcases h.2 with h | ⟨g, cap, cur, h1, h2, h3⟩
 · exact .inl h
 · exact .inr ⟨g, cap, cur, h1, by omega, h3⟩
theorem T.Sp.inn {w : World} {lo hi : Nat} (t : T) : t.Sp w lo hi → t.In w lo hi := by
 induction t using T.ind with
 | h k n s A cap l r ih =>
  rw [T.sp_mk, T.in_mk]
  rintro ⟨h1, _, h3, h4⟩
  refine ⟨h1, fun hl => ?_, fun x hx => ih x hx (h4 x hx)⟩
  obtain ⟨ho, g, rfl, hg⟩ := h3 hl
  have hb := owns_lt ho g rfl
  refine ⟨g, 0, rfl, hb.1, hg, fun i x hx j u hu => ?_⟩
  have := World.ownsRow.cells ho (g := g) rfl _ _ (rowCells_get l i j x u hx hu)
  rw [add_at, ← Nat.add_assoc] at this
  exact this
theorem T.Sp.fr {S : Nat → Prop} {w w' : World} {lo hi : Nat} (hf : Fr S w w') (t : T) : (∀ b ∈ t.blocks, ¬ S b) → t.Sp w lo hi → t.Sp w' lo hi := by
 induction t using T.ind with
 | h k n s A cap l r ih =>
  intro hs
  rw [T.blocks_mk] at hs
  rw [T.sp_mk, T.sp_mk]
  rintro ⟨h1, h2, h3, h4⟩
  refine ⟨h1, h2, fun hl => ?_, fun x hx => ih x hx (fun b hb => hs b (List.mem_append_right _ (List.mem_flatten.2 ⟨_, List.mem_map_of_mem hx, hb⟩))) (h4 x hx)⟩
  obtain ⟨ho, g, rfl, hg⟩ := h3 hl
  refine ⟨owns_fr ho hf (fun g' hg' => ?_), g, rfl, hg⟩
  simp [Value.ownBlock] at hg'
  subst hg'
  refine hs g (List.mem_append_left _ ?_)
  cases l with
  | nil => exact absurd rfl hl
  | cons x l => simp
theorem T.Sp.more {w : World} {lo hi lo' hi' : Nat} (hl : lo' ≤ lo) (hh : hi ≤ hi') (t : T) : t.Sp w lo hi → t.Sp w lo' hi' := by
 induction t using T.ind with
 | h k n s A cap l r ih =>
  rw [T.sp_mk, T.sp_mk]
  rintro ⟨h1, h2, h3, h4⟩
  refine ⟨h1, h2, fun hl' => ?_, fun x hx => ih x hx (h4 x hx)⟩
  obtain ⟨ho, g, hA, hg⟩ := h3 hl'
  exact ⟨owns_mono ho hl, g, hA, by omega⟩
structure T.Sh (w : World) (lo hi : Nat) (t : T) : Prop where
 sp : t.Sp w lo hi
 nodup : t.blocks.Nodup
theorem T.Sh.inn {w : World} {lo hi : Nat} {t : T} (h : t.Sh w lo hi) : t.In w lo hi := T.Sp.inn t h.sp
theorem T.Sh.fr {S : Nat → Prop} {w w' : World} {lo hi : Nat} {t : T} (h : t.Sh w lo hi) (hf : Fr S w w') (hs : ∀ b ∈ t.blocks, ¬ S b) : t.Sh w' lo hi := ⟨T.Sp.fr hf t hs h.sp, h.nodup⟩
theorem T.Sh.fr' {S : Nat → Prop} {w w' : World} {lo hi : Nat} {t : T} (h : t.Sh w lo hi) (hf : Fr S w w') (hs : ∀ i, lo ≤ i → i < hi → ¬ S i) : t.Sh w' lo hi :=
 h.fr hf fun b hb => hs b (T.In.blocks t h.inn b hb).1 (T.In.blocks t h.inn b hb).2
theorem T.Sh.more {w : World} {lo hi lo' hi' : Nat} {t : T} (h : t.Sh w lo hi) (hl : lo' ≤ lo) (hh : hi ≤ hi') : t.Sh w lo' hi' := ⟨T.Sp.more hl hh t h.sp, h.nodup⟩
theorem T.sh_leaf {w : World} {lo hi : Nat} {k n : Int} {s : ByteArray} {r : Int} (h : Fit k n s 0 0 r) : (T.mk k n s none 0 [] r).Sh w lo hi :=
 ⟨T.sp_mk.2 ⟨h, fun _ => ⟨rfl, rfl⟩, fun h => absurd rfl h, by simp⟩, by rw [T.blocks_mk]; simp⟩
theorem row_list {cs : Array Value} {l : List T} (hs : cs.size = l.length * 5) (hr : RowIs cs 0 l) : cs.toList = rowCells l := by
 refine List.ext_getElem (by rw [Array.length_toList, rowCells_length, hs]) fun i h1 h2 => ?_
 rw [Array.length_toList] at h1
 have hi : i / 5 < l.length := by omega
 have hx : l[i / 5]? = some l[i / 5] := List.getElem?_eq_getElem hi
 have hc : i % 5 < l[i / 5].cells.length := by rw [T.cells_length]; omega
 have hu : l[i / 5].cells[i % 5]? = some l[i / 5].cells[i % 5] := List.getElem?_eq_getElem hc
 have e1 := hr (i / 5) _ hx (i % 5) _ hu
 have e2 := rowCells_get l (i / 5) (i % 5) _ _ hx hu
 have e3 : i / 5 * 5 + i % 5 = i := by omega
 rw [Nat.zero_add, e3] at e1
 rw [e3] at e2
 rw [List.getElem?_eq_getElem h2] at e2
 rw [Array.getElem?_eq_getElem h1] at e1
 rw [Array.getElem_toList]
 exact (Option.some.inj e1).trans (Option.some.inj e2).symm
theorem owns_blk {w : World} {g lo : Nat} {cs : Array Value} {l : List T} (h : Blk w g 28 cs) (hs : cs.size = l.length * 5) (hr : RowIs cs 0 l) (h0 : lo ≤ g) (hm : l.length ≤ maxLen) : w.ownsRow lo 28 5 (.slice (some ⟨g, 0, none⟩) l.length l.length) l.length (rowCells l) :=
 ⟨rowCells_length l, .inr ⟨g, l.length, cs, rfl, h0, h, Nat.le_refl _, hm, hs, by rw [row_list hs hr, List.take_of_length_le (by rw [rowCells_length]; omega)]⟩⟩
def OwnP2 (v : V) (w : World) (e : Ending) (w' : World) : Prop :=
 ∃ t' : T, e = .returned t'.val ∧ t'.v = v ∧ t'.Sh w' w.heap.size w'.heap.size ∧ Fr No w w'
theorem T.Sp.free {w : World} {lo hi : Nat} (t : T) : t.Sp w lo hi → ∀ b ∈ t.blocks, ∀ o, w.frozen? ⟨b, o, none⟩ = false := by
 induction t using T.ind with
 | h k n s A cap l r ih =>
  rw [T.sp_mk, T.blocks_mk]
  rintro ⟨h1, _, h3, h4⟩ b hb o
  rcases List.mem_append.1 hb with hb | hb
  · cases l with
    | nil => simp at hb
    | cons x l =>
     obtain ⟨ho, g, rfl, hg⟩ := h3 (by simp)
     simp at hb
     subst hb
     rcases ho.2 with ⟨h, _⟩ | ⟨g, cap, cur, h, _, hh, _⟩
     · cases h
     · simp at h
       obtain ⟨rfl, -⟩ := h
       exact Blk.frozen hh o
  · obtain ⟨bs, hbs, hb⟩ := List.mem_flatten.1 hb
    obtain ⟨x, hx, rfl⟩ := List.mem_map.1 hbs
    exact ih x hx (h4 x hx) b hb o
theorem T.Sh.ow {w : World} {lo hi : Nat} {t : T} (h : t.Sh w lo hi) : t.Ow w lo hi := ⟨h.inn, h.nodup, T.Sp.free t h.sp⟩
structure OwnInv2 (w : World) (X Z : Array Value) (l : List T) (j : Nat) (l' : List T) (wr : World) : Prop where
 len : l'.length = j
 vs : l'.map T.v = (l.take j).map T.v
 fr : Fr No w wr
 b0 : Blk wr w.heap.size 28 X
 b1 : Blk wr (w.heap.size + 1) 28 Z
 row : ∃ cs, Blk wr (w.heap.size + 1 + 1) 28 cs ∧ cs.size = l.length * 5 ∧ RowIs cs 0 l'
 forest : Forest wr (w.heap.size + 3) wr.heap.size l'
 big : w.heap.size + 3 ≤ wr.heap.size
 sp : ∀ x ∈ l', x.Sp wr (w.heap.size + 3) wr.heap.size
set_option maxHeartbeats 4000000 in
theorem own2_any (t : T) : ∀ (w : World) (lo hi : Nat), t.In w lo hi → hi ≤ w.heap.size → Calls Tryz.prog 198 #[t.val] w (OwnP2 t.v w) := by
 induction t using T.ind with
 | h k n s A cap l r ih =>
  intro w lo hi ht hh
  rw [T.val_mk]
  have fit := (T.in_mk.1 ht).1
  have hlen := fit.len1
  obtain ⟨i0, hi0, hz0, hz1, hz2⟩ := info_parts value_info
  have hmk := fun W => run_make_rowN (P := Tryz.prog) 26 28 i0 _ Tryz.underlying26 hi0 hz0 .i64 .i64 l.length l.length (Nat.le_refl _) (by rw [hz2]; omega) (by omega) W
  rw [hz1] at hmk
  clear hi0 hz0 hz1 hz2
  by_cases hl : l.length = 0
  · have hl0 : ((l.length : Int) == 0) = true := by simp [hl]
    obtain rfl : l = [] := List.eq_nil_of_length_eq_zero hl
    clear hmk
    go_enter Tryz.func198, Tryz.ntmps198
    go_wp2
    refine bodyPost_ret (v := .agg #[.int .u8 k, .int .i64 n, .string s, .slice none 0 0, .int .i64 r]) (by simp [results, Tryz.results198, go_sem]) rfl ?_
    refine ⟨T.mk k n s none 0 [] r, rfl, by simp [T.v_mk], T.sh_leaf ⟨fit.k0, fit.k1, fit.n0, fit.n1, fit.s1, by simp, Nat.le_refl _, fit.r0, fit.r1⟩, ?_⟩
    exact ((Fr.refl No w).alloc _).alloc _
  · have hl0 : ((l.length : Int) == 0) = false := by simp; intro h; subst h; simp at hl
    have hl1 : (0 : Int) < (l.length : Int) := by omega
    go_enter Tryz.func198, Tryz.ntmps198
    go_wp2_with fail
    go_loopw [19] (fun i wr => ∃ (j : Nat) (l' : List T), j ≤ l.length ∧ i = .int .i64 j ∧
     OwnInv2 w #[.int .u8 k, .int .i64 n, .string s, .slice A l.length cap, .int .i64 r] #[.int .u8 0, .int .i64 0, .string ⟨#[]⟩, .slice none 0 0, .int .i64 0] l j l' wr)
     (fun i _ => l.length - (intOf i).toNat)
    case atStart =>
     refine ⟨0, [], Nat.zero_le _, rfl, rfl, by simp, (((Fr.refl No w).alloc _).alloc _).alloc _, ((Blk.new' w 28 _ rfl).alloc _).alloc _, (Blk.new' (w.alloc _) 28 _ (by simp)).alloc _,
      ⟨_, Blk.new' ((w.alloc _).alloc _) 28 _ (by simp), size_madeCells _ _, RowIs.nil _ _⟩, Forest.nil _ _ _, by simp, by simp⟩
    case round =>
     obtain ⟨j, l', hj, rfl, inv⟩ := hrel
     have fr := inv.fr
     have big := inv.big
     by_cases hlt : j < l.length
     · obtain ⟨b, o, k1, n1, s1, A1, cap1, l1, r1, rfl, hb0, hb1, hx, hin, e0, e1, e2, e3, e4⟩ := T.elem (ht.no fr hh) hlt
       have IH := ih l[j] (List.getElem_mem hlt)
       rw [hx] at IH
       have HX := hide hx
       have hle := Nat.le_of_lt hlt
       have HI := hide inv
       clear hx ih inv hmk
       go_wp2_with fail
       refine (IH _ lo hi (hin.no ((Fr.refl No wr).alloc _) (by omega)) (by simp; omega)).mono ?_
       rintro e w2 ⟨t', rfl, hv, sh, fr2⟩
       have HV := hide hv
       clear hv
       simp only [World.size_alloc] at sh
       have ow := sh.ow
       cases t' with
       | mk k2 n2 s2 A2 cap2 l2 r2 =>
        rw [T.val_mk]
        obtain ⟨cs, hb, hcs, hrow⟩ := HI.out.row
        have blk2 := (hb.alloc (.cells #[.int .u8 k1, .int .i64 n1, .string s1, .slice A1 l1.length cap1, .int .i64 r1] 28)).fr fr2 (fun h => h)
        obtain ⟨y0, x0⟩ : ∃ y, w2.cell? ⟨w.heap.size + 1 + 1, j * 5, none⟩ = some y := ⟨cs[j * 5]'(by omega), by rw [blk2.cell]; exact Array.getElem?_eq_getElem _⟩
        obtain ⟨y1, x1⟩ : ∃ y, w2.cell? ⟨w.heap.size + 1 + 1, j * 5 + 1, none⟩ = some y := ⟨cs[j * 5 + 1]'(by omega), by rw [blk2.cell]; exact Array.getElem?_eq_getElem _⟩
        obtain ⟨y2, x2⟩ : ∃ y, w2.cell? ⟨w.heap.size + 1 + 1, j * 5 + 2, none⟩ = some y := ⟨cs[j * 5 + 2]'(by omega), by rw [blk2.cell]; exact Array.getElem?_eq_getElem _⟩
        obtain ⟨y3, x3⟩ : ∃ y, w2.cell? ⟨w.heap.size + 1 + 1, j * 5 + 3, none⟩ = some y := ⟨cs[j * 5 + 3]'(by omega), by rw [blk2.cell]; exact Array.getElem?_eq_getElem _⟩
        obtain ⟨y4, x4⟩ : ∃ y, w2.cell? ⟨w.heap.size + 1 + 1, j * 5 + 4, none⟩ = some y := ⟨cs[j * 5 + 4]'(by omega), by rw [blk2.cell]; exact Array.getElem?_eq_getElem _⟩
        have xf := blk2.frozen
        have HB := hide blk2
        have HR := hide hrow
        have HC := hide hcs
        have HO := hide ow
        have HSH := hide sh
        clear sh
        clear blk2 hb hrow hcs ow
        go_wp2
        go_roundw
        case rel =>
         have inv := HI.out
         have hcs := HC.out
         have hsz2 := fr2.size
         simp only [World.size_alloc] at hsz2
         have hfar : ∀ {g : Nat} {X : Array Value}, g < w.heap.size + 2 → Blk wr g 28 X → Blk (((((w2.setCell ⟨w.heap.size + 1 + 1, j * 5, none⟩ (.int .u8 k2)).setCell ⟨w.heap.size + 1 + 1, j * 5 + 1, none⟩ (.int .i64 n2)).setCell ⟨w.heap.size + 1 + 1, j * 5 + 2, none⟩ (.string s2)).setCell
          ⟨w.heap.size + 1 + 1, j * 5 + 3, none⟩ (.slice A2 l2.length cap2)).setCell ⟨w.heap.size + 1 + 1, j * 5 + 4, none⟩ (.int .i64 r2)) g 28 X := fun {g X} hg hX =>
          (((((((hX.alloc _).fr fr2 (fun h => h)).far (by simp; omega) _).far (by simp; omega) _).far (by simp; omega) _).far (by simp; omega) _).far (by simp; omega) _)
         have hst : Fr (· = w.heap.size + 1 + 1) w2 (((((w2.setCell ⟨w.heap.size + 1 + 1, j * 5, none⟩ (.int .u8 k2)).setCell ⟨w.heap.size + 1 + 1, j * 5 + 1, none⟩ (.int .i64 n2)).setCell ⟨w.heap.size + 1 + 1, j * 5 + 2, none⟩ (.string s2)).setCell
          ⟨w.heap.size + 1 + 1, j * 5 + 3, none⟩ (.slice A2 l2.length cap2)).setCell ⟨w.heap.size + 1 + 1, j * 5 + 4, none⟩ (.int .i64 r2)) := (Fr.refl (fun i => i = w.heap.size + 1 + 1) w2).five (fun _ => rfl) _ _ _ _ _ _
         refine ⟨j + 1, l' ++ [T.mk k2 n2 s2 A2 cap2 l2 r2], hlt, by go_num, by simp [inv.len], ?_, ?_, hfar (by omega) inv.b0, hfar (by omega) inv.b1, ⟨_, HB.out.five _ _ _ _ _ _, ?_, ?_⟩, ?_, ?_, ?_⟩
         · rw [List.map_append, inv.vs, List.take_succ_eq_append_getElem hlt, List.map_append, List.map_singleton, List.map_singleton, HV.out, HX.out]
         · exact (((fr.alloc _).thenNo fr2).five (by omega) _ _ _ _ _ _)
         · simpa using hcs
         · have := HR.out.five (k := k2) (n := n2) (s := s2) (A := A2) (cap := cap2) (l1 := l2) (r := r2) (by rw [inv.len, hcs]; omega)
           simpa [inv.len] using this
         · have h1 : Forest w2 (w.heap.size + 3) (wr.heap.size + 1) l' := ((inv.forest.no ((Fr.refl No wr).alloc _) (Nat.le_refl _)).no fr2 (by simp)).more (Nat.le_refl _) (by omega)
           have h2 := h1.snoc HO.out (by omega) hsz2
           simpa using h2.fr hst (Nat.le_refl _) (fun i hi _ e => by omega)
         · simp; omega
         · intro x hx
           have hbl : ∀ (y : T) (lo hi : Nat), y.In w2 lo hi → w.heap.size + 3 ≤ lo → ∀ b ∈ y.blocks, ¬ b = w.heap.size + 1 + 1 := fun y lo hi hy hl b hb e => by
            have := T.In.blocks y hy b hb; omega
           rcases List.mem_append.1 hx with hx | hx
           · have h1 := inv.sp x hx
             have h2 := T.Sp.fr fr2 x (fun _ _ h => h) (T.Sp.fr ((Fr.refl No wr).alloc (.cells #[.int .u8 k1, .int .i64 n1, .string s1, .slice A1 l1.length cap1, .int .i64 r1] 28)) x (fun _ _ h => h) h1)
             have h3 := T.Sp.fr hst x (hbl x _ _ (T.Sp.inn x h2) (Nat.le_refl _)) h2
             exact T.Sp.more (Nat.le_refl _) (by simp; omega) x h3
           · simp at hx; subst hx
             have h3 := T.Sp.fr hst _ (hbl _ _ _ HSH.out.inn (by omega)) HSH.out.sp
             exact T.Sp.more (by omega) (by simp) _ h3
        case measure => simp [intOf]; omega
     · obtain rfl : l.length = j := by omega
       have c0 : wr.cell? ⟨w.heap.size, 0, none⟩ = some (.int .u8 k) := inv.b0.cell 0
       have c1 : wr.cell? ⟨w.heap.size, 1, none⟩ = some (.int .i64 n) := inv.b0.cell 1
       have c2 : wr.cell? ⟨w.heap.size, 2, none⟩ = some (.string s) := inv.b0.cell 2
       have c3 : wr.cell? ⟨w.heap.size, 3, none⟩ = some (.slice A l.length cap) := inv.b0.cell 3
       have c4 : wr.cell? ⟨w.heap.size, 4, none⟩ = some (.int .i64 r) := inv.b0.cell 4
       have cf := inv.b0.frozen 3
       have d0 : wr.cell? ⟨w.heap.size + 1, 0, none⟩ = some (.int .u8 0) := inv.b1.cell 0
       have d1 : wr.cell? ⟨w.heap.size + 1, 1, none⟩ = some (.int .i64 0) := inv.b1.cell 1
       have d2 : wr.cell? ⟨w.heap.size + 1, 2, none⟩ = some (.string ⟨#[]⟩) := inv.b1.cell 2
       have d3 : wr.cell? ⟨w.heap.size + 1, 3, none⟩ = some (.slice none 0 0) := inv.b1.cell 3
       have d4 : wr.cell? ⟨w.heap.size + 1, 4, none⟩ = some (.int .i64 0) := inv.b1.cell 4
       have df := inv.b1.frozen
       have HI := hide inv
       clear inv hmk ih
       go_wp2
       have inv := HI.out
       refine bodyPost_ret (v := .agg #[.int .u8 k, .int .i64 n, .string s, .slice (some ⟨w.heap.size + 1 + 1, 0, none⟩) l.length l.length, .int .i64 r]) (by simp [results, Tryz.results198, go_sem, *]) rfl ?_
       generalize hW : World.setCell _ _ _ = W
       have hfr : Fr (fun i => i = w.heap.size ∨ i = w.heap.size + 1) wr W := by
        rw [← hW]
        repeat (first | with_reducible exact Fr.refl _ wr | with_reducible refine Fr.set ?_ (by simp) _)
       obtain ⟨cs, hb, hcs, hrow⟩ := inv.row
       have hl' := inv.len
       have hb' : Blk W (w.heap.size + 1 + 1) 28 cs := hb.fr hfr (by omega)
       have hF : Forest W (w.heap.size + 3) wr.heap.size l' := inv.forest.fr hfr (Nat.le_refl _) (fun i h0 h1 h2 => by omega)
       have hsz := hfr.size
       refine ⟨T.mk k n s (some ⟨w.heap.size + 1 + 1, 0, none⟩) l.length l' r, by rw [T.val_mk, hl'], ?_, ?_, inv.fr.trans' hfr (fun i hi h => by omega)⟩
       · rw [T.v_mk, T.v_mk, inv.vs, List.take_of_length_le (Nat.le_refl _)]
       · have how : (T.mk k n s (some ⟨w.heap.size + 1 + 1, 0, none⟩) l.length l' r).Ow W w.heap.size W.heap.size := by
          refine T.ow_mk ⟨fit.k0, fit.k1, fit.n0, fit.n1, fit.s1, by omega, by omega, fit.r0, fit.r1⟩ (hF.more (by omega) hsz) hb' hrow (by omega) (by omega) (fun hm => ?_)
          have := hF.blocks _ hm
          omega
         refine ⟨T.sp_mk.2 ⟨(T.in_mk.1 how.inn).1, fun h => by subst h; simp at hl'; omega, fun _ => ⟨?_, _, rfl, by omega⟩, fun x hx => ?_⟩, how.nodup⟩
         · have := owns_blk (lo := w.heap.size) hb' (by rw [hcs, hl']) hrow (by omega) (by rw [hl']; unfold maxLen; omega)
           rwa [hl'] at this ⊢
         · have h1 := inv.sp x hx
           have h2 := T.Sp.fr hfr x (fun b hb h => by
            have := T.In.blocks x (T.Sp.inn x h1) b hb
            have h' : b = w.heap.size ∨ b = w.heap.size + 1 := h
            omega) h1
           exact T.Sp.more (by omega) hsz x h2
end Go.Proofs.YtlejelbefmkakaaGreat

namespace Go.Proofs.YtlejelbefmkakaaGreat
open Go.RowKit
def T.zero : T := .mk 0 0 ⟨#[]⟩ none 0 [] 0
def V.zero : V := .mk 0 0 ⟨#[]⟩ [] 0
theorem T.zero_v : T.zero.v = V.zero := by simp [T.zero, T.v_mk, V.zero]
theorem T.zero_ow (w : World) (lo hi : Nat) : T.zero.Ow w lo hi := T.ow_nil ⟨by decide, by decide, by decide, by decide, by decide, by decide, by decide, by decide, by decide⟩
theorem T.zero_val : T.zero.val = .agg #[.int .u8 0, .int .i64 0, .string ⟨#[]⟩, .slice none 0 0, .int .i64 0] := rfl
def OwnE (v : V) (n : Int) (w : World) (e : Ending) (w' : World) : Prop :=
 ∃ t' : T, e = .returned (.tuple #[t'.val, .int .i64 n]) ∧ t'.v = v ∧ t'.Ow w' w.heap.size w'.heap.size ∧ Fr No w w'
end Go.Proofs.YtlejelbefmkakaaGreat

namespace Go.Proofs.YtlejelbefmkakaaGreat
open Go.RowKit
theorem T.zero_sh (w : World) (lo hi : Nat) : T.zero.Sh w lo hi := T.sh_leaf ⟨by decide, by decide, by decide, by decide, by decide, by decide, by decide, by decide, by decide⟩
def OwnE2 (v : V) (n : Int) (w : World) (e : Ending) (w' : World) : Prop :=
 ∃ t' : T, e = .returned (.tuple #[t'.val, .int .i64 n]) ∧ t'.v = v ∧ t'.Sh w' w.heap.size w'.heap.size ∧ Fr No w w'
set_option maxHeartbeats 1000000 in
theorem Own2_any (t : T) (w : World) (lo hi : Nat) (ht : t.In w lo hi) (hh : hi ≤ w.heap.size) :
 Calls Tryz.prog 146 #[t.val] w (OwnE2 (if t.v.may = true then t.v else V.zero) (if t.v.may = true then 0 else 2) w) := by
 have hM := fun w' h h' => may_any t w' lo hi h h'
 have hO := fun w' h h' => own2_any t w' lo hi h h'
 cases t with
 | mk k n s A cap l r =>
  rw [T.val_mk] at *
  cases hm : (T.mk k n s A cap l r).v.may
  · rw [hm] at hM
    go_enter Tryz.func146, Tryz.ntmps146
    go_wp2_with fail
    refine (hM _ (ht.no (((Fr.refl No w).alloc _).alloc _) hh) (by simp; omega)).mono ?_
    rintro e w2 ⟨rfl, fr2⟩
    have hsz := fr2.size
    simp only [World.size_alloc] at hsz
    have hs0 : w.heap.size + 1 < w2.heap.size := by omega
    have b1 := (Blk.new' (w.alloc (.cells #[.int .u8 k, .int .i64 n, .string s, .slice A l.length cap, .int .i64 r] 28)) 28 #[.int .u8 0, .int .i64 0, .string ⟨#[]⟩, .slice none 0 0, .int .i64 0] (g := w.heap.size + 1) (by simp)).fr fr2 (fun h => h)
    obtain ⟨d0, d1, d2, d3, d4, df⟩ := b1.cells5
    have hF2 : Fr No w w2 := (((Fr.refl No w).alloc _).alloc _).trans fr2
    have HF := hide hF2
    clear b1 hO hF2
    go_wp2
    refine bodyPost_ret (v := .tuple #[.agg #[.int .u8 0, .int .i64 0, .string ⟨#[]⟩, .slice none 0 0, .int .i64 0], .int .i64 2]) (by simp [results, Tryz.results146, go_sem, *]) rfl ?_
    have hF2 := HF.out
    exact ⟨T.zero, rfl, T.zero_v, T.zero_sh _ _ _, (by repeat (first | with_reducible exact hF2 | with_reducible refine Fr.setNew ?_ (by simp) _ | with_reducible refine Fr.alloc ?_ _))⟩
  · rw [hm] at hM
    go_enter Tryz.func146, Tryz.ntmps146
    go_wp2_with fail
    refine (hM _ (ht.no (((Fr.refl No w).alloc _).alloc _) hh) (by simp; omega)).mono ?_
    rintro e w2 ⟨rfl, fr2⟩
    have hsz := fr2.size
    simp only [World.size_alloc] at hsz
    have hs0 : w.heap.size + 1 < w2.heap.size := by omega
    have b0 := ((Blk.new' w 28 #[.int .u8 k, .int .i64 n, .string s, .slice A l.length cap, .int .i64 r] (g := w.heap.size) rfl).alloc (.cells #[.int .u8 0, .int .i64 0, .string ⟨#[]⟩, .slice none 0 0, .int .i64 0] 28)).fr fr2 (fun h => h)
    have b1 := (Blk.new' (w.alloc (.cells #[.int .u8 k, .int .i64 n, .string s, .slice A l.length cap, .int .i64 r] 28)) 28 #[.int .u8 0, .int .i64 0, .string ⟨#[]⟩, .slice none 0 0, .int .i64 0] (g := w.heap.size + 1) (by simp)).fr fr2 (fun h => h)
    obtain ⟨c0, c1, c2, c3, c4, cf⟩ := b0.cells5
    obtain ⟨d0, d1, d2, d3, d4, df⟩ := b1.cells5
    have hF2 : Fr No w w2 := (((Fr.refl No w).alloc _).alloc _).trans fr2
    have HT := hide (ht.no hF2 hh)
    clear ht
    have HF := hide hF2
    have HB := hide b1
    clear b1 b0 hF2
    go_wp2_with fail
    refine (hO _ HT.out (by omega)).mono ?_
    rintro e w3 ⟨t', rfl, hv, ow, fr3⟩
    have b1 := HB.out.fr fr3 (fun h => h)
    obtain ⟨d0, d1, d2, d3, d4, df⟩ := b1.cells5
    have hF2 := HF.out.trans fr3
    have HF2 := hide hF2
    have HV := hide hv
    have HO := hide ow
    have hsz3 := fr3.size
    clear hv ow hF2 b1
    cases t' with
    | mk k2 n2 s2 A2 cap2 l2 r2 =>
     rw [T.val_mk]
     go_wp2
     refine bodyPost_ret (v := .tuple #[.agg #[.int .u8 k2, .int .i64 n2, .string s2, .slice A2 l2.length cap2, .int .i64 r2], .int .i64 0]) (by simp [results, Tryz.results146, go_sem, *]) rfl ?_
     have hF2 := HF2.out
     refine ⟨T.mk k2 n2 s2 A2 cap2 l2 r2, rfl, HV.out, ?_, (by repeat (first | with_reducible exact hF2 | with_reducible refine Fr.setNew ?_ (by simp) _ | with_reducible refine Fr.alloc ?_ _))⟩
     refine (HO.out.fr' (S := (· = w.heap.size + 1)) ?_ (fun i h0 h1 h2 => by have h' : i = w.heap.size + 1 := h2; omega)).more (by omega) (by simp)
     repeat (first | with_reducible exact Fr.refl _ w3 | with_reducible refine Fr.set ?_ (by simp) _)
end Go.Proofs.YtlejelbefmkakaaGreat

namespace Go.Proofs.YtlejelbefmkakaaGreat
open Go.Joins Go.ChangeShapes Go.WideShapes Go.RowKit Go.Deep
abbrev Nm := ByteArray × T
def nmCells (x : Nm) : List Value := .string x.1 :: x.2.cells
theorem nmCells_length (x : Nm) : (nmCells x).length = 6 := by simp [nmCells, T.cells_length]
structure NmRow (w : World) (lo hi : Nat) (A : Option Addr) (cap : Nat) (l : List Nm) : Prop where
 len1 : l.length * 80 ≤ 140737488351232
 cap1 : l.length ≤ cap
 at_ : l ≠ [] → ∃ b o, A = some ⟨b, o, none⟩ ∧ lo ≤ b ∧ b < hi ∧ ∀ i x, l[i]? = some x → ∀ j u, (nmCells x)[j]? = some u → w.cell? ⟨b, o + i * 6 + j, none⟩ = some u
 inn : ∀ x ∈ l, x.1.size ≤ 140737488351232 ∧ x.2.In w lo hi
structure CdRow (w : World) (lo hi : Nat) (A : Option Addr) (cap : Nat) (l : List G) : Prop where
 len1 : l.length * 256 ≤ 140737488351232
 cap1 : l.length ≤ cap
 ty : ∀ x ∈ l, Ty 311 x
 inn : (G.row A l).In w lo hi
structure Tg where
 kind : Int
 home : Int
 v : T
 VA : Option Addr
 vc : Nat
 vs : List T
 n : Int
 lost : Int
 ofr : Int
 byr : Int
 set : Int
 full : Bool
 CA : Option Addr
 cc : Nat
 code : List G
 NA : Option Addr
 nc : Nat
 names : List Nm
def c16 (kind home k n : Int) (s : ByteArray) (A : Option Addr) (len cap : Nat) (r : Int) (VA : Option Addr) (vl vc : Nat) (n1 lost ofr byr set : Int) (full : Bool) (CA : Option Addr) (cl cc : Nat) (NA : Option Addr) (nl nc : Nat) : Array Value :=
 #[.int .u8 kind, .int .i64 home, .int .u8 k, .int .i64 n, .string s, .slice A len cap, .int .i64 r, .slice VA vl vc, .int .i64 n1, .int .i64 lost, .int .i64 ofr, .int .i64 byr, .int .u8 set, .bool full, .slice CA cl cc, .slice NA nl nc]
def Tg.cells (x : Tg) : List Value := [.int .u8 x.kind, .int .i64 x.home] ++ (x.v.cells ++ [.slice x.VA x.vs.length x.vc, .int .i64 x.n, .int .i64 x.lost, .int .i64 x.ofr, .int .i64 x.byr, .int .u8 x.set, .bool x.full, .slice x.CA x.code.length x.cc, .slice x.NA x.names.length x.nc])
def Tg.val (x : Tg) : Value := .agg x.cells.toArray
structure Tg.Fit (x : Tg) : Prop where
 kind : 0 ≤ x.kind ∧ x.kind < 256
 home : -9223372036854775808 ≤ x.home ∧ x.home ≤ 9223372036854775807
 n : -9223372036854775808 ≤ x.n ∧ x.n ≤ 9223372036854775807
 lost : -9223372036854775808 ≤ x.lost ∧ x.lost ≤ 9223372036854775807
 ofr : -9223372036854775808 ≤ x.ofr ∧ x.ofr ≤ 9223372036854775807
 byr : -9223372036854775808 ≤ x.byr ∧ x.byr ≤ 9223372036854775807
 set : 0 ≤ x.set ∧ x.set < 256
structure Tg.In (w : World) (lo hi : Nat) (x : Tg) : Prop where
 fit : x.Fit
 v : x.v.In w lo hi
 vs : (T.row x.VA x.vc x.vs).In w lo hi
 code : CdRow w lo hi x.CA x.cc x.code
 names : NmRow w lo hi x.NA x.nc x.names
section
variable {S : Nat → Prop} {a w : World} {lo hi : Nat}
theorem NmRow.fr {A : Option Addr} {cap : Nat} {l : List Nm} (h : NmRow a lo hi A cap l) (hf : Fr S a w) (hh : hi ≤ a.heap.size) (hs : ∀ i, lo ≤ i → i < hi → ¬ S i) : NmRow w lo hi A cap l := by
 refine ⟨h.len1, h.cap1, fun hl => ?_, fun x hx => ⟨(h.inn x hx).1, (h.inn x hx).2.fr hf hh hs⟩⟩
 obtain ⟨b, o, rfl, h0, h1, hc⟩ := h.at_ hl
 exact ⟨b, o, rfl, h0, h1, fun i x hx j u hu => (hf.cell (by omega) (hs b h0 h1)).trans (hc i x hx j u hu)⟩
theorem NmRow.more {A : Option Addr} {cap : Nat} {l : List Nm} {lo' hi' : Nat} (h : NmRow a lo hi A cap l) (hl : lo' ≤ lo) (hh : hi ≤ hi') : NmRow a lo' hi' A cap l := by
 refine ⟨h.len1, h.cap1, fun hl' => ?_, fun x hx => ⟨(h.inn x hx).1, T.In.more hl hh _ (h.inn x hx).2⟩⟩
 obtain ⟨b, o, rfl, h0, h1, hc⟩ := h.at_ hl'
 exact ⟨b, o, rfl, by omega, by omega, hc⟩
theorem CdRow.fr {A : Option Addr} {cap : Nat} {l : List G} (h : CdRow a lo hi A cap l) (hf : Fr S a w) (hh : hi ≤ a.heap.size) (hs : ∀ i, lo ≤ i → i < hi → ¬ S i) : CdRow w lo hi A cap l := ⟨h.len1, h.cap1, h.ty, h.inn.fr hf hh hs⟩
theorem CdRow.more {A : Option Addr} {cap : Nat} {l : List G} {lo' hi' : Nat} (h : CdRow a lo hi A cap l) (hl : lo' ≤ lo) (hh : hi ≤ hi') : CdRow a lo' hi' A cap l := ⟨h.len1, h.cap1, h.ty, G.In.more hl hh _ h.inn⟩
theorem Tg.In.fr {x : Tg} (h : x.In a lo hi) (hf : Fr S a w) (hh : hi ≤ a.heap.size) (hs : ∀ i, lo ≤ i → i < hi → ¬ S i) : x.In w lo hi := ⟨h.fit, h.v.fr hf hh hs, h.vs.fr hf hh hs, h.code.fr hf hh hs, h.names.fr hf hh hs⟩
theorem Tg.In.no {x : Tg} (h : x.In a lo hi) (hf : Fr No a w) (hh : hi ≤ a.heap.size) : x.In w lo hi := h.fr hf hh fun _ _ _ h => h
theorem Tg.In.more {x : Tg} {lo' hi' : Nat} (h : x.In a lo hi) (hl : lo' ≤ lo) (hh : hi ≤ hi') : x.In a lo' hi' := ⟨h.fit, T.In.more hl hh _ h.v, T.In.more hl hh _ h.vs, h.code.more hl hh, h.names.more hl hh⟩
end
theorem ty_name {g : G} (h : Ty 260 g) : ∃ x : Nm, g.c = nmCells x ∧ x.1.size ≤ 140737488351232 ∧ ∀ (w : World) (lo hi : Nat), g.In w lo hi → x.2.In w lo hi := by
 obtain ⟨c, s⟩ := g
 have h0 := h.fits
 rw [flat_name] at h0
 obtain ⟨nm, c, rfl, w0, h0⟩ := h0.inv_str
 obtain ⟨k, c, rfl, w1, h0⟩ := h0.inv_int
 obtain ⟨n, c, rfl, w2, h0⟩ := h0.inv_int
 obtain ⟨b, c, rfl, w3, h0⟩ := h0.inv_str
 obtain ⟨A, l, cap, c, s, rfl, rfl, w4, w5, h0⟩ := h0.inv_sl
 obtain ⟨r, c, rfl, w6, h0⟩ := h0.inv_int
 obtain ⟨rfl, rfl⟩ := h0.inv_nil
 have hk := h.kids 0 _ (by rw [flat_name]; rfl) rfl
 have hv : Ty 28 (.mk [.int .u8 k, .int .i64 n, .string b, .slice A l.length cap, .int .i64 r] [(A, l)]) := by
  refine .mk _ _ _ ?_ fun i e A' l' x he hs hx => ?_
  · rw [flat_val]
    exact ⟨⟨k, rfl, w1⟩, ⟨n, rfl, w2⟩, ⟨b, rfl, w3⟩, ⟨cap, rfl, w4, w5⟩, ⟨r, rfl, w6⟩, rfl, rfl⟩
  · rw [flat_val] at he
    cases i with
    | zero =>
     simp [sls] at he hs
     obtain ⟨rfl, rfl⟩ := hs
     subst he
     exact hk x hx
    | succ i => simp at hs
 obtain ⟨t, ht, hin⟩ := ty_val _ hv
 refine ⟨(nm, t), ?_, w0, fun w lo hi hi' => hin w lo hi ?_⟩
 · show Value.string nm :: _ = Value.string nm :: t.cells
   rw [← ht]
   rfl
 · rw [G.in_rows] at hi' ⊢
   exact hi'
theorem ty_names {l : List G} (h : ∀ x ∈ l, Ty 260 x) : ∃ ts : List Nm, ts.length = l.length ∧ ∀ (A : Option Addr) (cap : Nat) (w : World) (lo hi : Nat), l.length * 80 ≤ 140737488351232 → l.length ≤ cap → (G.row A l).In w lo hi → NmRow w lo hi A cap ts := by
 have hone : ∀ i, i < l.length → ∃ t : Nm, ∃ x, l[i]? = some x ∧ x.c = nmCells t ∧ t.1.size ≤ 140737488351232 ∧ ∀ (w : World) (lo hi : Nat), x.In w lo hi → t.2.In w lo hi := fun i hi => by
  have hm := List.getElem_mem hi
  obtain ⟨t, h1, h2, h3⟩ := ty_name (h _ hm)
  exact ⟨t, l[i], List.getElem?_eq_getElem hi, h1, h2, h3⟩
 obtain ⟨ts, hts, hq⟩ := choose_list l.length hone
 refine ⟨ts, hts, fun A cap w lo hi hl hc hin => ?_⟩
 obtain ⟨h1, h2⟩ := G.row_in.1 hin
 refine ⟨by rw [hts]; exact hl, by rw [hts]; exact hc, fun hne => ?_, fun x hx => ?_⟩
 · obtain ⟨b, o, rfl, hb0, hb1, hc⟩ := h1 (by rintro rfl; simp at hts; exact hne hts)
   refine ⟨b, o, rfl, hb0, hb1, fun i x hx j u hu => ?_⟩
   obtain ⟨y, hy, hc1, -⟩ := hq i x hx
   have := hc i y hy j u (by rw [hc1]; exact hu)
   rwa [hc1, nmCells_length] at this
 · obtain ⟨i, hi', rfl⟩ := List.mem_iff_getElem.1 hx
   obtain ⟨y, hy, -, hc2, hc3⟩ := hq i _ (List.getElem?_eq_getElem hi')
   exact ⟨hc2, hc3 w lo hi (h2 y (List.mem_of_getElem? hy))⟩
theorem fit_row : Fit 3 0 ⟨#[]⟩ 0 0 0 := ⟨by decide, by decide, by decide, by decide, by decide, by decide, by decide, by decide, by decide⟩
theorem ty_entry {g : G} (h : Ty 140 g) : ∃ (r : Int) (x : Tg), g.c = .int .i64 r :: x.cells ∧ -9223372036854775808 ≤ r ∧ r ≤ 9223372036854775807 ∧ ∀ (w : World) (lo hi : Nat), g.In w lo hi → x.In w lo hi := by
 obtain ⟨c, s⟩ := g
 have h0 := h.fits
 rw [flat_entry] at h0
 obtain ⟨ref, c, rfl, w0, h0⟩ := h0.inv_int
 obtain ⟨kind, c, rfl, w1, h0⟩ := h0.inv_int
 obtain ⟨home, c, rfl, w2, h0⟩ := h0.inv_int
 obtain ⟨k, c, rfl, w3, h0⟩ := h0.inv_int
 obtain ⟨n, c, rfl, w4, h0⟩ := h0.inv_int
 obtain ⟨b, c, rfl, w5, h0⟩ := h0.inv_str
 obtain ⟨A, l, cap, c, s, rfl, rfl, w6, w7, h0⟩ := h0.inv_sl
 obtain ⟨r, c, rfl, w8, h0⟩ := h0.inv_int
 obtain ⟨VA, vl, vc, c, s, rfl, rfl, w9, w10, h0⟩ := h0.inv_sl
 obtain ⟨n1, c, rfl, w11, h0⟩ := h0.inv_int
 obtain ⟨lost, c, rfl, w12, h0⟩ := h0.inv_int
 obtain ⟨ofr, c, rfl, w13, h0⟩ := h0.inv_int
 obtain ⟨byr, c, rfl, w14, h0⟩ := h0.inv_int
 obtain ⟨set, c, rfl, w15, h0⟩ := h0.inv_int
 obtain ⟨full, c, e1, h1⟩ := h0.inv_bool
 subst e1
 replace h0 := h1
 obtain ⟨CA, cl, cc, c, s, rfl, rfl, w16, w17, h0⟩ := h0.inv_sl
 obtain ⟨NA, nl, nc, c, s, rfl, rfl, w18, w19, h0⟩ := h0.inv_sl
 obtain ⟨rfl, rfl⟩ := h0.inv_nil
 have hs : sls (flat 140) = [28, 28, 311, 260] := by rw [flat_entry]; rfl
 have hk0 := h.kids 0 _ (by rw [hs]; rfl) rfl
 have hk1 := h.kids 1 _ (by rw [hs]; rfl) rfl
 have hk2 := h.kids 2 _ (by rw [hs]; rfl) rfl
 have hk3 := h.kids 3 _ (by rw [hs]; rfl) rfl
 have hv : Ty 28 (.mk [.int .u8 k, .int .i64 n, .string b, .slice A l.length cap, .int .i64 r] [(A, l)]) := by
  refine .mk _ _ _ ?_ fun i e A' l' x he hs hx => ?_
  · rw [flat_val]
    exact ⟨⟨k, rfl, w3⟩, ⟨n, rfl, w4⟩, ⟨b, rfl, w5⟩, ⟨cap, rfl, w6, w7⟩, ⟨r, rfl, w8⟩, rfl, rfl⟩
  · rw [flat_val] at he
    cases i with
    | zero =>
     simp [sls] at he hs
     obtain ⟨rfl, rfl⟩ := hs
     subst he
     exact hk0 x hx
    | succ i => simp at hs
 obtain ⟨t, ht, hin⟩ := ty_val _ hv
 obtain ⟨ts, hts, htin⟩ := ty_vals hk1
 obtain ⟨ns, hns, hnin⟩ := ty_names hk3
 refine ⟨ref, ⟨kind, home, t, VA, vc, ts, n1, lost, ofr, byr, set, full, CA, cc, cl, NA, nc, ns⟩, ?_, (wf_i64 w0).1, (wf_i64 w0).2, fun w lo hi hi' => ?_⟩
 · have ht' : t.cells = [.int .u8 k, .int .i64 n, .string b, .slice A l.length cap, .int .i64 r] := ht.symm
   simp [G.c, Tg.cells, ht', hts, hns]
 · have hr := G.in_rows.1 hi'
   refine ⟨⟨wf_u8 w1, wf_i64 w2, wf_i64 w11, wf_i64 w12, wf_i64 w13, wf_i64 w14, wf_u8 w15⟩, hin w lo hi (G.in_rows.2 fun A' l' hm => ?_), ?_, ⟨w17, w16, hk2, hr _ _ (by simp)⟩, hnin NA nc w lo hi w19 w18 (hr _ _ (by simp))⟩
   · simp at hm
     obtain ⟨rfl, rfl⟩ := hm
     exact hr _ _ (by simp)
   · obtain ⟨q1, q2⟩ := htin VA [] [(VA, vl)] w lo hi (by simp) (hr VA vl (by simp))
     refine T.in_mk.2 ⟨⟨by decide, by decide, by decide, by decide, by decide, by rw [hts]; exact w10, by rw [hts]; exact w9, by decide, by decide⟩, q1, q2⟩
end Go.Proofs.YtlejelbefmkakaaGreat

namespace Go.Proofs.YtlejelbefmkakaaGreat
open Go.RowKit
theorem lt_of_heap {w : World} {i : Nat} {o : Obj} (h : w.heap[i]? = some o) : i < w.heap.size := by
 rcases Nat.lt_or_ge i w.heap.size with hlt | hge
 · exact hlt
 · rw [Array.getElem?_eq_none hge] at h; cases h
theorem get_map {W : World} {B : Nat} {es : Array MapEntry} {c : Nat} (h : W.heap[B]? = some (.map es c)) : (getObj B).run Tryz.prog W = .ok (.map es c) W := by
 simp [getObj, Sem.run, h]
theorem set_map {W : World} {B : Nat} {es : Array MapEntry} {c : Nat} (o : Obj) (h : W.heap[B]? = some (.map es c)) : (setObj B o).run Tryz.prog W = .ok () (W.putObj B o) := by
 simp [setObj, Sem.run, h, World.putObj]
theorem findNow_none {n : Int} : ∀ {es : List MapEntry} {i : Nat}, (∀ e ∈ es, ∃ c : Int, e.key = .int .i64 c ∧ n ≠ c) → Instr.findNow (.int .i64) (.int .i64 n) es i = some none
 | [], _, _ => rfl
 | e :: es, i, h => by
  obtain ⟨c, hc, hne⟩ := h e (by simp)
  unfold Instr.findNow
  have : Instr.sameNow (.int .i64) (.int .i64 n) e.key = some false := by rw [hc]; simp [Instr.sameNow]; exact hne
  rw [this]
  exact findNow_none fun e he => h e (by simp [he])
theorem findNow_some {n : Int} : ∀ {es : List MapEntry} {i j : Nat} {e : MapEntry}, (∀ e ∈ es, ∃ c : Int, e.key = .int .i64 c) → es[j]? = some e → e.key = .int .i64 n → (∀ k e', k < j → es[k]? = some e' → e'.key ≠ .int .i64 n) →
 Instr.findNow (.int .i64) (.int .i64 n) es i = some (some (i + j, e.val))
 | [], _, j, e, _, h, _, _ => by simp at h
 | e0 :: es, i, 0, e, _, h, hk, _ => by
  simp at h; subst h
  unfold Instr.findNow
  have : Instr.sameNow (.int .i64) (.int .i64 n) e0.key = some true := by rw [hk]; simp [Instr.sameNow]
  rw [this]; rfl
 | e0 :: es, i, j + 1, e, hall, h, hk, hb => by
  obtain ⟨c, hc⟩ := hall e0 (by simp)
  have hne : n ≠ c := fun h' => hb 0 e0 (by omega) rfl (by rw [hc, h'])
  unfold Instr.findNow
  have : Instr.sameNow (.int .i64) (.int .i64 n) e0.key = some false := by rw [hc]; simp [Instr.sameNow]; exact hne
  rw [this]
  have := findNow_some (n := n) (i := i + 1) (j := j) (fun e he => hall e (List.mem_cons_of_mem _ he)) (by simpa using h) hk (fun k e' hk' he' => hb (k + 1) e' (by omega) (by simpa using he'))
  rw [show i + (j + 1) = i + 1 + j from by omega]
  exact this
section
variable {t el kt : TypeId} {w : World} {B cl : Nat} {es : Array MapEntry}
theorem checkKey_num (hk : Tryz.prog.underlying kt = some (.int .i64)) (e : Bool) (n : Int) (w : World) : (Instr.checkKey e 10000 kt (.int .i64 n)).run Tryz.prog w = .ok () w := by
 have : ∀ d, (Instr.checkKey e (d + 1) kt (.int .i64 n)).run Tryz.prog w = .ok () w := fun d => by simp [Instr.checkKey, run_underlying hk]
 exact this 9999
theorem look_num {z : Value} (hk : Tryz.prog.underlying kt = some (.int .i64)) (ht : Tryz.prog.underlying t = some (.map kt el)) (hz : (zeroValue el).run Tryz.prog w = .ok z w) (n : Int) (hB : w.heap[B]? = some (.map es cl)) (o : Option Nat)
 (hn : o = none → ∀ e ∈ es.toList, ∃ c : Int, e.key = .int .i64 c ∧ n ≠ c) (hs : ∀ j, o = some j → ∃ e, es.toList[j]? = some e ∧ e.key = .int .i64 n ∧ (∀ e ∈ es.toList, ∃ c : Int, e.key = .int .i64 c) ∧ ∀ k e', k < j → es.toList[k]? = some e' → e'.key ≠ .int .i64 n) :
 (Instr.lookup t (.map (some B)) (.int .i64 n) true).run Tryz.prog w = .ok (match o.bind fun j => es.toList[j]? with | some e => .tuple #[e.val, .bool true] | none => .tuple #[z, .bool false]) w ∧
 (Instr.lookup t (.map (some B)) (.int .i64 n) false).run Tryz.prog w = .ok (match o.bind fun j => es.toList[j]? with | some e => e.val | none => z) w := by
 unfold Instr.lookup
 cases o with
 | none =>
  have hf := findNow_none (i := 0) (hn rfl)
  constructor <;> simp [run_underlying ht, get_map hB, checkKey_num hk, Instr.findKey, run_underlying hk, hf, Result.andThen, hz]
 | some j =>
  obtain ⟨e, h1, h2, h3, h4⟩ := hs j rfl
  have hf := findNow_some (i := 0) h3 h1 h2 h4
  have h1' : es[j]? = some e := by simpa using h1
  constructor <;> simp [run_underlying ht, get_map hB, checkKey_num hk, Instr.findKey, run_underlying hk, hf, Result.andThen, h1']
theorem update_num (hk : Tryz.prog.underlying kt = some (.int .i64)) (ht : Tryz.prog.underlying t = some (.map kt el)) (n : Int) (val : Value) (hB : w.heap[B]? = some (.map es cl))
 (h : ∀ e ∈ es.toList, ∃ c : Int, e.key = .int .i64 c ∧ n ≠ c) :
 (Instr.mapUpdate t (.map (some B)) (.int .i64 n) val).run Tryz.prog w = .ok () (w.putObj B (.map (es.push { key := .int .i64 n, val := val, born := cl }) (cl + 1))) := by
 unfold Instr.mapUpdate
 simp only [Sem.run_bind, run_underlying ht, Result.andThen_ok, get_map hB, checkKey_num hk, Instr.findKey, run_underlying hk, findNow_none h, Sem.run_pure, set_map _ hB]
end
structure Th where
 kind : Int
 home : Int
 v : T
 n : Int
 lost : Int
 ofr : Int
 byr : Int
 set : Int
 full : Bool
def Th.cells (x : Th) : List Value := [.int .u8 x.kind, .int .i64 x.home] ++ (x.v.cells ++ [.slice none 0 0, .int .i64 x.n, .int .i64 x.lost, .int .i64 x.ofr, .int .i64 x.byr, .int .u8 x.set, .bool x.full, .slice none 0 0, .slice none 0 0])
def Th.val (x : Th) : Value := .agg x.cells.toArray
structure Wm where
 wb : Nat
 M : Nat
 F : Nat
 P : Option Addr
 pn : Nat
 pc : Nat
 C : Option Addr
 cn : Nat
 cc : Nat
 D : Option Addr
 dc : Nat
 made : List Nat
 th : List (Nat × Th)
 fac : List (Int × Int × Int)
def Wm.cells (m : Wm) : Array Value := #[.slice m.P m.pn m.pc, .slice m.C m.cn m.cc, .map (some m.M), .map (some m.F), .int .i64 (m.th.length : Int), .slice m.D m.made.length m.dc]
def ThsAre (es : List MapEntry) (l : List (Nat × Th)) : Prop :=
 es.length = l.length ∧ ∀ (i : Nat) (e : MapEntry) (x : Nat × Th), es[i]? = some e → l[i]? = some x → e.key = .int .i64 ((i : Int) + 1) ∧ e.val = .pointer (some ⟨x.1, 0, none⟩)
def FacAre (es : List MapEntry) (l : List (Int × Int × Int)) : Prop :=
 es.length = l.length ∧ ∀ (i : Nat) (e : MapEntry) (x : Int × Int × Int), es[i]? = some e → l[i]? = some x → e.key = .agg #[.int .i64 x.1, .int .u8 x.2.1] ∧ e.val = .int .i64 x.2.2
def Stm (es : List MapEntry) (cl : Nat) : Prop := (∀ x ∈ es, x.born < cl) ∧ (es.map (·.born)).Nodup
def Wm.B (m : Wm) (i : Nat) : Prop := i = m.wb ∨ i = m.M ∨ i = m.F ∨ (Value.slice m.D m.made.length m.dc).ownBlock = some i ∨ ∃ x ∈ m.th, i = x.1 ∨ i ∈ x.2.v.blocks
structure Wm.Ok (m : Wm) (lo : Nat) (W : World) : Prop where
 blk : Blk W m.wb 38 m.cells
 things : ∃ es cl, W.heap[m.M]? = some (.map es cl) ∧ ThsAre es.toList m.th ∧ Stm es.toList cl
 facets : ∃ es cl, W.heap[m.F]? = some (.map es cl) ∧ FacAre es.toList m.fac
 made : W.ownsRow lo 3 1 (.slice m.D m.made.length m.dc) m.made.length (m.made.map fun (n : Nat) => Value.int .i64 (n : Int))
 box : ∀ x ∈ m.th, Blk W x.1 138 x.2.cells.toArray
 vals : ∀ x ∈ m.th, x.2.v.Sh W lo W.heap.size
 lo0 : lo ≤ m.wb ∧ lo ≤ m.M ∧ lo ≤ m.F ∧ ∀ x ∈ m.th, lo ≤ x.1
 mf : m.M ≠ m.F
 dist : m.th.Pairwise fun a b => a.1 ≠ b.1
 len : m.th.length ≤ 100000
 mades : ∀ n ∈ m.made, n ≤ 512
 sides : 1 ≤ m.made.length ∧ m.made.length ≤ 16
section
variable {m : Wm} {lo : Nat} {W W' : World} {S : Nat → Prop}
theorem Wm.Ok.lt (h : m.Ok lo W) : ∀ i, m.B i → lo ≤ i ∧ i < W.heap.size := by
 obtain ⟨es, cl, hm, -⟩ := h.things
 obtain ⟨ef, cf, hf, hfe⟩ := h.facets
 obtain ⟨l0, l1, l2, l3⟩ := h.lo0
 rintro i (rfl | rfl | rfl | hi | ⟨x, hx, rfl | hi⟩)
 · exact ⟨l0, h.blk.lt⟩
 · exact ⟨l1, lt_of_heap hm⟩
 · exact ⟨l2, lt_of_heap hf⟩
 · exact owns_lt h.made i hi
 · exact ⟨l3 x hx, (h.box x hx).lt⟩
 · exact T.In.blocks _ (h.vals x hx).inn i hi
theorem Wm.Ok.fr (h : m.Ok lo W) (f : Fr S W W') (hs : ∀ i, m.B i → ¬ S i) : m.Ok lo W' := by
 obtain ⟨es, cl, hm, he⟩ := h.things
 obtain ⟨ef, cf, hf, hfe⟩ := h.facets
 exact ⟨h.blk.fr f (hs _ (.inl rfl)), ⟨es, cl, (f.block _ (lt_of_heap hm) (hs _ (.inr (.inl rfl)))).trans hm, he⟩, ⟨ef, cf, (f.block _ (lt_of_heap hf) (hs _ (.inr (.inr (.inl rfl))))).trans hf, hfe⟩,
  owns_fr h.made f fun g hg => hs g (.inr (.inr (.inr (.inl hg)))), fun x hx => (h.box x hx).fr f (hs _ (.inr (.inr (.inr (.inr ⟨x, hx, .inl rfl⟩))))),
  fun x hx => ((h.vals x hx).fr f fun b hb => hs b (.inr (.inr (.inr (.inr ⟨x, hx, .inr hb⟩))))).more (Nat.le_refl _) f.size, h.lo0, h.mf, h.dist, h.len, h.mades, h.sides⟩
theorem Wm.Ok.no (h : m.Ok lo W) (f : Fr No W W') : m.Ok lo W' := h.fr f fun _ _ h => h
end
end Go.Proofs.YtlejelbefmkakaaGreat

namespace Go.Proofs.YtlejelbefmkakaaGreat
open Go.RowKit
structure Gm where
 wb : Nat
 M : Nat
 F : Nat
 P : Option Addr
 pc : Nat
 par : List Int
 C : Option Addr
 cc : Nat
 cut : List Bool
 D : Option Addr
 dc : Nat
 made : List Int
 last : Int
 th : List (Int × Nat × Tg)
 fac : List (Int × Int × Int)
def Gm.cells (m : Gm) : Array Value := #[.slice m.P m.par.length m.pc, .slice m.C m.cut.length m.cc, .map (some m.M), .map (some m.F), .int .i64 m.last, .slice m.D m.made.length m.dc]
def TgsAre (es : List MapEntry) (l : List (Int × Nat × Tg)) : Prop :=
 es.length = l.length ∧ ∀ (i : Nat) (e : MapEntry) (x : Int × Nat × Tg), es[i]? = some e → l[i]? = some x → e.key = .int .i64 x.1 ∧ e.val = .pointer (some ⟨x.2.1, 0, none⟩)
structure Tg.St (w : World) (lo : Nat) (x : Tg) : Prop where
 inn : x.In w lo w.heap.size
 tdV : ∀ b, (b ∈ x.v.blocks ∨ b ∈ (T.row x.VA x.vc x.vs).blocks) → ∃ cs, Blk w b 28 cs
 tdC : (G.row x.CA x.code).Td w
 tdN : ∀ b, (∃ a, x.NA = some a ∧ x.names ≠ [] ∧ a.block = b) → ∃ cs, Blk w b 260 cs
 tdM : ∀ y ∈ x.names, ∀ b ∈ y.2.blocks, ∃ cs, Blk w b 28 cs
inductive Tg.Has (x : Tg) (b : Nat) : Prop
 | v (h : b ∈ x.v.blocks)
 | vs (h : b ∈ (T.row x.VA x.vc x.vs).blocks)
 | code (h : (G.row x.CA x.code).Has b)
 | nm (h : ∃ a, x.NA = some a ∧ x.names ≠ [] ∧ a.block = b)
 | nv (y : Nm) (hy : y ∈ x.names) (h : b ∈ y.2.blocks)
theorem Tg.St.ty {w : World} {lo : Nat} {x : Tg} (h : x.St w lo) {b : Nat} (hb : x.Has b) : ∃ e cs, (e = 28 ∨ e = 308 ∨ e = 311 ∨ e = 260 ∨ e = 9) ∧ Blk w b e cs := by
 cases hb with
 | v hb => obtain ⟨cs, h1⟩ := h.tdV b (.inl hb); exact ⟨_, cs, .inl rfl, h1⟩
 | vs hb => obtain ⟨cs, h1⟩ := h.tdV b (.inr hb); exact ⟨_, cs, .inl rfl, h1⟩
 | code hb => exact h.tdC b hb
 | nm hb => obtain ⟨cs, h1⟩ := h.tdN b hb; exact ⟨_, cs, .inr (.inr (.inr (.inl rfl))), h1⟩
 | nv y hy hb => obtain ⟨cs, h1⟩ := h.tdM y hy b hb; exact ⟨_, cs, .inl rfl, h1⟩
theorem Tg.In.has {w : World} {lo hi : Nat} {x : Tg} (h : x.In w lo hi) {b : Nat} (hb : x.Has b) : lo ≤ b ∧ b < hi := by
 cases hb with
 | v hb => exact T.In.blocks _ h.v b hb
 | vs hb => exact T.In.blocks _ h.vs b hb
 | code hb => exact G.In.has hb h.code.inn
 | nm hb =>
  obtain ⟨a, ha, hn, rfl⟩ := hb
  obtain ⟨b, o, hA, h0, h1, -⟩ := h.names.at_ hn
  rw [ha] at hA
  injection hA with hA
  subst hA
  exact ⟨h0, h1⟩
 | nv y hy hb => exact T.In.blocks _ (h.names.inn y hy).2 b hb
theorem T.In.keepT {w w' : World} {lo hi : Nat} (t : T) : t.In w lo hi → (∀ b ∈ t.blocks, ∀ o, w'.cell? ⟨b, o, none⟩ = w.cell? ⟨b, o, none⟩) → t.In w' lo hi := by
 induction t using T.ind with
 | h k n s A cap l r ih =>
  rw [T.in_mk, T.in_mk, T.blocks_mk]
  rintro ⟨h1, h2, h3⟩ hk
  refine ⟨h1, fun hl => ?_, fun x hx => ih x hx (h3 x hx) fun b hb => hk b (List.mem_append_right _ (List.mem_flatten.2 ⟨_, List.mem_map_of_mem hx, hb⟩))⟩
  obtain ⟨b, o, rfl, hb0, hb1, hc⟩ := h2 hl
  refine ⟨b, o, rfl, hb0, hb1, fun i x hx j u hu => (hk b (List.mem_append_left _ ?_) _).trans (hc i x hx j u hu)⟩
  cases l with
  | nil => exact absurd rfl hl
  | cons x l => simp
theorem T.In.frT {S : Nat → Prop} {w w' : World} {lo hi : Nat} {t : T} (h : t.In w lo hi) (hf : Fr S w w') (hh : hi ≤ w.heap.size) (hs : ∀ b ∈ t.blocks, ¬ S b) : t.In w' lo hi :=
 T.In.keepT t h fun b hb _ => hf.cell (by have := (T.In.blocks t h b hb).2; omega) (hs b hb)
theorem Tg.St.fr {S : Nat → Prop} {w w' : World} {lo : Nat} {x : Tg} (h : x.St w lo) (hf : Fr S w w') (hs : ∀ b, x.Has b → ¬ S b) : x.St w' lo := by
 have hin := h.inn
 refine ⟨Tg.In.more (lo := lo) (hi := w.heap.size) ⟨hin.fit, hin.v.frT hf (Nat.le_refl _) fun b hb => hs b (.v hb), hin.vs.frT hf (Nat.le_refl _) fun b hb => hs b (.vs hb),
  ⟨hin.code.len1, hin.code.cap1, hin.code.ty, hin.code.inn.frH hf (Nat.le_refl _) fun b hb => hs b (.code hb)⟩, ⟨hin.names.len1, hin.names.cap1, fun hl => ?_, fun y hy => ⟨(hin.names.inn y hy).1, (hin.names.inn y hy).2.frT hf (Nat.le_refl _) fun b hb => hs b (.nv y hy hb)⟩⟩⟩ (Nat.le_refl _) hf.size,
  fun b hb => ?_, h.tdC.fr hf fun b hb => hs b (.code hb), fun b hb => ?_, fun y hy b hb => ?_⟩
 · obtain ⟨b, o, hA, h0, h1, hc⟩ := hin.names.at_ hl
   exact ⟨b, o, hA, h0, h1, fun i x hx j u hu => (hf.cell h1 (hs b (.nm ⟨_, hA, hl, rfl⟩))).trans (hc i x hx j u hu)⟩
 · obtain ⟨cs, h1⟩ := h.tdV b hb
   exact ⟨cs, h1.fr hf (hs b (hb.elim (fun h => .v h) fun h => .vs h))⟩
 · obtain ⟨cs, h1⟩ := h.tdN b hb
   exact ⟨cs, h1.fr hf (hs b (.nm hb))⟩
 · obtain ⟨cs, h1⟩ := h.tdM y hy b hb
   exact ⟨cs, h1.fr hf (hs b (.nv y hy hb))⟩
def Gm.B (m : Gm) (i : Nat) : Prop := i = m.wb ∨ i = m.M ∨ i = m.F ∨ (Value.slice m.P m.par.length m.pc).ownBlock = some i ∨ (Value.slice m.C m.cut.length m.cc).ownBlock = some i ∨ (Value.slice m.D m.made.length m.dc).ownBlock = some i ∨ ∃ x ∈ m.th, i = x.2.1 ∨ x.2.2.Has i
structure Gm.Ok (m : Gm) (lo : Nat) (W : World) : Prop where
 blk : Blk W m.wb 38 m.cells
 things : ∃ es cl, W.heap[m.M]? = some (.map es cl) ∧ TgsAre es.toList m.th ∧ Stm es.toList cl
 facets : ∃ es cl, W.heap[m.F]? = some (.map es cl) ∧ FacAre es.toList m.fac ∧ Stm es.toList cl
 par : W.ownsRow lo 23 1 (.slice m.P m.par.length m.pc) m.par.length (m.par.map fun (n : Int) => Value.int .i64 n)
 cut : W.ownsRow lo 4 1 (.slice m.C m.cut.length m.cc) m.cut.length (m.cut.map fun b => Value.bool b)
 made : W.ownsRow lo 3 1 (.slice m.D m.made.length m.dc) m.made.length (m.made.map fun (n : Int) => Value.int .i64 n)
 box : ∀ x ∈ m.th, Blk W x.2.1 138 x.2.2.cells.toArray
 st : ∀ x ∈ m.th, x.2.2.St W lo
 lo0 : lo ≤ m.wb ∧ lo ≤ m.M ∧ lo ≤ m.F ∧ ∀ x ∈ m.th, lo ≤ x.2.1
 mf : m.M ≠ m.F
 keys : (m.th.map Prod.fst).Nodup
 dist : m.th.Pairwise fun a b => a.2.1 ≠ b.2.1
 len : m.th.length ≤ 1000000
 fkeys : (m.fac.map fun f => (f.1, f.2.1)).Nodup
 flen : m.fac.length ≤ 1000000
 sides : 1 ≤ m.made.length ∧ m.made.length ≤ 16 ∧ m.par.length + 1 = m.made.length ∧ m.cut.length = m.made.length
section
variable {m : Gm} {lo : Nat} {W W' : World} {S : Nat → Prop}
theorem Gm.Ok.lt (h : m.Ok lo W) : ∀ i, m.B i → lo ≤ i ∧ i < W.heap.size := by
 obtain ⟨es, cl, hm, -⟩ := h.things
 obtain ⟨ef, cf, hf, hfe⟩ := h.facets
 obtain ⟨l0, l1, l2, l3⟩ := h.lo0
 rintro i (rfl | rfl | rfl | hi | hi | hi | ⟨x, hx, rfl | hi⟩)
 · exact ⟨l0, h.blk.lt⟩
 · exact ⟨l1, lt_of_heap hm⟩
 · exact ⟨l2, lt_of_heap hf⟩
 · exact owns_lt h.par i hi
 · exact owns_lt h.cut i hi
 · exact owns_lt h.made i hi
 · exact ⟨l3 x hx, (h.box x hx).lt⟩
 · exact (h.st x hx).inn.has hi
theorem Gm.Ok.fr (h : m.Ok lo W) (f : Fr S W W') (hs : ∀ i, m.B i → ¬ S i) : m.Ok lo W' := by
 obtain ⟨es, cl, hm, he⟩ := h.things
 obtain ⟨ef, cf, hf, hfe⟩ := h.facets
 exact ⟨h.blk.fr f (hs _ (.inl rfl)), ⟨es, cl, (f.block _ (lt_of_heap hm) (hs _ (.inr (.inl rfl)))).trans hm, he⟩, ⟨ef, cf, (f.block _ (lt_of_heap hf) (hs _ (.inr (.inr (.inl rfl))))).trans hf, hfe⟩,
  owns_fr h.par f fun g hg => hs g (.inr (.inr (.inr (.inl hg)))), owns_fr h.cut f fun g hg => hs g (.inr (.inr (.inr (.inr (.inl hg))))), owns_fr h.made f fun g hg => hs g (.inr (.inr (.inr (.inr (.inr (.inl hg)))))),
  fun x hx => (h.box x hx).fr f (hs _ (.inr (.inr (.inr (.inr (.inr (.inr ⟨x, hx, .inl rfl⟩))))))),
  fun x hx => (h.st x hx).fr f fun b hb => hs b (.inr (.inr (.inr (.inr (.inr (.inr ⟨x, hx, .inr hb⟩)))))), h.lo0, h.mf, h.keys, h.dist, h.len, h.fkeys, h.flen, h.sides⟩
theorem Gm.Ok.no (h : m.Ok lo W) (f : Fr No W W') : m.Ok lo W' := h.fr f fun _ _ h => h
def Gm.get (m : Gm) (r : Int) : Option (Nat × Tg) := (m.th.find? fun x => x.1 == r).map Prod.snd
def Gm.kind (m : Gm) (r : Int) : Int := ((m.get r).map fun x => x.2.kind).getD 0
theorem Gm.get_mem {r : Int} {x : Nat × Tg} (h : m.get r = some x) : (r, x) ∈ m.th := by
 unfold Gm.get at h
 obtain ⟨y, hy, rfl⟩ := Option.map_eq_some_iff.1 h
 have h1 := List.find?_some hy
 have h2 := List.mem_of_find?_eq_some hy
 have : y.1 = r := by simpa using h1
 rw [← this]
 exact h2
theorem Gm.get_none {r : Int} (h : m.get r = none) : ∀ x ∈ m.th, x.1 ≠ r := by
 unfold Gm.get at h
 rw [Option.map_eq_none_iff, List.find?_eq_none] at h
 intro x hx
 have := h x hx
 simpa using this
theorem Gm.get_of (hk : (m.th.map Prod.fst).Nodup) {x : Int × Nat × Tg} (h : x ∈ m.th) : m.get x.1 = some x.2 := by
 cases hg : m.get x.1 with
 | none => exact absurd rfl (Gm.get_none hg x h)
 | some y =>
  have h1 := Gm.get_mem hg
  obtain ⟨i, hi, hxi⟩ := List.mem_iff_getElem.1 h
  obtain ⟨j, hj, hyj⟩ := List.mem_iff_getElem.1 h1
  have : i = j := by
   refine (List.getElem_inj (h₀ := by simpa using hi) (h₁ := by simpa using hj) hk).1 ?_
   simp [hxi, hyj]
  subst this
  rw [hxi] at hyj
  rw [hyj]
set_option maxRecDepth 100000 in
theorem gook_thing (h : m.Ok lo W) (r : Int) : (Instr.lookup 34 (.map (some m.M)) (.int .i64 r) false).run Tryz.prog W = .ok (.pointer ((m.get r).map fun x => ⟨x.1, 0, none⟩)) W := by
 obtain ⟨es, cl, hm, he, hst⟩ := h.things
 have hkeys : ∀ e ∈ es.toList, ∃ c : Int, e.key = .int .i64 c := fun e hm => by
  obtain ⟨i, hi, rfl⟩ := List.mem_iff_getElem.1 hm
  have hi' : i < m.th.length := by rw [← he.1]; exact hi
  exact ⟨_, (he.2 i _ _ (List.getElem?_eq_getElem hi) (List.getElem?_eq_getElem hi')).1⟩
 have hz : (zeroValue 185).run Tryz.prog W = .ok (.pointer none) W := by rfl
 cases hg : m.get r with
 | none =>
  have hn := Gm.get_none hg
  have hl := (look_num (o := none) Tryz.underlying22 Tryz.underlying34 hz r hm (fun _ e hm => by
   obtain ⟨i, hi, rfl⟩ := List.mem_iff_getElem.1 hm
   have hi' : i < m.th.length := by rw [← he.1]; exact hi
   exact ⟨_, (he.2 i _ _ (List.getElem?_eq_getElem hi) (List.getElem?_eq_getElem hi')).1, fun hr => hn _ (List.getElem_mem hi') hr.symm⟩) (fun j hj => by cases hj)).2
  rw [hl]
  rfl
 | some x =>
  have hx := Gm.get_mem hg
  obtain ⟨i, hi, hxi⟩ := List.mem_iff_getElem.1 hx
  have hi' : i < es.toList.length := by rw [he.1]; exact hi
  have hat := he.2 i _ _ (List.getElem?_eq_getElem hi') (List.getElem?_eq_getElem hi)
  rw [hxi] at hat
  have hl := (look_num (o := some i) Tryz.underlying22 Tryz.underlying34 hz r hm (fun ho => by cases ho) (fun j hj => by
   simp only [Option.some.injEq] at hj
   subst hj
   refine ⟨_, List.getElem?_eq_getElem hi', hat.1, hkeys, fun k e' hk hek hkey => ?_⟩
   have hk' : k < m.th.length := by omega
   rw [(he.2 k e' _ hek (List.getElem?_eq_getElem hk')).1] at hkey
   simp only [Value.int.injEq, true_and] at hkey
   have : k = i := by
    refine (List.getElem_inj (h₀ := by simpa using hk') (h₁ := by simpa using hi) h.keys).1 ?_
    simp [hxi, hkey]
   omega)).2
  rw [hl]
  simp only [Option.bind_some, List.getElem?_eq_getElem hi', hat.2, Option.map_some]
end
end Go.Proofs.YtlejelbefmkakaaGreat

namespace Go.Proofs.YtlejelbefmkakaaGreat
open Go.RowKit
def canN (k : Int) : Nat :=
 if k = 1 then 3 else if k = 2 ∨ k = 3 then 9 else if k = 4 then 12 else if k = 5 ∨ k = 6 ∨ k = 8 ∨ k = 12 then 16 else if k = 9 then 13 else if k = 10 then 1 else if k = 11 then 8 else if k = 13 then 33 else 0
theorem canN_lt (k : Int) : canN k < 64 := by unfold canN; repeat' split <;> try decide
inductive Gm.Abl (m : Gm) : Int → Nat → Prop
 | base {r : Int} {x : Nat × Tg} (h : m.get r = some x) (hk : x.2.kind ≠ 14 ∧ x.2.kind ≠ 15 ∧ x.2.kind ≠ 16) : Gm.Abl m r (canN x.2.kind)
 | facet {r : Int} {x : Nat × Tg} {s a : Nat} (h : m.get r = some x) (hk : x.2.kind = 14) (hs : x.2.set = (s : Int)) (ha : Gm.Abl m x.2.ofr a) : Gm.Abl m r (s &&& a)
 | pass {r : Int} {x : Nat × Tg} {a : Nat} (h : m.get r = some x) (hk : x.2.kind = 15 ∨ x.2.kind = 16) (ha : Gm.Abl m x.2.ofr a) : Gm.Abl m r a
section
variable {m m' : Gm} {r t : Int} {a b : Nat}
theorem Gm.Abl.is (h : m.Abl r a) : ∃ x, m.get r = some x := by cases h with | base h _ => exact ⟨_, h⟩ | facet h _ _ _ => exact ⟨_, h⟩ | pass h _ _ => exact ⟨_, h⟩
theorem Gm.Abl.uniq (h : m.Abl r a) : ∀ {b : Nat}, m.Abl r b → a = b := by
 induction h with
 | base h hk =>
  intro b hb
  cases hb with
  | base h' _ => rw [h] at h'; cases h'; rfl
  | facet h' hk' _ _ => rw [h] at h'; cases h'; exact absurd hk' hk.1
  | pass h' hk' _ => rw [h] at h'; cases h'; exact hk'.elim (fun e => absurd e hk.2.1) fun e => absurd e hk.2.2
 | facet h hk hs ha ih =>
  intro b hb
  cases hb with
  | base h' hk' => rw [h] at h'; cases h'; exact absurd hk hk'.1
  | facet h' hk' hs' ha' =>
   rw [h] at h'; cases h'
   rw [hs] at hs'
   have := ih ha'
   subst this
   have e : (_ : Nat) = _ := Int.ofNat.inj hs'
   rw [e]
  | pass h' hk' _ => rw [h] at h'; cases h'; rcases hk' with e | e <;> rw [hk] at e <;> cases e
 | pass h hk ha ih =>
  intro b hb
  cases hb with
  | base h' hk' => rw [h] at h'; cases h'; exact hk.elim (fun e => absurd e hk'.2.1) fun e => absurd e hk'.2.2
  | facet h' hk' _ _ => rw [h] at h'; cases h'; rcases hk with e | e <;> rw [hk'] at e <;> cases e
  | pass h' hk' ha' => rw [h] at h'; cases h'; exact ih ha'
theorem Gm.Abl.lt (h : m.Abl r a) : a < 64 := by
 induction h with
 | base h hk => exact canN_lt _
 | facet h hk hs ha ih => exact Nat.lt_of_le_of_lt Nat.and_le_right ih
 | pass h hk ha ih => exact ih
def Gm.Ext (m m' : Gm) : Prop := m'.wb = m.wb ∧ m.made.length = m'.made.length ∧ ∀ r x, m.get r = some x → m'.get r = some x
theorem Gm.Ext.refl (m : Gm) : m.Ext m := ⟨rfl, rfl, fun _ _ h => h⟩
theorem Gm.Ext.trans {m1 m2 m3 : Gm} (h : m1.Ext m2) (k : m2.Ext m3) : m1.Ext m3 := ⟨k.1.trans h.1, h.2.1.trans k.2.1, fun r x hx => k.2.2 r x (h.2.2 r x hx)⟩
theorem Gm.Abl.ext (h : m.Abl r a) (he : m.Ext m') : m'.Abl r a := by
 induction h with
 | base h hk => exact .base (he.2.2 _ _ h) hk
 | facet h hk hs ha ih => exact .facet (he.2.2 _ _ h) hk hs ih
 | pass h hk ha ih => exact .pass (he.2.2 _ _ h) hk ih
def Gm.root (m : Gm) (r : Int) : Int := match m.get r with
 | some x => if x.2.kind = 14 then x.2.ofr else r
 | none => r
structure Gm.Fs (m : Gm) : Prop where
 num : ∀ x ∈ m.th, 1 ≤ x.1 ∧ x.1 ≤ m.last
 kind : ∀ x ∈ m.th, 1 ≤ x.2.2.kind ∧ x.2.2.kind ≤ 16
 last : 0 ≤ m.last ∧ m.last ≤ 10000000
 abl : ∀ r x, m.get r = some x → ∃ a, m.Abl r a
 set : ∀ r x, m.get r = some x → x.2.kind = 14 → ∃ s : Nat, x.2.set = (s : Int) ∧ s < 64 ∧ ∃ y, m.get x.2.ofr = some y ∧ y.2.kind ≠ 14 ∧ ∃ a, m.Abl x.2.ofr a ∧ s &&& a = s ∧ s ≠ a
 fac : ∀ o s r, (o, s, r) ∈ m.fac ↔ ∃ x, m.get r = some x ∧ x.2.kind = 14 ∧ x.2.ofr = o ∧ x.2.set = s
theorem Gm.Fs.root_is (h : m.Fs) {x : Nat × Tg} (hg : m.get r = some x) : ∃ y, m.get (m.root r) = some y ∧ y.2.kind ≠ 14 := by
 unfold Gm.root
 rw [hg]
 simp only
 split
 · rename_i hk
   obtain ⟨s, -, -, y, hy, hyk, -⟩ := h.set r x hg hk
   exact ⟨y, hy, hyk⟩
 · rename_i hk
   exact ⟨x, hg, hk⟩
theorem Gm.root_of {x : Nat × Tg} (hg : m.get r = some x) (hk : x.2.kind ≠ 14) : m.root r = r := by unfold Gm.root; rw [hg]; simp [hk]
theorem Gm.root_fac {x : Nat × Tg} (hg : m.get r = some x) (hk : x.2.kind = 14) : m.root r = x.2.ofr := by unfold Gm.root; rw [hg]; simp [hk]
theorem Gm.Fs.able_root (h : m.Fs) {x : Nat × Tg} (hg : m.get r = some x) (ha : m.Abl r a) (hb : m.Abl (m.root r) b) : a &&& b = a := by
 by_cases hk : x.2.kind = 14
 · obtain ⟨s, hs, -, y, hy, hyk, c, hc, h1, h2⟩ := h.set r x hg hk
   have hr : m.root r = x.2.ofr := by unfold Gm.root; rw [hg]; simp [hk]
   rw [hr] at hb
   have := hc.uniq hb
   subst this
   have := ha.uniq (.facet hg hk hs hc)
   rw [this, h1, h1]
 · have hr : m.root r = r := by unfold Gm.root; rw [hg]; simp [hk]
   rw [hr] at hb
   rw [ha.uniq hb, Nat.and_self]
theorem Gm.Fs.one (h : m.Fs) (hk : (m.fac.map fun f => (f.1, f.2.1)).Nodup) {q : Int} {x y : Nat × Tg} (hx : m.get r = some x) (hy : m.get q = some y) (hr : m.root r = m.root q) (ha : m.Abl r a) (hb : m.Abl q a) : r = q := by
 by_cases kx : x.2.kind = 14
 · obtain ⟨s, hs, -, z, hz, -, c, hc, h1, h2⟩ := h.set r x hx kx
   have e1 : m.root r = x.2.ofr := by unfold Gm.root; rw [hx]; simp [kx]
   have e2 := ha.uniq (.facet hx kx hs hc)
   rw [h1] at e2
   by_cases ky : y.2.kind = 14
   · obtain ⟨s', hs', -, z', hz', -, c', hc', h1', h2'⟩ := h.set q y hy ky
     have e3 : m.root q = y.2.ofr := by unfold Gm.root; rw [hy]; simp [ky]
     have e4 := hb.uniq (.facet hy ky hs' hc')
     rw [h1'] at e4
     have ho : x.2.ofr = y.2.ofr := by rw [← e1, hr, e3]
     have m1 := (h.fac x.2.ofr x.2.set r).2 ⟨x, hx, kx, rfl, rfl⟩
     have m2 := (h.fac y.2.ofr y.2.set q).2 ⟨y, hy, ky, rfl, rfl⟩
     have hss : x.2.set = y.2.set := by rw [hs, hs', ← e2, ← e4]
     rw [ho, hss] at m1
     obtain ⟨i, hi, hxi⟩ := List.mem_iff_getElem.1 m1
     obtain ⟨j, hj, hyj⟩ := List.mem_iff_getElem.1 m2
     have : i = j := by
      refine (List.getElem_inj (h₀ := by simpa using hi) (h₁ := by simpa using hj) hk).1 ?_
      simp [hxi, hyj]
     subst this
     rw [hxi] at hyj
     simpa using hyj
   · have e3 : m.root q = q := by unfold Gm.root; rw [hy]; simp [ky]
     have : x.2.ofr = q := by rw [← e1, hr, e3]
     rw [this] at hc
     exact absurd (e2.symm.trans (hb.uniq hc)) h2
 · have e1 : m.root r = r := by unfold Gm.root; rw [hx]; simp [kx]
   by_cases ky : y.2.kind = 14
   · obtain ⟨s', hs', -, z', hz', -, c', hc', h1', h2'⟩ := h.set q y hy ky
     have e3 : m.root q = y.2.ofr := by unfold Gm.root; rw [hy]; simp [ky]
     have e4 := hb.uniq (.facet hy ky hs' hc')
     rw [h1'] at e4
     have : y.2.ofr = r := by rw [← e3, ← hr, e1]
     rw [this] at hc'
     exact absurd (e4.symm.trans (ha.uniq hc')) h2'
   · have e3 : m.root q = q := by unfold Gm.root; rw [hy]; simp [ky]
     rw [← e1, hr, e3]
def Tg.fac (t : Int) (s : Nat) : Tg := ⟨14, 0, T.zero, none, 0, [], 0, 0, t, 0, (s : Int), false, none, 0, [], none, 0, []⟩
def Gm.addF (m : Gm) (g : Nat) (t : Int) (s : Nat) : Gm := { m with last := m.last + 1, th := m.th ++ [(m.last + 1, g, Tg.fac t s)], fac := m.fac ++ [(t, (s : Int), m.last + 1)] }
theorem Gm.get_addF {g : Nat} {s : Nat} : (m.addF g t s).get r = match m.get r with | some x => some x | none => if r = m.last + 1 then some (g, Tg.fac t s) else none := by
 unfold Gm.get Gm.addF
 simp only [List.find?_append]
 cases hf : m.th.find? (fun x => x.1 == r) with
 | some x => simp
 | none =>
  simp only [Option.none_or, Option.map_none]
  by_cases hr : r = m.last + 1
  · subst hr; simp
  · have : (m.last + 1 == r) = false := by simp; omega
    simp [this, hr]
theorem Gm.Fs.fresh (h : m.Fs) : m.get (m.last + 1) = none := by
 cases hg : m.get (m.last + 1) with
 | none => rfl
 | some x => have := (h.num _ (Gm.get_mem hg)).2; simp at this; omega
theorem Gm.Fs.ext_addF (_h : m.Fs) {g s : Nat} : m.Ext (m.addF g t s) := ⟨rfl, rfl, fun r x hx => by rw [Gm.get_addF, hx]⟩
theorem Gm.Fs.get_new (h : m.Fs) {g s : Nat} : (m.addF g t s).get (m.last + 1) = some (g, Tg.fac t s) := by
 rw [Gm.get_addF, h.fresh]; simp
theorem Gm.Fs.addF (h : m.Fs) {g s : Nat} {y : Nat × Tg} (hl : m.last < 10000000) (ht : m.get t = some y) (hty : y.2.kind ≠ 14) (hs : s < 64) (ha : m.Abl t a) (h1 : s &&& a = s) (h2 : s ≠ a) : (m.addF g t s).Fs := by
 have hext : m.Ext (m.addF g t s) := h.ext_addF
 have hcase : ∀ {q : Int} {x : Nat × Tg}, (m.addF g t s).get q = some x → m.get q = some x ∨ (q = m.last + 1 ∧ x = (g, Tg.fac t s)) := fun {q x} hx => by
  rw [Gm.get_addF] at hx
  cases hg : m.get q with
  | some z => rw [hg] at hx; exact .inl hx
  | none =>
   rw [hg] at hx
   simp only at hx
   split at hx
   · rename_i e
     exact .inr ⟨e, (Option.some.inj hx).symm⟩
   · cases hx
 refine ⟨fun x hx => ?_, fun x hx => ?_, ?_, fun q x hx => ?_, fun q x hx hk => ?_, fun o s' q => ?_⟩
 · rcases List.mem_append.1 hx with hx | hx
   · have := h.num x hx
     exact ⟨this.1, Int.le_trans this.2 (by show m.last ≤ m.last + 1; omega)⟩
   · simp at hx; subst hx
     have := h.last
     exact ⟨by show 1 ≤ m.last + 1; omega, Int.le_refl _⟩
 · rcases List.mem_append.1 hx with hx | hx
   · exact h.kind x hx
   · simp at hx; subst hx; exact ⟨by show (1 : Int) ≤ 14; decide, by show (14 : Int) ≤ 16; decide⟩
 · have := h.last
   exact ⟨by show 0 ≤ m.last + 1; omega, by show m.last + 1 ≤ _; omega⟩
 · rcases hcase hx with hx | ⟨rfl, rfl⟩
   · obtain ⟨b, hb⟩ := h.abl q x hx
     exact ⟨b, hb.ext hext⟩
   · exact ⟨_, .facet h.get_new rfl rfl (ha.ext hext)⟩
 · rcases hcase hx with hx | ⟨rfl, rfl⟩
   · obtain ⟨s', hs', h64, z, hz, hzk, c, hc, q1, q2⟩ := h.set q x hx hk
     exact ⟨s', hs', h64, z, hext.2.2 _ _ hz, hzk, c, hc.ext hext, q1, q2⟩
   · exact ⟨s, rfl, hs, y, hext.2.2 _ _ ht, hty, a, ha.ext hext, h1, h2⟩
 · show (o, s', q) ∈ m.fac ++ [(t, (s : Int), m.last + 1)] ↔ _
   rw [List.mem_append, h.fac o s' q]
   constructor
   · rintro (⟨x, hx, k1, k2, k3⟩ | hm)
     · exact ⟨x, hext.2.2 _ _ hx, k1, k2, k3⟩
     · simp at hm
       obtain ⟨rfl, rfl, rfl⟩ := hm
       exact ⟨_, h.get_new, rfl, rfl, rfl⟩
   · rintro ⟨x, hx, k1, k2, k3⟩
     rcases hcase hx with hx | ⟨rfl, rfl⟩
     · exact .inl ⟨x, hx, k1, k2, k3⟩
     · right
       simp [Tg.fac] at k2 k3
       simp [k2, k3]
end
end Go.Proofs.YtlejelbefmkakaaGreat

namespace Go.Proofs.YtlejelbefmkakaaGreat
open Go.RowKit
theorem and63 {a : Nat} (h : a < 64) : 63 &&& a = a := by
 have : a &&& 63 = a := by
  rw [show (63 : Nat) = 2 ^ 6 - 1 from rfl, Nat.and_two_pow_sub_one_eq_mod]
  exact Nat.mod_eq_of_lt h
 rw [Nat.and_comm]
 exact this
theorem and_lt {a b : Nat} (h : a < 64) : a &&& b < 64 := Nat.lt_of_le_of_lt Nat.and_le_left h
set_option maxRecDepth 100000 in
theorem Meet2_w {W : World} {g a b : Nat} (ha : a < 64) (hb : b < 256) (h0 : W.cell? ⟨g, 0, none⟩ = some (.int .u8 (a : Int))) (h1 : W.cell? ⟨g, 1, none⟩ = some (.int .u8 (b : Int))) (_hg : g < W.heap.size) :
 Calls Tryz.prog 151 #[.slice (some ⟨g, 0, none⟩) 2 2] W fun e w' => e = .returned (.int .u8 ((a &&& b : Nat) : Int)) ∧ w' = W := by
 have e1 : bits .and .u8 63 (a : Int) = (a : Int) := by
  have := u8_and_nat 63 a (by omega) (by omega)
  rw [and63 ha] at this
  exact this
 have e2 : bits .and .u8 (a : Int) (b : Int) = ((a &&& b : Nat) : Int) := u8_and_nat a b (by omega) (by omega)
 go_enter Tryz.func151, Tryz.ntmps151
 go_wp2_with fail
 refine wp_loop_rounds 3 ?_
 rw [rounds_succ]
 go_wp2_with fail
 rw [rounds_succ]
 go_wp2_with fail
 rw [rounds_succ]
 go_wp2_with fail
 go_ret
 exact ⟨rfl, rfl⟩
theorem May_w (a : Nat) (ha : a < 256) (W : World) : Calls Tryz.prog 161 #[.int .u8 (a : Int)] W fun e w' => e = .returned (.bool (decide (a < 64))) ∧ w' = W := by
 have e1 : bits .andNot .u8 (a : Int) 63 = ((a &&& 192 : Nat) : Int) := u8_andNot_nat a 63 ha (by omega)
 have e2 : (((a &&& 192 : Nat) : Int) == 0) = decide (a < 64) := by
  have : ∀ a : Fin 256, (((a.val &&& 192 : Nat) : Int) == 0) = decide (a.val < 64) := by decide +kernel
  exact this ⟨a, ha⟩
 go_enter Tryz.func161, Tryz.ntmps161
 go_wp2
 go_ret
 exact ⟨rfl, rfl⟩
end Go.Proofs.YtlejelbefmkakaaGreat

namespace Go.Proofs.YtlejelbefmkakaaGreat
open Go.RowKit
theorem or0 (a : Nat) : 0 ||| a = a := by simp
set_option maxRecDepth 100000 in
theorem Join2_w {W : World} {g a b : Nat} (ha : a < 64) (hb : b < 64) (h0 : W.cell? ⟨g, 0, none⟩ = some (.int .u8 (a : Int))) (h1 : W.cell? ⟨g, 1, none⟩ = some (.int .u8 (b : Int))) (_hg : g < W.heap.size) :
 Calls Tryz.prog 203 #[.slice (some ⟨g, 0, none⟩) 2 2] W fun e w' => e = .returned (.int .u8 ((a ||| b : Nat) : Int)) ∧ w' = W := by
 have m0 : bits .and .u8 (a : Int) 63 = (a : Int) := by
  have := u8_and_nat a 63 (by omega) (by omega)
  rw [Nat.and_comm, and63 ha] at this
  exact this
 have m1 : bits .and .u8 (b : Int) 63 = (b : Int) := by
  have := u8_and_nat b 63 (by omega) (by omega)
  rw [Nat.and_comm, and63 hb] at this
  exact this
 have o0 : bits .or .u8 0 (a : Int) = (a : Int) := by
  have := u8_or_nat 0 a (by omega) (by omega)
  rw [or0] at this
  exact this
 have o1 : bits .or .u8 (a : Int) (b : Int) = ((a ||| b : Nat) : Int) := u8_or_nat _ b (by first | omega | exact Nat.lt_of_lt_of_le (Nat.or_lt_two_pow (n := 6) ha hb) (by decide)) (by omega)
 go_enter Tryz.func203, Tryz.ntmps203
 go_wp2_with fail
 refine wp_loop_rounds 3 ?_
 rw [rounds_succ]
 go_wp2_with fail
 rw [rounds_succ]
 go_wp2_with fail
 rw [rounds_succ]
 go_wp2_with fail
 go_ret
 exact ⟨rfl, rfl⟩
set_option maxRecDepth 100000 in
theorem Join3_w {W : World} {g a b c : Nat} (ha : a < 64) (hb : b < 64) (hc : c < 64) (h0 : W.cell? ⟨g, 0, none⟩ = some (.int .u8 (a : Int))) (h1 : W.cell? ⟨g, 1, none⟩ = some (.int .u8 (b : Int))) (h2 : W.cell? ⟨g, 2, none⟩ = some (.int .u8 (c : Int))) (_hg : g < W.heap.size) :
 Calls Tryz.prog 203 #[.slice (some ⟨g, 0, none⟩) 3 3] W fun e w' => e = .returned (.int .u8 (((a ||| b ||| c) : Nat) : Int)) ∧ w' = W := by
 have m0 : bits .and .u8 (a : Int) 63 = (a : Int) := by
  have := u8_and_nat a 63 (by omega) (by omega)
  rw [Nat.and_comm, and63 ha] at this
  exact this
 have m1 : bits .and .u8 (b : Int) 63 = (b : Int) := by
  have := u8_and_nat b 63 (by omega) (by omega)
  rw [Nat.and_comm, and63 hb] at this
  exact this
 have m2 : bits .and .u8 (c : Int) 63 = (c : Int) := by
  have := u8_and_nat c 63 (by omega) (by omega)
  rw [Nat.and_comm, and63 hc] at this
  exact this
 have o0 : bits .or .u8 0 (a : Int) = (a : Int) := by
  have := u8_or_nat 0 a (by omega) (by omega)
  rw [or0] at this
  exact this
 have o1 : bits .or .u8 (a : Int) (b : Int) = ((a ||| b : Nat) : Int) := u8_or_nat _ b (by first | omega | exact Nat.lt_of_lt_of_le (Nat.or_lt_two_pow (n := 6) ha hb) (by decide)) (by omega)
 have o2 : bits .or .u8 ((a ||| b : Nat) : Int) (c : Int) = (((a ||| b ||| c) : Nat) : Int) := u8_or_nat _ c (by first | omega | exact Nat.lt_of_lt_of_le (Nat.or_lt_two_pow (n := 6) ha hb) (by decide)) (by omega)
 go_enter Tryz.func203, Tryz.ntmps203
 go_wp2_with fail
 refine wp_loop_rounds 4 ?_
 rw [rounds_succ]
 go_wp2_with fail
 rw [rounds_succ]
 go_wp2_with fail
 rw [rounds_succ]
 go_wp2_with fail
 rw [rounds_succ]
 go_wp2_with fail
 go_ret
 exact ⟨rfl, rfl⟩
set_option maxRecDepth 100000 in
set_option maxHeartbeats 4000000 in
theorem can_w (k : Int) (W : World) : Calls Tryz.prog 152 #[.int .u8 k] W fun e w' => e = .returned (.int .u8 (canN k : Int)) ∧ Fr No W w' := by
 by_cases h1 : k = 1
 · subst h1
   have hb := Blk.new W 24 #[.int .u8 1, .int .u8 2]
   have hf := (Fr.refl No W).alloc (.cells #[.int .u8 1, .int .u8 2] 24)
   have hj := Join2_w (a := 1) (b := 2) (by decide) (by decide) (hb.cell 0) (hb.cell 1) hb.lt
   have HJ := hide hj
   have HF := hide hf
   clear hb hf hj
   go_enter Tryz.func152, Tryz.ntmps152
   go_wp2_with fail
   refine HJ.out.mono ?_
   rintro e w' ⟨rfl, rfl⟩
   go_wp2
   go_ret
   exact ⟨rfl, HF.out⟩
 by_cases h2 : k = 2
 · subst h2
   have hb := Blk.new W 24 #[.int .u8 1, .int .u8 8]
   have hf := (Fr.refl No W).alloc (.cells #[.int .u8 1, .int .u8 8] 24)
   have hj := Join2_w (a := 1) (b := 8) (by decide) (by decide) (hb.cell 0) (hb.cell 1) hb.lt
   have HJ := hide hj
   have HF := hide hf
   clear hb hf hj
   go_enter Tryz.func152, Tryz.ntmps152
   go_wp2_with fail
   refine HJ.out.mono ?_
   rintro e w' ⟨rfl, rfl⟩
   go_wp2
   go_ret
   exact ⟨rfl, HF.out⟩
 by_cases h3 : k = 3
 · subst h3
   have hb := Blk.new W 24 #[.int .u8 1, .int .u8 8]
   have hf := (Fr.refl No W).alloc (.cells #[.int .u8 1, .int .u8 8] 24)
   have hj := Join2_w (a := 1) (b := 8) (by decide) (by decide) (hb.cell 0) (hb.cell 1) hb.lt
   have HJ := hide hj
   have HF := hide hf
   clear hb hf hj
   go_enter Tryz.func152, Tryz.ntmps152
   go_wp2_with fail
   refine HJ.out.mono ?_
   rintro e w' ⟨rfl, rfl⟩
   go_wp2
   go_ret
   exact ⟨rfl, HF.out⟩
 by_cases h4 : k = 4
 · subst h4
   have hb := Blk.new W 24 #[.int .u8 8, .int .u8 4]
   have hf := (Fr.refl No W).alloc (.cells #[.int .u8 8, .int .u8 4] 24)
   have hj := Join2_w (a := 8) (b := 4) (by decide) (by decide) (hb.cell 0) (hb.cell 1) hb.lt
   have HJ := hide hj
   have HF := hide hf
   clear hb hf hj
   go_enter Tryz.func152, Tryz.ntmps152
   go_wp2_with fail
   refine HJ.out.mono ?_
   rintro e w' ⟨rfl, rfl⟩
   go_wp2
   go_ret
   exact ⟨rfl, HF.out⟩
 by_cases h5 : k = 5
 · subst h5
   go_enter Tryz.func152, Tryz.ntmps152
   go_wp2
   go_ret
   exact ⟨rfl, Fr.refl _ _⟩
 by_cases h6 : k = 6
 · subst h6
   go_enter Tryz.func152, Tryz.ntmps152
   go_wp2
   go_ret
   exact ⟨rfl, Fr.refl _ _⟩
 by_cases h8 : k = 8
 · subst h8
   go_enter Tryz.func152, Tryz.ntmps152
   go_wp2
   go_ret
   exact ⟨rfl, Fr.refl _ _⟩
 by_cases h12 : k = 12
 · subst h12
   go_enter Tryz.func152, Tryz.ntmps152
   go_wp2
   go_ret
   exact ⟨rfl, Fr.refl _ _⟩
 by_cases h9 : k = 9
 · subst h9
   have hb := Blk.new W 24 #[.int .u8 1, .int .u8 4, .int .u8 8]
   have hf := (Fr.refl No W).alloc (.cells #[.int .u8 1, .int .u8 4, .int .u8 8] 24)
   have hj := Join3_w (a := 1) (b := 4) (c := 8) (by decide) (by decide) (by decide) (hb.cell 0) (hb.cell 1) (hb.cell 2) hb.lt
   have HJ := hide hj
   have HF := hide hf
   clear hb hf hj
   go_enter Tryz.func152, Tryz.ntmps152
   go_wp2_with fail
   refine HJ.out.mono ?_
   rintro e w' ⟨rfl, rfl⟩
   go_wp2
   go_ret
   exact ⟨rfl, HF.out⟩
 by_cases h10 : k = 10
 · subst h10
   go_enter Tryz.func152, Tryz.ntmps152
   go_wp2
   go_ret
   exact ⟨rfl, Fr.refl _ _⟩
 by_cases h11 : k = 11
 · subst h11
   go_enter Tryz.func152, Tryz.ntmps152
   go_wp2
   go_ret
   exact ⟨rfl, Fr.refl _ _⟩
 by_cases h13 : k = 13
 · subst h13
   have hb := Blk.new W 24 #[.int .u8 1, .int .u8 32]
   have hf := (Fr.refl No W).alloc (.cells #[.int .u8 1, .int .u8 32] 24)
   have hj := Join2_w (a := 1) (b := 32) (by decide) (by decide) (hb.cell 0) (hb.cell 1) hb.lt
   have HJ := hide hj
   have HF := hide hf
   clear hb hf hj
   go_enter Tryz.func152, Tryz.ntmps152
   go_wp2_with fail
   refine HJ.out.mono ?_
   rintro e w' ⟨rfl, rfl⟩
   go_wp2
   go_ret
   exact ⟨rfl, HF.out⟩
 have e1 : (k == 1) = false := by simpa using h1
 have e2 : (k == 2) = false := by simpa using h2
 have e3 : (k == 3) = false := by simpa using h3
 have e4 : (k == 4) = false := by simpa using h4
 have e5 : (k == 5) = false := by simpa using h5
 have e6 : (k == 6) = false := by simpa using h6
 have e8 : (k == 8) = false := by simpa using h8
 have e12 : (k == 12) = false := by simpa using h12
 have e9 : (k == 9) = false := by simpa using h9
 have e10 : (k == 10) = false := by simpa using h10
 have e11 : (k == 11) = false := by simpa using h11
 have e13 : (k == 13) = false := by simpa using h13
 have hn : canN k = 0 := by simp [canN, h1, h2, h3, h4, h5, h6, h8, h12, h9, h10, h11, h13]
 rw [hn]
 clear hn h1 h2 h3 h4 h5 h6 h8 h12 h9 h10 h11 h13
 go_enter Tryz.func152, Tryz.ntmps152
 go_wp2
 go_ret
 exact ⟨rfl, Fr.refl _ _⟩
end Go.Proofs.YtlejelbefmkakaaGreat

namespace Go.Proofs.YtlejelbefmkakaaGreat
open Go.RowKit
section
variable {m : Wm} {lo : Nat} {W : World}
def Wm.at_ (m : Wm) (r : Int) : Option Nat := if 1 ≤ r ∧ r ≤ (m.th.length : Int) then some (r - 1).toNat else none
def Wm.get (m : Wm) (r : Int) : Option (Nat × Th) := (m.at_ r).bind fun i => m.th[i]?
def Wm.kind (m : Wm) (r : Int) : Int := ((m.get r).map fun x => x.2.kind).getD 0
theorem Wm.get_is {m : Wm} {r : Int} : (m.get r).isSome = decide (1 ≤ r ∧ r ≤ (m.th.length : Int)) := by
 unfold Wm.get Wm.at_
 by_cases h : 1 ≤ r ∧ r ≤ (m.th.length : Int)
 · rw [if_pos h]
   have : (r - 1).toNat < m.th.length := by omega
   simp [h]
   omega
 · rw [if_neg h]
   simp [h]
theorem map_neq_nil (w : World) (M : Nat) : (binOp .eql 34 (.map (some M)) (.map none)).run Tryz.prog w = .ok (.bool false) w := by
 have h := run_eql_map_nil (P := Tryz.prog) w 34 _ _ (some M) Tryz.underlying34
 simpa using h
set_option maxRecDepth 100000 in
theorem look_thing (h : m.Ok lo W) (r : Int) : (Instr.lookup 34 (.map (some m.M)) (.int .i64 r) false).run Tryz.prog W = .ok (.pointer ((m.get r).map fun x => ⟨x.1, 0, none⟩)) W := by
 obtain ⟨es, cl, hm, he, hst⟩ := h.things
 have hkeys : ∀ e ∈ es.toList, ∃ c : Int, e.key = .int .i64 c := fun e hm => by
  obtain ⟨i, hi, rfl⟩ := List.mem_iff_getElem.1 hm
  have hi' : i < m.th.length := by rw [← he.1]; exact hi
  exact ⟨_, (he.2 i _ _ (List.getElem?_eq_getElem hi) (List.getElem?_eq_getElem hi')).1⟩
 have hz : (zeroValue 185).run Tryz.prog W = .ok (.pointer none) W := by rfl
 have hl := (look_num (o := m.at_ r) Tryz.underlying22 Tryz.underlying34 hz r hm (fun ho e hm => by
  obtain ⟨i, hi, rfl⟩ := List.mem_iff_getElem.1 hm
  have hi' : i < m.th.length := by rw [← he.1]; exact hi
  refine ⟨_, (he.2 i _ _ (List.getElem?_eq_getElem hi) (List.getElem?_eq_getElem hi')).1, fun hr => ?_⟩
  unfold Wm.at_ at ho
  rw [if_pos (by omega)] at ho
  cases ho) (fun j hj => by
  unfold Wm.at_ at hj
  split at hj
  · rename_i hr
    simp only [Option.some.injEq] at hj
    subst hj
    have hi' : (r - 1).toNat < m.th.length := by omega
    have hi : (r - 1).toNat < es.toList.length := by rw [he.1]; exact hi'
    refine ⟨_, List.getElem?_eq_getElem hi, ?_, hkeys, fun k e' hk hek hkey => ?_⟩
    · rw [(he.2 _ _ _ (List.getElem?_eq_getElem hi) (List.getElem?_eq_getElem hi')).1]
      congr 1
      omega
    · have hk' : k < m.th.length := by omega
      rw [(he.2 k e' _ hek (List.getElem?_eq_getElem hk')).1] at hkey
      simp only [Value.int.injEq, true_and] at hkey
      omega
  · cases hj)).2
 rw [hl]
 unfold Wm.get
 cases ho : m.at_ r with
 | none => rfl
 | some j =>
  unfold Wm.at_ at ho
  split at ho
  · rename_i hr
    simp only [Option.some.injEq] at ho
    subst ho
    have hi' : (r - 1).toNat < m.th.length := by omega
    have hi : (r - 1).toNat < es.toList.length := by rw [he.1]; exact hi'
    have hv := (he.2 _ _ _ (List.getElem?_eq_getElem hi) (List.getElem?_eq_getElem hi')).2
    simp only [Option.bind_some, List.getElem?_eq_getElem hi, List.getElem?_eq_getElem hi', Option.map_some, hv]
  · cases ho
theorem none_w (h : m.Ok lo W) : Calls Tryz.prog 127 #[.pointer (some ⟨m.wb, 0, none⟩)] W fun e w' => e = .returned (.bool false) ∧ w' = W := by
 have c0 := h.blk.cell 2
 simp only [Wm.cells, lq1, lq3, lq2] at c0
 have hq := map_neq_nil
 clear h
 go_enter Tryz.func127, Tryz.ntmps127
 go_wp2
 go_ret
 exact ⟨rfl, rfl⟩
theorem Sides_w (h : m.Ok lo W) : Calls Tryz.prog 84 #[.pointer (some ⟨m.wb, 0, none⟩)] W fun e w' => e = .returned (.int .i64 (m.made.length : Int)) ∧ w' = W := by
 have hN := none_w h
 have c0 := h.blk.cell 5
 simp only [Wm.cells, lq1, lq3, lq2] at c0
 clear h
 go_enter Tryz.func84, Tryz.ntmps84
 go_wp2_with fail
 refine hN.mono ?_
 rintro e w' ⟨rfl, rfl⟩
 go_wp2
 go_ret
 exact ⟨rfl, rfl⟩
theorem side_w (h : m.Ok lo W) (s : Int) : Calls Tryz.prog 133 #[.pointer (some ⟨m.wb, 0, none⟩), .int .i64 s] W fun e w' => e = .returned (.bool (decide (0 ≤ s ∧ s < (m.made.length : Int)))) ∧ w' = W := by
 have hN := Sides_w h
 clear h
 by_cases h0 : 0 ≤ s
 · by_cases h1 : s < (m.made.length : Int)
   · have hd : decide (0 ≤ s ∧ s < (m.made.length : Int)) = true := by simp [h0, h1]
     rw [hd]
     go_enter Tryz.func133, Tryz.ntmps133
     go_wp2_with fail
     refine hN.mono ?_
     rintro e w' ⟨rfl, rfl⟩
     go_wp2
     go_ret
     exact ⟨rfl, rfl⟩
   · have hd : decide (0 ≤ s ∧ s < (m.made.length : Int)) = false := by simp [h0, h1]
     have h2 : decide (s < (m.made.length : Int)) = false := by simp [h1]
     rw [hd]
     clear h1
     go_enter Tryz.func133, Tryz.ntmps133
     go_wp2_with fail
     refine hN.mono ?_
     rintro e w' ⟨rfl, rfl⟩
     go_wp2
     go_ret
     exact ⟨rfl, rfl⟩
 · have hd : decide (0 ≤ s ∧ s < (m.made.length : Int)) = false := by simp [h0]
   rw [hd]
   go_enter Tryz.func133, Tryz.ntmps133
   go_wp2
   go_ret
   exact ⟨rfl, rfl⟩
theorem Is_w (h : m.Ok lo W) (r : Int) : Calls Tryz.prog 58 #[.pointer (some ⟨m.wb, 0, none⟩), .int .i64 r] W fun e w' => e = .returned (.bool (m.get r).isSome) ∧ w' = W := by
 have hN := none_w h
 have hl := look_thing h r
 have c0 := h.blk.cell 2
 simp only [Wm.cells, lq1, lq3, lq2] at c0
 clear h
 go_enter Tryz.func58, Tryz.ntmps58
 go_wp2_with fail
 refine hN.mono ?_
 rintro e w' ⟨rfl, rfl⟩
 cases hg : m.get r with
 | none =>
  rw [hg] at hl
  simp only [Option.map_none] at hl
  go_wp2
  go_ret
  exact ⟨by rw [hg]; rfl, rfl⟩
 | some x =>
  rw [hg] at hl
  simp only [Option.map_some] at hl
  go_wp2
  go_ret
  exact ⟨by rw [hg]; rfl, rfl⟩
end
end Go.Proofs.YtlejelbefmkakaaGreat

namespace Go.Proofs.YtlejelbefmkakaaGreat
open Go.RowKit
section
variable {m : Gm} {lo : Nat} {W : World}
theorem gnone_w (h : m.Ok lo W) : Calls Tryz.prog 127 #[.pointer (some ⟨m.wb, 0, none⟩)] W fun e w' => e = .returned (.bool false) ∧ w' = W := by
 have c0 := h.blk.cell 2
 simp only [Gm.cells, lq1, lq3, lq2] at c0
 have hq := map_neq_nil
 clear h
 go_enter Tryz.func127, Tryz.ntmps127
 go_wp2
 go_ret
 exact ⟨rfl, rfl⟩
theorem gSides_w (h : m.Ok lo W) : Calls Tryz.prog 84 #[.pointer (some ⟨m.wb, 0, none⟩)] W fun e w' => e = .returned (.int .i64 (m.made.length : Int)) ∧ w' = W := by
 have hN := gnone_w h
 have c0 := h.blk.cell 5
 simp only [Gm.cells, lq1, lq3, lq2] at c0
 clear h
 go_enter Tryz.func84, Tryz.ntmps84
 go_wp2_with fail
 refine hN.mono ?_
 rintro e w' ⟨rfl, rfl⟩
 go_wp2
 go_ret
 exact ⟨rfl, rfl⟩
theorem gside_w (h : m.Ok lo W) (s : Int) : Calls Tryz.prog 133 #[.pointer (some ⟨m.wb, 0, none⟩), .int .i64 s] W fun e w' => e = .returned (.bool (decide (0 ≤ s ∧ s < (m.made.length : Int)))) ∧ w' = W := by
 have hN := gSides_w h
 clear h
 by_cases h0 : 0 ≤ s
 · by_cases h1 : s < (m.made.length : Int)
   · have hd : decide (0 ≤ s ∧ s < (m.made.length : Int)) = true := by simp [h0, h1]
     rw [hd]
     go_enter Tryz.func133, Tryz.ntmps133
     go_wp2_with fail
     refine hN.mono ?_
     rintro e w' ⟨rfl, rfl⟩
     go_wp2
     go_ret
     exact ⟨rfl, rfl⟩
   · have hd : decide (0 ≤ s ∧ s < (m.made.length : Int)) = false := by simp [h0, h1]
     have h2 : decide (s < (m.made.length : Int)) = false := by simp [h1]
     rw [hd]
     clear h1
     go_enter Tryz.func133, Tryz.ntmps133
     go_wp2_with fail
     refine hN.mono ?_
     rintro e w' ⟨rfl, rfl⟩
     go_wp2
     go_ret
     exact ⟨rfl, rfl⟩
 · have hd : decide (0 ≤ s ∧ s < (m.made.length : Int)) = false := by simp [h0]
   rw [hd]
   go_enter Tryz.func133, Tryz.ntmps133
   go_wp2
   go_ret
   exact ⟨rfl, rfl⟩
theorem gIs_w (h : m.Ok lo W) (r : Int) : Calls Tryz.prog 58 #[.pointer (some ⟨m.wb, 0, none⟩), .int .i64 r] W fun e w' => e = .returned (.bool (m.get r).isSome) ∧ w' = W := by
 have hN := gnone_w h
 have hl := gook_thing h r
 have c0 := h.blk.cell 2
 simp only [Gm.cells, lq1, lq3, lq2] at c0
 clear h
 go_enter Tryz.func58, Tryz.ntmps58
 go_wp2_with fail
 refine hN.mono ?_
 rintro e w' ⟨rfl, rfl⟩
 cases hg : m.get r with
 | none =>
  rw [hg] at hl
  simp only [Option.map_none] at hl
  go_wp2
  go_ret
  exact ⟨by rw [hg]; rfl, rfl⟩
 | some x =>
  rw [hg] at hl
  simp only [Option.map_some] at hl
  go_wp2
  go_ret
  exact ⟨by rw [hg]; rfl, rfl⟩
theorem gKind_w (h : m.Ok lo W) (r : Int) : Calls Tryz.prog 44 #[.pointer (some ⟨m.wb, 0, none⟩), .int .i64 r] W fun e w' => e = .returned (.int .u8 (m.kind r)) ∧ w' = W := by
 have hI := gIs_w h r
 have hl := gook_thing h r
 have c0 := h.blk.cell 2
 simp only [Gm.cells, lq1, lq3, lq2] at c0
 unfold Gm.kind
 cases hg : m.get r with
 | none =>
  rw [hg] at hI hl
  clear h hg
  go_enter Tryz.func44, Tryz.ntmps44
  go_wp2_with fail
  refine hI.mono ?_
  rintro e w' ⟨rfl, rfl⟩
  go_wp2
  go_ret
  exact ⟨rfl, rfl⟩
 | some x =>
  have hx := Gm.get_mem hg
  have d0 : W.cell? ⟨x.1, 0, none⟩ = some (.int .u8 x.2.kind) := (h.box _ hx).cell 0
  rw [hg] at hI hl
  simp only [Option.map_some] at hl
  clear h hg hx
  go_enter Tryz.func44, Tryz.ntmps44
  go_wp2_with fail
  refine hI.mono ?_
  rintro e w' ⟨rfl, rfl⟩
  go_wp2
  go_ret
  exact ⟨rfl, rfl⟩
end
end Go.Proofs.YtlejelbefmkakaaGreat

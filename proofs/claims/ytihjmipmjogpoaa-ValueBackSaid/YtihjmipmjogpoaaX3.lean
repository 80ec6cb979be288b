import Derived.Test.YtihjmipmjogpoaaB1
namespace Go.Proofs.Ytihjmipmjogpoaa
open Go.RowKit
theorem value_info : (Try.prog.info? 27).map (fun i => (i.zero, i.size, i.bytes)) = some (some (.agg #[.int .u8 0, .int .i64 0, .string ⟨#[]⟩, .slice none 0 0, .int .i64 0]), 5, 64) := by kernel_rfl

theorem run_make_rowN {P : Program} (t e : TypeId) (i : TypeInfo) (z : Value) (ht : P.underlying t = some (.slice e)) (hi : P.info? e = some i) (hz : i.zero = some z)
    (kl kc : IntKind) (n c : Nat) (hnc : n ≤ c) (hbytes : i.bytes * c ≤ 281474976710656) (h63 : c ≤ 9223372036854775807) (w : World) :
    (Instr.makeSlice t (.int kl (n : Int)) (.int kc (c : Int))).run P w = .ok (.slice (some ⟨w.heap.size, 0, none⟩) n c) (w.alloc (.cells (madeCells z.cells (c * i.size)) e)) := by
  have hb : (i.bytes : Int) * (c : Int) ≤ 281474976710656 := by
    have h : ((i.bytes * c : Nat) : Int) ≤ 281474976710656 := by omega
    rwa [Int.natCast_mul] at h
  have hr := run_make (P := P) w t e i z ht hi hz kl kc n c (by omega) (by omega) hb (by omega)
  simp only [Int.toNat_natCast] at hr
  exact hr

/-- A value of the same data in memory of its own, all of it new. -/
def OwnP (v : V) (w : World) (e : Ending) (w' : World) : Prop :=
  ∃ t' : T, e = .returned t'.val ∧ t'.v = v ∧ t'.Ow w' w.heap.size w'.heap.size ∧ Fr No w w'

/-- Where the loop of 'own' stands. -/
structure OwnInv (w : World) (X Z : Array Value) (l : List T) (j : Nat) (l' : List T) (wr : World) : Prop where
  len : l'.length = j
  vs : l'.map T.v = (l.take j).map T.v
  fr : Fr No w wr
  b0 : Blk wr w.heap.size 27 X
  b1 : Blk wr (w.heap.size + 1) 27 Z
  row : ∃ cs, Blk wr (w.heap.size + 1 + 1) 27 cs ∧ cs.size = l.length * 5 ∧ RowIs cs 0 l'
  forest : Forest wr (w.heap.size + 3) wr.heap.size l'
  big : w.heap.size + 3 ≤ wr.heap.size

set_option maxHeartbeats 1000000 in
theorem own_any (t : T) : ∀ (w : World) (lo hi : Nat), t.In w lo hi → hi ≤ w.heap.size → Calls Try.prog 104 #[t.val] w (OwnP t.v w) := by
  induction t using T.ind with
  | h k n s A cap l r ih =>
    intro w lo hi ht hh
    rw [T.val_mk]
    have fit := (T.in_mk.1 ht).1
    have hlen := fit.len1
    obtain ⟨i0, hi0, hz0, hz1, hz2⟩ := info_parts value_info
    have hmk := fun W => run_make_rowN (P := Try.prog) 24 27 i0 _ Try.underlying24 hi0 hz0 .i64 .i64 l.length l.length (Nat.le_refl _) (by rw [hz2]; omega) (by omega) W
    rw [hz1] at hmk
    clear hi0 hz0 hz1 hz2
    by_cases hl : l.length = 0
    · have hl0 : ((l.length : Int) == 0) = true := by simp [hl]
      obtain rfl : l = [] := List.eq_nil_of_length_eq_zero hl
      clear hmk
      go_enter Try.func104, Try.ntmps104
      go_wp2
      refine bodyPost_ret (v := .agg #[.int .u8 k, .int .i64 n, .string s, .slice none 0 0, .int .i64 r]) (by simp [results, Try.results104, go_sem]) rfl ?_
      refine ⟨T.mk k n s none 0 [] r, rfl, by simp [T.v_mk], T.ow_nil ⟨fit.k0, fit.k1, fit.n0, fit.n1, fit.s1, by simp, Nat.le_refl _, fit.r0, fit.r1⟩, ?_⟩
      exact ((Fr.refl No w).alloc _).alloc _
    · have hl0 : ((l.length : Int) == 0) = false := by simp; intro h; subst h; simp at hl
      have hl1 : (0 : Int) < (l.length : Int) := by omega
      go_enter Try.func104, Try.ntmps104
      go_wp2_with fail
      go_loopw [19] (fun i wr => ∃ (j : Nat) (l' : List T), j ≤ l.length ∧ i = .int .i64 j ∧
          OwnInv w #[.int .u8 k, .int .i64 n, .string s, .slice A l.length cap, .int .i64 r] #[.int .u8 0, .int .i64 0, .string ⟨#[]⟩, .slice none 0 0, .int .i64 0] l j l' wr)
        (fun i _ => l.length - (intOf i).toNat)
      case atStart =>
        refine ⟨0, [], Nat.zero_le _, rfl, rfl, by simp, (((Fr.refl No w).alloc _).alloc _).alloc _, ((Blk.new' w 27 _ rfl).alloc _).alloc _, (Blk.new' (w.alloc _) 27 _ (by simp)).alloc _,
          ⟨_, Blk.new' ((w.alloc _).alloc _) 27 _ (by simp), size_madeCells _ _, RowIs.nil _ _⟩, Forest.nil _ _ _, by simp⟩
      case round =>
        obtain ⟨j, l', hj, rfl, inv⟩ := hrel
        have fr := inv.fr
        have big := inv.big
        by_cases hlt : j < l.length
        · obtain ⟨b, o, k1, n1, s1, A1, cap1, l1, r1, rfl, hb0, hb1, hx, hin, e0, e1, e2, e3, e4⟩ := T.elem (ht.no fr hh) hlt
          have IH := ih l[j] (List.getElem_mem hlt)
          rw [hx] at IH
          have HX := hide hx
          have hle := Nat.le_of_lt hlt
          have HI := hide inv
          clear hx ih inv hmk
          go_wp2_with fail
          refine (IH _ lo hi (hin.no ((Fr.refl No wr).alloc _) (by omega)) (by simp; omega)).mono ?_
          rintro e w2 ⟨t', rfl, hv, ow, fr2⟩
          have HV := hide hv
          clear hv
          simp only [World.size_alloc] at ow
          cases t' with
          | mk k2 n2 s2 A2 cap2 l2 r2 =>
            rw [T.val_mk]
            obtain ⟨cs, hb, hcs, hrow⟩ := HI.out.row
            have blk2 := (hb.alloc (.cells #[.int .u8 k1, .int .i64 n1, .string s1, .slice A1 l1.length cap1, .int .i64 r1] 27)).fr fr2 (fun h => h)
            obtain ⟨y0, x0⟩ : ∃ y, w2.cell? ⟨w.heap.size + 1 + 1, j * 5, none⟩ = some y := ⟨cs[j * 5]'(by omega), by rw [blk2.cell]; exact Array.getElem?_eq_getElem _⟩
            obtain ⟨y1, x1⟩ : ∃ y, w2.cell? ⟨w.heap.size + 1 + 1, j * 5 + 1, none⟩ = some y := ⟨cs[j * 5 + 1]'(by omega), by rw [blk2.cell]; exact Array.getElem?_eq_getElem _⟩
            obtain ⟨y2, x2⟩ : ∃ y, w2.cell? ⟨w.heap.size + 1 + 1, j * 5 + 2, none⟩ = some y := ⟨cs[j * 5 + 2]'(by omega), by rw [blk2.cell]; exact Array.getElem?_eq_getElem _⟩
            obtain ⟨y3, x3⟩ : ∃ y, w2.cell? ⟨w.heap.size + 1 + 1, j * 5 + 3, none⟩ = some y := ⟨cs[j * 5 + 3]'(by omega), by rw [blk2.cell]; exact Array.getElem?_eq_getElem _⟩
            obtain ⟨y4, x4⟩ : ∃ y, w2.cell? ⟨w.heap.size + 1 + 1, j * 5 + 4, none⟩ = some y := ⟨cs[j * 5 + 4]'(by omega), by rw [blk2.cell]; exact Array.getElem?_eq_getElem _⟩
            have xf := blk2.frozen
            have HB := hide blk2
            have HR := hide hrow
            have HC := hide hcs
            have HO := hide ow
            clear blk2 hb hrow hcs ow
            go_wp2
            go_roundw
            case rel =>
              have inv := HI.out
              have hcs := HC.out
              have hsz2 := fr2.size
              simp only [World.size_alloc] at hsz2
              have hfar : ∀ {g : Nat} {X : Array Value}, g < w.heap.size + 2 → Blk wr g 27 X → Blk (((((w2.setCell ⟨w.heap.size + 1 + 1, j * 5, none⟩ (.int .u8 k2)).setCell ⟨w.heap.size + 1 + 1, j * 5 + 1, none⟩ (.int .i64 n2)).setCell ⟨w.heap.size + 1 + 1, j * 5 + 2, none⟩ (.string s2)).setCell
                  ⟨w.heap.size + 1 + 1, j * 5 + 3, none⟩ (.slice A2 l2.length cap2)).setCell ⟨w.heap.size + 1 + 1, j * 5 + 4, none⟩ (.int .i64 r2)) g 27 X := fun {g X} hg hX =>
                (((((((hX.alloc _).fr fr2 (fun h => h)).far (by simp; omega) _).far (by simp; omega) _).far (by simp; omega) _).far (by simp; omega) _).far (by simp; omega) _)
              have hst : Fr (· = w.heap.size + 1 + 1) w2 (((((w2.setCell ⟨w.heap.size + 1 + 1, j * 5, none⟩ (.int .u8 k2)).setCell ⟨w.heap.size + 1 + 1, j * 5 + 1, none⟩ (.int .i64 n2)).setCell ⟨w.heap.size + 1 + 1, j * 5 + 2, none⟩ (.string s2)).setCell
                  ⟨w.heap.size + 1 + 1, j * 5 + 3, none⟩ (.slice A2 l2.length cap2)).setCell ⟨w.heap.size + 1 + 1, j * 5 + 4, none⟩ (.int .i64 r2)) := (Fr.refl (fun i => i = w.heap.size + 1 + 1) w2).five (fun _ => rfl) _ _ _ _ _ _
              refine ⟨j + 1, l' ++ [T.mk k2 n2 s2 A2 cap2 l2 r2], hlt, by go_num, by simp [inv.len], ?_, ?_, hfar (by omega) inv.b0, hfar (by omega) inv.b1, ⟨_, HB.out.five _ _ _ _ _ _, ?_, ?_⟩, ?_, ?_⟩
              · rw [List.map_append, inv.vs, List.take_succ_eq_append_getElem hlt, List.map_append, List.map_singleton, List.map_singleton, HV.out, HX.out]
              · exact (((fr.alloc _).thenNo fr2).five (by omega) _ _ _ _ _ _)
              · simpa using hcs
              · have := HR.out.five (k := k2) (n := n2) (s := s2) (A := A2) (cap := cap2) (l1 := l2) (r := r2) (by rw [inv.len, hcs]; omega)
                simpa [inv.len] using this
              · have h1 : Forest w2 (w.heap.size + 3) (wr.heap.size + 1) l' := ((inv.forest.no ((Fr.refl No wr).alloc _) (Nat.le_refl _)).no fr2 (by simp)).more (Nat.le_refl _) (by omega)
                have h2 := h1.snoc HO.out (by omega) hsz2
                simpa using h2.fr hst (Nat.le_refl _) (fun i hi _ e => by omega)
              · simp; omega
            case measure => simp [intOf]; omega
        · obtain rfl : l.length = j := by omega
          have c0 : wr.cell? ⟨w.heap.size, 0, none⟩ = some (.int .u8 k) := inv.b0.cell 0
          have c1 : wr.cell? ⟨w.heap.size, 1, none⟩ = some (.int .i64 n) := inv.b0.cell 1
          have c2 : wr.cell? ⟨w.heap.size, 2, none⟩ = some (.string s) := inv.b0.cell 2
          have c3 : wr.cell? ⟨w.heap.size, 3, none⟩ = some (.slice A l.length cap) := inv.b0.cell 3
          have c4 : wr.cell? ⟨w.heap.size, 4, none⟩ = some (.int .i64 r) := inv.b0.cell 4
          have cf := inv.b0.frozen 3
          have d0 : wr.cell? ⟨w.heap.size + 1, 0, none⟩ = some (.int .u8 0) := inv.b1.cell 0
          have d1 : wr.cell? ⟨w.heap.size + 1, 1, none⟩ = some (.int .i64 0) := inv.b1.cell 1
          have d2 : wr.cell? ⟨w.heap.size + 1, 2, none⟩ = some (.string ⟨#[]⟩) := inv.b1.cell 2
          have d3 : wr.cell? ⟨w.heap.size + 1, 3, none⟩ = some (.slice none 0 0) := inv.b1.cell 3
          have d4 : wr.cell? ⟨w.heap.size + 1, 4, none⟩ = some (.int .i64 0) := inv.b1.cell 4
          have df := inv.b1.frozen
          have HI := hide inv
          clear inv hmk ih
          go_wp2
          have inv := HI.out
          refine bodyPost_ret (v := .agg #[.int .u8 k, .int .i64 n, .string s, .slice (some ⟨w.heap.size + 1 + 1, 0, none⟩) l.length l.length, .int .i64 r]) (by simp [results, Try.results104, go_sem, *]) rfl ?_
          generalize hW : World.setCell _ _ _ = W
          have hfr : Fr (fun i => i = w.heap.size ∨ i = w.heap.size + 1) wr W := by
            rw [← hW]
            repeat (first | with_reducible exact Fr.refl _ wr | with_reducible refine Fr.set ?_ (by simp) _)
          obtain ⟨cs, hb, hcs, hrow⟩ := inv.row
          have hl' := inv.len
          have hb' : Blk W (w.heap.size + 1 + 1) 27 cs := hb.fr hfr (by omega)
          have hF : Forest W (w.heap.size + 3) wr.heap.size l' := inv.forest.fr hfr (Nat.le_refl _) (fun i h0 h1 h2 => by omega)
          have hsz := hfr.size
          refine ⟨T.mk k n s (some ⟨w.heap.size + 1 + 1, 0, none⟩) l.length l' r, by rw [T.val_mk, hl'], ?_, ?_, inv.fr.trans' hfr (fun i hi h => by omega)⟩
          · rw [T.v_mk, T.v_mk, inv.vs, List.take_of_length_le (Nat.le_refl _)]
          · refine T.ow_mk ⟨fit.k0, fit.k1, fit.n0, fit.n1, fit.s1, by omega, by omega, fit.r0, fit.r1⟩ (hF.more (by omega) hsz) hb' hrow (by omega) (by omega) (fun hm => ?_)
            have := hF.blocks _ hm
            omega
end Go.Proofs.Ytihjmipmjogpoaa

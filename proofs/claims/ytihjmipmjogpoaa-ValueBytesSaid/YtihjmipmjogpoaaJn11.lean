/- Texts joined: P4, B7, B8, P5, Z6, P8. -/
import Derived.Test.YtihjmipmjogpoaaJn10
import Derived.Deep.RegionHeld3
import Derived.WalkLawsBesides
/- Chapter 2: the law's own spoil: it writes over a value's lists, and grows them. -/
namespace Go.Proofs.Ytihjmipmjogpoaa
open Go.RowKit

def m5 : T := lf 1 (-5) ⟨#[]⟩ 0
def m6 : T := lf 1 (-6) ⟨#[]⟩ 0

/-- A row whose first parts are written over. -/
def spRow (l : List T) (j : Nat) : List T := List.replicate j m5 ++ l.drop j

theorem spRow_zero (l : List T) : spRow l 0 = l := by simp [spRow]
theorem spRow_length {l : List T} {j : Nat} (h : j ≤ l.length) : (spRow l j).length = l.length := by simp [spRow]; omega
theorem spRow_at {l : List T} {j : Nat} (h : j < l.length) : (spRow l j)[j]? = some l[j] := by
  rw [spRow, List.getElem?_append_right (by simp)]
  simp [h]
theorem spRow_set {l : List T} {j : Nat} (h : j < l.length) : (spRow l j).set j m5 = spRow l (j + 1) := by
  rw [spRow, spRow, List.set_append_right _ _ (by simp), List.length_replicate, Nat.sub_self, List.drop_eq_getElem_cons h, List.set_cons_zero, List.replicate_succ', List.append_assoc]
  rfl
theorem spRow_all (l : List T) : spRow l l.length = List.replicate l.length m5 := by simp [spRow]

/-- Five cells of a row of one's own written over. -/
theorem owns_set5 {w : World} {lo g n cap j : Nat} {L : List T} (h : w.ownsRow lo 27 5 (.slice (some ⟨g, 0, none⟩) n cap) n (rowCells L)) (hL : L.length = n) (hj : j < n) (k1 n1 : Int) (s1 : ByteArray) (A1 : Option Addr) (c1 : Nat) (l1 : List T) (r1 : Int) :
    (((((w.setCell ⟨g, j * 5, none⟩ (.int .u8 k1)).setCell ⟨g, j * 5 + 1, none⟩ (.int .i64 n1)).setCell ⟨g, j * 5 + 2, none⟩ (.string s1)).setCell ⟨g, j * 5 + 3, none⟩ (.slice A1 l1.length c1)).setCell ⟨g, j * 5 + 4, none⟩ (.int .i64 r1)).ownsRow lo 27 5 (.slice (some ⟨g, 0, none⟩) n cap) n (rowCells (L.set j (T.mk k1 n1 s1 A1 c1 l1 r1))) := by
  refine ⟨by rw [rowCells_length, List.length_set, hL], ?_⟩
  rcases h.2 with ⟨h', _⟩ | ⟨g', cap', cur, hv, hb, hg, hc, hm, hs, hx⟩
  · cases h'
  · simp at hv
    obtain ⟨rfl, rfl⟩ := hv
    have hB := (show Blk w g 27 cur from hg).five (j * 5) (.int .u8 k1) (.int .i64 n1) (.string s1) (.slice A1 l1.length c1) (.int .i64 r1)
    refine .inr ⟨g, cap, _, rfl, hb, hB, hc, hm, by simp [hs], ?_⟩
    refine List.ext_getElem? fun q => ?_
    have hsz : n * 5 ≤ cur.size := by rw [hs]; exact Nat.mul_le_mul_right _ hc
    by_cases hq : q < n * 5
    · have hi : q / 5 < n := by omega
      have hL2 : q / 5 < (L.set j (T.mk k1 n1 s1 A1 c1 l1 r1)).length := by rw [List.length_set, hL]; exact hi
      have hcl : q % 5 < ((L.set j (T.mk k1 n1 s1 A1 c1 l1 r1))[q / 5]).cells.length := by rw [T.cells_length]; omega
      have e1 := rowCells_get _ (q / 5) (q % 5) _ _ (List.getElem?_eq_getElem hL2) (List.getElem?_eq_getElem hcl)
      rw [show q / 5 * 5 + q % 5 = q by omega] at e1
      rw [e1, List.getElem?_take, if_pos hq, Array.getElem?_toList]
      simp only [Array.getElem?_setIfInBounds, Array.size_setIfInBounds]
      by_cases hqj : q / 5 = j
      · have hget : (L.set j (T.mk k1 n1 s1 A1 c1 l1 r1))[q / 5] = T.mk k1 n1 s1 A1 c1 l1 r1 := by
          rw [List.getElem_set, if_pos hqj.symm]
        have h5 : q % 5 = 0 ∨ q % 5 = 1 ∨ q % 5 = 2 ∨ q % 5 = 3 ∨ q % 5 = 4 := by omega
        have hqq : q = j * 5 + q % 5 := by omega
        have hlt : q < cur.size := by omega
        rcases h5 with h5 | h5 | h5 | h5 | h5
        all_goals
          rw [h5] at hqq
          simp only [hget, h5, T.cells_mk]
          subst hqq
          simp
          try omega
      · have hget : (L.set j (T.mk k1 n1 s1 A1 c1 l1 r1))[q / 5] = L[q / 5]'(by omega) := by
          rw [List.getElem_set, if_neg (fun h => hqj h.symm)]
        rw [if_neg (by omega), if_neg (by omega), if_neg (by omega), if_neg (by omega), if_neg (by omega)]
        have hcl' : q % 5 < (L[q / 5]'(by omega)).cells.length := by rw [T.cells_length]; omega
        have e2 := rowCells_get L (q / 5) (q % 5) _ _ (List.getElem?_eq_getElem (by omega)) (List.getElem?_eq_getElem hcl')
        rw [show q / 5 * 5 + q % 5 = q by omega, ← hx, List.getElem?_take, if_pos hq, Array.getElem?_toList] at e2
        rw [e2]
        simp only [hget]
    · rw [List.getElem?_eq_none (by simp; omega), List.getElem?_eq_none (by rw [rowCells_length, List.length_set, hL]; omega)]

theorem owns_five {w : World} {lo g n cap j : Nat} {L : List T} (h : w.ownsRow lo 27 5 (.slice (some ⟨g, 0, none⟩) n cap) n (rowCells L)) {k1 n1 : Int} {s1 : ByteArray} {A1 : Option Addr} {c1 : Nat} {l1 : List T} {r1 : Int} (hx : L[j]? = some (T.mk k1 n1 s1 A1 c1 l1 r1)) :
    w.cell? ⟨g, j * 5, none⟩ = some (.int .u8 k1) ∧ w.cell? ⟨g, j * 5 + 1, none⟩ = some (.int .i64 n1) ∧ w.cell? ⟨g, j * 5 + 2, none⟩ = some (.string s1) ∧ w.cell? ⟨g, j * 5 + 3, none⟩ = some (.slice A1 l1.length c1) ∧ w.cell? ⟨g, j * 5 + 4, none⟩ = some (.int .i64 r1) ∧ (∀ o, w.frozen? ⟨g, o, none⟩ = false) ∧ g < w.heap.size := by
  have hc : ∀ c u, (T.mk k1 n1 s1 A1 c1 l1 r1).cells[c]? = some u → w.cell? ⟨g, j * 5 + c, none⟩ = some u := fun c u hu => by
    have := World.ownsRow.cells h (g := g) rfl _ _ (rowCells_get L j c _ u hx hu)
    rwa [add_at, Nat.zero_add] at this
  refine ⟨hc 0 _ rfl, hc 1 _ rfl, hc 2 _ rfl, hc 3 _ rfl, hc 4 _ rfl, fun o => ?_, (owns_lt h g rfl).2⟩
  rcases h.2 with ⟨h', _⟩ | ⟨g', cap', cur, hv, hb, hg, _⟩
  · cases h'
  · simp at hv
    obtain ⟨rfl, rfl⟩ := hv
    exact Blk.frozen hg o

/-- Where spoil's first loop stands. -/
structure SpInv (w : World) (lo hi : Nat) (k n : Int) (s : ByteArray) (A : Option Addr) (cap : Nat) (l : List T) (r : Int) (j : Nat) (wr : World) : Prop where
  fr : Fr (fun i => i ∈ (T.mk k n s A cap l r).blocks) w wr
  box : Blk wr w.heap.size 27 #[.int .u8 k, .int .i64 n, .string s, .slice A l.length cap, .int .i64 r]
  own : wr.ownsRow lo 27 5 (.slice A l.length cap) l.length (rowCells (spRow l j))
  sp : ∀ i (h : i < l.length), j ≤ i → l[i].Sp wr lo hi

theorem sp_child_ne {k n : Int} {s : ByteArray} {g o cap : Nat} {l : List T} {r : Int} (h : (T.mk k n s (some ⟨g, o, none⟩) cap l r).blocks.Nodup) {x : T} (hx : x ∈ l) : g ∉ x.blocks := by
  intro hg
  rw [T.blocks_mk] at h
  have hne : l.isEmpty = false := by cases l with
    | nil => cases hx
    | cons => rfl
  rw [hne] at h
  simp only [Bool.false_eq_true, if_false, Option.map_some, Option.toList_some, List.singleton_append, List.nodup_cons] at h
  exact h.1 (List.mem_flatten.2 ⟨_, List.mem_map_of_mem hx, hg⟩)

theorem nodup_at {L : List (List Nat)} (h : L.flatten.Nodup) {i j : Nat} (hi : i < L.length) (hj : j < L.length) (hij : i < j) {b : Nat} (hb : b ∈ L[i]) : b ∉ L[j] := by
  induction L generalizing i j with
  | nil => simp at hi
  | cons a L ih =>
    rw [List.flatten_cons, List.nodup_append] at h
    cases i with
    | zero =>
      cases j with
      | zero => omega
      | succ j =>
        intro h2
        exact h.2.2 b hb b (List.mem_flatten.2 ⟨_, List.getElem_mem (by simpa using hj), h2⟩) rfl
    | succ i =>
      cases j with
      | zero => omega
      | succ j => exact ih h.2.1 (by simpa using hi) (by simpa using hj) (by omega) hb

theorem sp_child_far {k n : Int} {s : ByteArray} {A : Option Addr} {cap : Nat} {l : List T} {r : Int} (h : (T.mk k n s A cap l r).blocks.Nodup) {i j : Nat} (hi : i < l.length) (hj : j < l.length) (hij : i < j) {b : Nat} (hb : b ∈ l[j].blocks) : b ∉ l[i].blocks := by
  rw [T.blocks_mk, List.nodup_append] at h
  intro hb2
  have := nodup_at (L := l.map T.blocks) h.2.1 (i := i) (j := j) (by simpa using hi) (by simpa using hj) hij (b := b) (by simpa using hb2)
  exact this (by simpa using hb)

theorem sp_child_nodup {k n : Int} {s : ByteArray} {A : Option Addr} {cap : Nat} {l : List T} {r : Int} (h : (T.mk k n s A cap l r).blocks.Nodup) {x : T} (hx : x ∈ l) : x.blocks.Nodup := by
  rw [T.blocks_mk, List.nodup_append] at h
  have h2 := h.2.1
  clear h
  induction l with
  | nil => cases hx
  | cons a l ih =>
    rw [List.map_cons, List.flatten_cons, List.nodup_append] at h2
    rcases List.mem_cons.1 hx with rfl | hx
    · exact h2.1
    · exact ih hx h2.2.1

/-- One part is spoiled, then written over. -/
theorem sp_push {w wr w2 w3 : World} {lo hi : Nat} {k n : Int} {s : ByteArray} {g cap : Nat} {l : List T} {r : Int} {j : Nat} (inv : SpInv w lo hi k n s (some ⟨g, 0, none⟩) cap l r j wr) (hnd : (T.mk k n s (some ⟨g, 0, none⟩) cap l r).blocks.Nodup) (hj : j < l.length) (hh : hi ≤ w.heap.size) (hlo : ∀ x ∈ l, x.In w lo hi)
    (f2 : Fr (fun i => i ∈ l[j].blocks) wr w2) (f3 : Fr No w2 w3) :
    Blk w3 w.heap.size 27 #[.int .u8 k, .int .i64 n, .string s, .slice (some ⟨g, 0, none⟩) l.length cap, .int .i64 r] ∧ w3.ownsRow lo 27 5 (.slice (some ⟨g, 0, none⟩) l.length cap) l.length (rowCells (spRow l j)) ∧
    (g < w.heap.size → SpInv w lo hi k n s (some ⟨g, 0, none⟩) cap l r (j + 1) (((((w3.setCell ⟨g, j * 5, none⟩ (.int .u8 1)).setCell ⟨g, j * 5 + 1, none⟩ (.int .i64 (-5))).setCell ⟨g, j * 5 + 2, none⟩ (.string ⟨#[]⟩)).setCell ⟨g, j * 5 + 3, none⟩ (.slice none 0 0)).setCell ⟨g, j * 5 + 4, none⟩ (.int .i64 0))) := by
  have F : Fr (fun i => i ∈ l[j].blocks) wr w3 := f2.thenNo f3
  have hmem := List.getElem_mem hj
  have hbl : ∀ b ∈ l[j].blocks, lo ≤ b ∧ b < hi := T.In.blocks _ (hlo _ hmem)
  have hg := sp_child_ne hnd hmem
  have b3 := inv.box.fr F (fun h => by have := hbl _ h; omega)
  have o3 := owns_fr inv.own F (fun g' h => by simp [Value.ownBlock] at h; subst h; exact hg)
  refine ⟨b3, o3, fun hgs => ?_⟩
  have F5 := (Fr.refl (fun i => i = g) w3).five (g := g) (fun _ => rfl) (j * 5) (.int .u8 1) (.int .i64 (-5)) (.string ⟨#[]⟩) (.slice none 0 0) (.int .i64 0)
  have hgm : g ∈ (T.mk k n s (some ⟨g, 0, none⟩) cap l r).blocks := T.mem_blocks (by rintro rfl; simp at hj)
  refine ⟨?_, ?_, ?_, fun i hi' hij => ?_⟩
  · refine (inv.fr.trans' F fun i _ h => T.sub_blocks hmem h).trans' F5 fun i _ h => ?_
    have h' : i = g := h
    rw [h']; exact hgm
  · exact b3.fr F5 (fun h => by have h' : w.heap.size = g := h; omega)
  · have := owns_set5 o3 (spRow_length (Nat.le_of_lt hj)) hj 1 (-5) ⟨#[]⟩ none 0 [] 0
    rw [show T.mk 1 (-5) ⟨#[]⟩ none 0 [] 0 = m5 from rfl, spRow_set hj] at this
    exact this
  · have h1 := inv.sp i hi' (by omega)
    have h2 := T.Sp.fr F _ (fun b hb => sp_child_far hnd hj hi' (by omega) hb) h1
    exact T.Sp.fr F5 _ (fun b hb h => by have h' : b = g := h; subst h'; exact sp_child_ne hnd (List.getElem_mem hi') hb) h2

set_option maxRecDepth 100000 in
set_option maxHeartbeats 8000000 in
theorem spoil_any (t : T) : ∀ (w : World) (lo hi : Nat), t.Sh w lo hi → hi ≤ w.heap.size → lo ≤ w.heap.size → t.v.size ≤ 1000000 →
    Calls Try.prog 44 #[t.val] w fun e w' => (∃ z : Nat, e = .returned (.int .i64 (z : Int)) ∧ 0 < z ∧ z + 1 ≤ 6 * t.v.size) ∧ Fr (fun i => i ∈ t.blocks) w w' := by
  induction t using T.ind with
  | h k n s A cap l r ih =>
    intro w lo hi hsh hh hlow hsz
    have hin := hsh.inn
    have fit := (T.in_mk.1 hin).1
    have hlen := fit.len1
    have hsp := T.sp_mk.1 hsh.sp
    have hnd := hsh.nodup
    rw [T.val_mk]
    have hsize : (T.mk k n s A cap l r).v.size = 1 + ((l.map T.v).map V.size).sum := by rw [T.v_mk, V.size_mk]
    rw [hsize] at hsz ⊢
    have hls := size_sum (l.map T.v)
    rw [List.length_map] at hls
    have hfr0 : Fr (fun i => i ∈ (T.mk k n s A cap l r).blocks) w (w.alloc (.cells #[.int .u8 k, .int .i64 n, .string s, .slice A l.length cap, .int .i64 r] 27)) := (Fr.refl _ w).alloc _
    have hinv0 : SpInv w lo hi k n s A cap l r 0 (w.alloc (.cells #[.int .u8 k, .int .i64 n, .string s, .slice A l.length cap, .int .i64 r] 27)) := by
      refine ⟨hfr0, Blk.new w 27 _, ?_, fun i h _ => T.Sp.fr ((Fr.refl No w).alloc _) _ (fun _ _ h => h) (hsp.2.2.2 _ (List.getElem_mem h))⟩
      rw [spRow_zero]
      by_cases hl : l = []
      · obtain ⟨h1, h2⟩ := hsp.2.1 hl
        subst hl h1 h2
        exact World.ownsRow_nil _ _ _ _
      · exact (hsp.2.2.1 hl).1.alloc _
    have hAg : l ≠ [] → ∃ g, A = some ⟨g, 0, none⟩ ∧ g < hi := fun hl => (hsp.2.2.1 hl).2
    have hlo : ∀ x ∈ l, x.In w lo hi := (T.in_mk.1 hin).2.2
    obtain ⟨i0, hi0, hz0, hz1, hz2⟩ := info_parts value_info
    have HS := hide hsize
    clear hsize hfr0
    go_enter Try.func44, Try.ntmps44
    go_wp2_with fail
    go_loopw [3, 4] (fun v i wr => ∃ j m : Nat, j ≤ l.length ∧ i = .int .i64 (j : Int) ∧ v = .int .i64 (m : Int) ∧ m + j ≤ 6 * (((l.map T.v).map V.size).take j).sum ∧ SpInv w lo hi k n s A cap l r j wr) (fun _ i _ => l.length - (intOf i).toNat)
    case atStart => exact ⟨0, 0, Nat.zero_le _, rfl, rfl, by simp, hinv0⟩
    case round =>
      obtain ⟨j, m, hj, rfl, rfl, hm, inv⟩ := hrel
      obtain ⟨c0, c1, c2, c3, c4, cf⟩ := inv.box.cells5
      have q0 := inv.box.lt
      have hts := sum_take_le ((l.map T.v).map V.size) j
      by_cases hlt : j < l.length
      · obtain ⟨g, rfl, hg⟩ := hAg (by rintro rfl; simp at hlt)
        have hcase := ih l[j] (List.getElem_mem hlt) wr lo hi ⟨inv.sp j hlt (Nat.le_refl _), sp_child_nodup hnd (List.getElem_mem hlt)⟩ (by have := inv.fr.size; omega) (by have := inv.fr.size; omega)
        have hto := sum_take_succ ((l.map T.v).map V.size) j (by simpa using hlt)
        have hts2 := sum_take_le ((l.map T.v).map V.size) (j + 1)
        rw [List.getElem_map, List.getElem_map] at hto
        have hpush := fun w2 w3 (f2 : Fr (fun i => i ∈ l[j].blocks) wr w2) (f3 : Fr No w2 w3) => sp_push inv hnd hlt hh hlo f2 f3
        have hat := spRow_at hlt
        cases hx : l[j] with
        | mk k1 n1 s1 A1 cap1 l1 r1 =>
          rw [hx] at hcase hto hpush hat
          rw [T.val_mk] at hcase
          obtain ⟨e0, e1, e2, e3, e4, ef, eg⟩ := owns_five inv.own hat
          generalize (T.mk k1 n1 s1 A1 cap1 l1 r1).v.size = z at *
          generalize (T.mk k1 n1 s1 A1 cap1 l1 r1).blocks = bl at *
          have hcase2 := hcase (by omega)
          have HC := hide hcase2
          have HTO := hide hto
          have HP := hide hpush
          have HAT := hide hat
          have hmz : m ≤ 6000000 := by omega
          have hm2 : m + j ≤ 6 * (((l.map T.v).map V.size).take j).sum := hm
          have HM := hide hm2
          have hzz : z ≤ 1000000 := by omega
          have hgs : g < w.heap.size := by omega
          clear hcase hcase2 hto hpush hat hx ih inv hinv0 hin hsh hnd hsp hAg hts hts2 hm hm2 hlo
          go_wp2_with fail
          refine HC.out.mono ?_
          rintro e w2 ⟨⟨y, rfl, hy0, hy1⟩, f2⟩
          obtain ⟨b2, o2, -⟩ := HP.out w2 w2 f2 (Fr.refl No w2)
          clear c0 c1 c2 c3 c4 cf q0 e0 e1 e2 e3 e4 ef eg
          obtain ⟨c0, c1, c2, c3, c4, cf⟩ := b2.cells5
          have q0 := b2.lt
          have HB2 := hide b2
          have HO2 := hide o2
          have HF2 := hide f2
          clear b2 o2 f2
          have hyb : y ≤ 6000000 := by omega
          have hnum := fun w3 => num2_any (-5) w3
          have hadd : m + y + (j + 1) ≤ 6 * (((l.map T.v).map V.size).take (j + 1)).sum := by
            rw [HTO.out]; have := HM.out; omega
          have HADD := hide hadd
          clear hadd
          go_wp2_with fail
          go_region_law (go_simp; go_at_call 79; (with_reducible refine (hnum _).mono ?_); rintro e w3 ⟨rfl, f3⟩; obtain ⟨b3, o3, hi3⟩ := HP.out w2 w3 HF2.out ⟨f3.os, f3.tape, f3.output, f3.size, f3.block⟩; obtain ⟨x0, x1, x2, x3, x4, xf, xg⟩ := owns_five o3 HAT.out; obtain ⟨d0, d1, d2, d3, d4, df⟩ := b3.cells5; have HI3 := hide (hi3 hgs); clear b3 o3 hi3)
          all_goals
            go_wp2
            go_roundw
            case rel => exact ⟨j + 1, m + y, hlt, by go_num, by go_num, HADD.out, HI3.out⟩
            case measure => simp [intOf]; omega
      · obtain rfl : l.length = j := by omega
        have hown := inv.own
        rw [spRow_all] at hown
        have hAb : ∀ g, (Value.slice A l.length cap).ownBlock = some g → g ∈ (T.mk k n s A cap l r).blocks ∨ w.heap.size ≤ g := fun g hg => by
          by_cases hl : l = []
          · obtain ⟨h1, _⟩ := hsp.2.1 hl
            subst h1; cases hg
          · obtain ⟨g', rfl, _⟩ := hAg hl
            simp [Value.ownBlock] at hg
            subst hg
            exact .inl (T.mem_blocks hl)
        have hst : Fr (fun i => i ∈ (T.mk k n s A cap l r).blocks) w wr := inv.fr
        have hm0 : m + l.length ≤ 6 * ((l.map T.v).map V.size).sum := by
          rw [List.take_of_length_le (by simp)] at hm; exact hm
        have HM := hide hm0
        have HOWN := hide hown
        have HAB := hide hAb
        have HST := hide hst
        have hmm : m ≤ 6000000 := by omega
        clear hown hAb hst hm hm0 inv ih hinv0 hsp hnd hsh hin hlo hAg hts
        go_wp2_with fail
        clear c0 c1 c2 c3 c4 cf q0
        go_loopw [5, 6] (fun v i wk => ∃ (c : Nat) (A3 : Option Addr) (cap3 : Nat), c ≤ 5 ∧ i = .int .i64 (c : Int) ∧ v = .slice A3 (l.length + c) cap3 ∧ wk.ownsRow lo 27 5 (.slice A3 (l.length + c) cap3) (l.length + c) (rowCells (List.replicate l.length m5 ++ List.replicate c m6)) ∧
          Fr (fun i => i ∈ (T.mk k n s A cap l r).blocks) w wk ∧ (∀ g, (Value.slice A3 (l.length + c) cap3).ownBlock = some g → g ∈ (T.mk k n s A cap l r).blocks ∨ w.heap.size ≤ g)) (fun _ i _ => 5 - (intOf i).toNat)
        case atStart => exact ⟨0, A, cap, by omega, rfl, rfl, by simpa using HOWN.out, HST.out, HAB.out⟩
        case round =>
          obtain ⟨c, A3, cap3, hc, rfl, rfl, own3, fr3, hb3⟩ := hrel
          by_cases hc5 : c < 5
          · have HO3 := hide own3
            have HF3 := hide fr3
            have HB3 := hide hb3
            have hsz3 := fr3.size
            have hnum := fun w3 => num2_any (-6) w3
            clear own3 fr3 hb3
            go_wp2_with fail
            refine (hnum wr).mono ?_
            rintro e w4 ⟨rfl, f4⟩
            have hs4 := f4.size
            have hownA := (owns_fr HO3.out f4 fun _ _ h => h).alloc (.cells #[.int .u8 1, .int .i64 (-6), .string ⟨#[]⟩, .slice none 0 0, .int .i64 0] 27)
            have HF4 := hide f4
            clear f4
            go_wp2_with (at_builtin; refine wpList_append_lies _ (by rfl) _ _ _ (by rfl) lo 27 i0 _ 5 64 Try.underlying24 hi0 hz0 hz1 hz2 (by rfl) (by omega) (.slice A3 (l.length + c) cap3) (l.length + c) (rowCells (List.replicate l.length m5 ++ List.replicate c m6)) (by rfl) hownA ⟨w4.heap.size, 0, none⟩ 1 1 [.int .u8 1, .int .i64 (-6), .string ⟨#[]⟩, .slice none 0 0, .int .i64 0] (by rfl) (by rfl) (World.news_of_block (Blk.new w4 27 _)) (by simp [Value.oneCell']) (by omega) (by unfold maxLen; omega) (by omega) (by simp; omega) (w4.heap.size + 1) (by simp) ?_; intro g cp w5 hown5 hgrow hat hlt5; have HO5 := hide hown5; have HG := hide hgrow; have HA := hide hat; clear hown5 hgrow hat)
            go_roundw
            case rel =>
              refine ⟨c + 1, some ⟨g, 0, none⟩, cp, by omega, by go_num, rfl, ?_, ?_, ?_⟩
              · have h := HO5.out
                rw [List.replicate_succ', ← List.append_assoc, rowCells_snoc]
                exact h
              · refine (((HF3.out.thenNo HF4.out).alloc _).trans' (fr_grown HG.out) fun i hi h => ?_)
                have h' : some i = (Value.slice A3 (l.length + c) cap3).ownBlock := h
                rcases HB3.out i h'.symm with h | h
                · exact h
                · omega
              · intro g' hg'
                simp [Value.ownBlock] at hg'
                subst hg'
                rcases HA.out with h | h
                · exact HB3.out _ h
                · right; omega
            case measure => simp [intOf]; omega
          · obtain rfl : c = 5 := by omega
            have HF3 := hide fr3
            clear fr3 own3 hb3
            go_wp2
            go_ret
            refine ⟨⟨m + (l.length + 5), by go_num, by omega, ?_⟩, HF3.out⟩
            have := HM.out
            omega

end Go.Proofs.Ytihjmipmjogpoaa

/- Chapter 2: the document's answer: order, Order, Same. -/
namespace Go.Proofs.Ytihjmipmjogpoaa
open Go.RowKit

theorem less_total : ∀ (a b : List UInt8), Op.bytesLess a b = false → Op.bytesLess b a = false → a = b
  | [], [], _, _ => rfl
  | [], y :: b, h, _ => by simp [Op.bytesLess] at h
  | x :: a, [], _, h => by simp [Op.bytesLess] at h
  | x :: a, y :: b, h, h' => by
    simp only [Op.bytesLess, Bool.or_eq_false_iff, Bool.and_eq_false_iff, decide_eq_false_iff_not, beq_eq_false_iff_ne] at h h'
    have hxy : x = y := by
      have q1 := h.1
      have q2 := h'.1
      rw [UInt8.lt_iff_toNat_lt] at q1 q2
      exact UInt8.toNat_inj.1 (by omega)
    subst hxy
    rw [less_total a b (h.2.resolve_left (fun h => h rfl)) (h'.2.resolve_left (fun h => h rfl))]

theorem less_asymm : ∀ (a b : List UInt8), Op.bytesLess a b = true → Op.bytesLess b a = false
  | [], [], h => by simp [Op.bytesLess] at h
  | [], y :: b, _ => rfl
  | x :: a, [], h => by simp [Op.bytesLess] at h
  | x :: a, y :: b, h => by
    simp only [Op.bytesLess, Bool.or_eq_true, Bool.and_eq_true, decide_eq_true_eq, beq_iff_eq] at h
    simp only [Op.bytesLess, Bool.or_eq_false_iff, Bool.and_eq_false_iff, decide_eq_false_iff_not, beq_eq_false_iff_ne]
    rcases h with h | ⟨rfl, h⟩
    · exact ⟨UInt8.lt_asymm h, .inl fun e => by subst e; exact absurd h (UInt8.lt_irrefl _)⟩
    · exact ⟨UInt8.lt_irrefl _, .inr (less_asymm a b h)⟩

theorem fok_n {k n : Int} {s : ByteArray} {len : Nat} {r : Int} (h : fok k n s len r = true) (hk : k ≠ 1) : n = 0 := by
  rcases fok_kind h with rfl | rfl | rfl | rfl | rfl
  · simp [fok] at h; exact h.1.1.1
  · exact absurd rfl hk
  · simp [fok] at h; exact h.1.1.2
  · simp [fok] at h; exact h.1.1
  · simp [fok] at h; exact h.1.1.2
theorem fok_s {k n : Int} {s : ByteArray} {len : Nat} {r : Int} (h : fok k n s len r = true) (hk : k ≠ 2) : s.toList = [] := by
  rcases fok_kind h with rfl | rfl | rfl | rfl | rfl
  · simp [fok] at h; exact h.1.1.2
  · simp [fok] at h; exact h.1.1
  · exact absurd rfl hk
  · simp [fok] at h; exact h.1.2
  · simp [fok] at h; exact h.1.2
theorem fok_r {k n : Int} {s : ByteArray} {len : Nat} {r : Int} (h : fok k n s len r = true) (hk : k ≠ 4) : r = 0 := by
  rcases fok_kind h with rfl | rfl | rfl | rfl | rfl
  · simp [fok] at h; exact h.1.2
  · simp [fok] at h; exact h.1.2
  · simp [fok] at h; exact h.1.2
  · simp [fok] at h; exact h.2
  · exact absurd rfl hk

section
variable {k n n' : Int} {s s' : ByteArray} {l l' : List V} {r r' : Int} (hu : fok k n s l.length r = true) (hv : fok k n' s' l'.length r' = true)
include hu hv
theorem ord_part (a b : Bool) (ha : a = (decide (n < n') || Op.bytesLess s.toList s'.toList || decide (r < r'))) (hb : b = (decide (n' < n) || Op.bytesLess s'.toList s.toList || decide (r' < r))) :
    (k = 0 ∨ k = 3 → a = false ∧ b = false) ∧ (k = 1 → a = decide (n < n') ∧ b = decide (n' < n)) ∧ (k = 2 → a = Op.bytesLess s.toList s'.toList ∧ b = Op.bytesLess s'.toList s.toList) ∧ (k = 4 → a = decide (r < r') ∧ b = decide (r' < r)) := by
  subst ha hb
  have hn : k ≠ 1 → n = 0 ∧ n' = 0 := fun h => ⟨fok_n hu h, fok_n hv h⟩
  have hs : k ≠ 2 → s.toList = [] ∧ s'.toList = [] := fun h => ⟨fok_s hu h, fok_s hv h⟩
  have hr : k ≠ 4 → r = 0 ∧ r' = 0 := fun h => ⟨fok_r hu h, fok_r hv h⟩
  refine ⟨fun h => ?_, fun h => ?_, fun h => ?_, fun h => ?_⟩
  · obtain ⟨e1, e2⟩ := hn (by omega)
    obtain ⟨e3, e4⟩ := hs (by omega)
    obtain ⟨e5, e6⟩ := hr (by omega)
    rw [e1, e2, e3, e4, e5, e6]; exact ⟨rfl, rfl⟩
  · obtain ⟨e3, e4⟩ := hs (by omega)
    obtain ⟨e5, e6⟩ := hr (by omega)
    rw [e3, e4, e5, e6]; simp [Op.bytesLess]
  · obtain ⟨e1, e2⟩ := hn (by omega)
    obtain ⟨e5, e6⟩ := hr (by omega)
    rw [e1, e2, e5, e6]; simp
  · obtain ⟨e1, e2⟩ := hn (by omega)
    obtain ⟨e3, e4⟩ := hs (by omega)
    rw [e1, e2, e3, e4]; simp [Op.bytesLess]

theorem ord_low (h : n < n' ∨ Op.bytesLess s.toList s'.toList = true ∨ r < r') : (V.mk k n s l r).ord (V.mk k n' s' l' r') = -1 := by
  obtain ⟨p0, p1, p2, p4⟩ := ord_part hu hv true _ (by rcases h with h | h | h <;> simp [h]) rfl
  rw [V.ord_mk, ordOf, if_pos rfl]
  rcases fok_kind hu with rfl | rfl | rfl | rfl | rfl
  · exact absurd (p0 (.inl rfl)).1 (by decide)
  · have := (p1 rfl).1; rw [if_pos rfl, cmpI, if_pos (by simpa using this.symm)]
  · have := (p2 rfl).1; rw [if_neg (by decide), if_pos rfl, cmpS, if_pos this.symm]
  · exact absurd (p0 (.inr rfl)).1 (by decide)
  · have := (p4 rfl).1; rw [if_neg (by decide), if_neg (by decide), if_pos rfl, cmpI, if_pos (by simpa using this.symm)]

theorem ord_high (h : n' < n ∨ Op.bytesLess s'.toList s.toList = true ∨ r' < r) : (V.mk k n s l r).ord (V.mk k n' s' l' r') = 1 := by
  obtain ⟨p0, p1, p2, p4⟩ := ord_part hu hv _ true rfl (by rcases h with h | h | h <;> simp [h])
  rw [V.ord_mk, ordOf, if_pos rfl]
  rcases fok_kind hu with rfl | rfl | rfl | rfl | rfl
  · exact absurd (p0 (.inl rfl)).2 (by decide)
  · have h1 : n' < n := by simpa using (p1 rfl).2.symm
    rw [if_pos rfl, cmpI, if_neg (by omega), if_pos h1]
  · have h1 := (p2 rfl).2.symm
    have h2 := less_asymm _ _ h1
    rw [if_neg (by decide), if_pos rfl, cmpS, h2, if_neg (by decide), if_neg]
    intro h3
    rw [beq_iff_eq] at h3
    rw [h3, less_self] at h1
    cases h1
  · exact absurd (p0 (.inr rfl)).2 (by decide)
  · have h1 : r' < r := by simpa using (p4 rfl).2.symm
    rw [if_neg (by decide), if_neg (by decide), if_pos rfl, cmpI, if_neg (by omega), if_pos h1]

theorem ord_list (h1 : ¬ (n < n' ∨ Op.bytesLess s.toList s'.toList = true ∨ r < r')) (h2 : ¬ (n' < n ∨ Op.bytesLess s'.toList s.toList = true ∨ r' < r)) : (V.mk k n s l r).ord (V.mk k n' s' l' r') = ordL (l.map V.ord) l' := by
  rw [V.ord_mk, ordOf, if_pos rfl]
  have hl0 : k ≠ 3 → l = [] ∧ l' = [] := fun h => ⟨List.eq_nil_of_length_eq_zero (fok_len h hu), List.eq_nil_of_length_eq_zero (fok_len h hv)⟩
  rcases fok_kind hu with rfl | rfl | rfl | rfl | rfl
  · rw [if_neg (by decide), if_neg (by decide), if_neg (by decide)]
  · obtain ⟨rfl, rfl⟩ := hl0 (by decide)
    rw [if_pos rfl, cmpI, if_neg (by omega), if_neg (by omega)]; rfl
  · obtain ⟨rfl, rfl⟩ := hl0 (by decide)
    have e : s.toList = s'.toList := less_total _ _ (by simpa using fun h => h1 (.inr (.inl h))) (by simpa using fun h => h2 (.inr (.inl h)))
    rw [if_neg (by decide), if_pos rfl, cmpS, e, less_self]; simp [ordL]
  · rw [if_neg (by decide), if_neg (by decide), if_neg (by decide)]
  · obtain ⟨rfl, rfl⟩ := hl0 (by decide)
    rw [if_neg (by decide), if_neg (by decide), if_pos rfl, cmpI, if_neg (by omega), if_neg (by omega)]; rfl
end

theorem ordL_end {fs : List (V → Int)} {vs : List V} {j : Nat} (hj : j = fs.length ∨ j = vs.length) (hz : EqTo fs vs j) : ordL fs vs = if fs.length < vs.length then -1 else if vs.length < fs.length then 1 else 0 := by
  rcases Nat.lt_trichotomy fs.length vs.length with h | h | h
  · rw [if_pos h]
    rw [ordL_done (by omega) (fun i f v hi => hz i f v (by rcases hj with rfl | rfl <;> omega)), if_pos h]
  · rw [if_neg (by omega), if_neg (by omega)]
    rw [ordL_done (by omega) (fun i f v hi => hz i f v (by rcases hj with rfl | rfl <;> omega)), if_neg (by omega)]
  · rw [if_neg (by omega), if_pos h]
    exact ordL_more h (fun i f v hi => hz i f v (by rcases hj with rfl | rfl <;> omega))

set_option maxRecDepth 100000 in
set_option maxHeartbeats 8000000 in
theorem reforder_any (t : T) : ∀ (t' : T) (w : World) (lo hi lo' hi' : Nat), t.In w lo hi → hi ≤ w.heap.size → t'.In w lo' hi' → hi' ≤ w.heap.size → t.v.ok = true → t'.v.ok = true →
    Calls Try.prog 131 #[t.val, t'.val] w fun e w' => e = .returned (.int .i64 (t.v.ord t'.v)) ∧ Fr No w w' := by
  induction t using T.ind with
  | h k n s A cap l r ih =>
    intro t' w lo hi lo' hi' ht hh ht' hh' hok hok'
    cases t' with
    | mk k' n' s' A' cap' l' r' =>
      rw [T.val_mk, T.val_mk]
      have fr2 := ((Fr.refl No w).alloc (.cells #[.int .u8 k, .int .i64 n, .string s, .slice A l.length cap, .int .i64 r] 27)).alloc (.cells #[.int .u8 k', .int .i64 n', .string s', .slice A' l'.length cap', .int .i64 r'] 27)
      rw [T.v_mk] at hok hok' ⊢
      rw [T.v_mk]
      rw [V.ok_mk, Bool.and_eq_true, List.all_eq_true] at hok hok'
      have hlen := (T.in_mk.1 ht).1.len1
      have hlen' := (T.in_mk.1 ht').1.len1
      by_cases hk : k = k'
      case neg =>
        have hk' : (k != k') = true := by simpa using hk
        have e : (V.mk k n s (l.map T.v) r).ord (V.mk k' n' s' (l'.map T.v) r') = if k < k' then -1 else 1 := by
          rw [V.ord_mk, ordOf, if_neg hk, cmpI]
          split
          · rfl
          · rw [if_pos (by omega)]
        rw [e]
        clear ih hok hok' e ht ht'
        by_cases hlt : k < k'
        · rw [if_pos hlt]
          go_enter Try.func131, Try.ntmps131
          go_wp2
          go_ret
          exact ⟨rfl, fr2⟩
        · rw [if_neg hlt]
          go_enter Try.func131, Try.ntmps131
          go_wp2
          go_ret
          exact ⟨rfl, fr2⟩
      subst hk
      by_cases h1 : n < n' ∨ Op.bytesLess s.toList s'.toList = true ∨ r < r'
      · rw [ord_low hok.1 hok'.1 h1]
        clear ih hok hok' ht ht'
        by_cases a1 : n < n'
        · go_enter Try.func131, Try.ntmps131
          go_wp2
          go_ret
          exact ⟨rfl, fr2⟩
        cases a2 : Op.bytesLess s.toList s'.toList with
        | true =>
          clear h1
          go_enter Try.func131, Try.ntmps131
          go_wp2
          go_ret
          exact ⟨rfl, fr2⟩
        | false =>
          have a3 : r < r' := by rcases h1 with h | h | h; exact absurd h a1; rw [a2] at h; cases h; exact h
          clear h1
          go_enter Try.func131, Try.ntmps131
          go_wp2
          go_ret
          exact ⟨rfl, fr2⟩
      have b1 : ¬ n < n' := fun h => h1 (.inl h)
      have b2 : Op.bytesLess s.toList s'.toList = false := by simpa using fun h => h1 (.inr (.inl h))
      have b3 : ¬ r < r' := fun h => h1 (.inr (.inr h))
      by_cases h2 : n' < n ∨ Op.bytesLess s'.toList s.toList = true ∨ r' < r
      · rw [ord_high hok.1 hok'.1 h2]
        clear ih hok hok' ht ht' h1
        by_cases a1 : n' < n
        · go_enter Try.func131, Try.ntmps131
          go_wp2
          go_ret
          exact ⟨rfl, fr2⟩
        cases a2 : Op.bytesLess s'.toList s.toList with
        | true =>
          have a4 : (s.toList == s'.toList) = false := by
            simp only [beq_eq_false_iff_ne]
            intro h3
            rw [h3, less_self] at a2
            cases a2
          have a5 : ¬ s.toList = s'.toList := by simpa using a4
          clear h2
          go_enter Try.func131, Try.ntmps131
          go_wp2
          go_ret
          exact ⟨rfl, fr2⟩
        | false =>
          have a3 : r' < r := by rcases h2 with h | h | h; exact absurd h a1; rw [a2] at h; cases h; exact h
          obtain rfl : s = s' := bytes_ext (less_total _ _ b2 a2)
          clear h2
          go_enter Try.func131, Try.ntmps131
          go_wp2
          go_ret
          exact ⟨rfl, fr2⟩
      have d1 : ¬ n' < n := fun h => h2 (.inl h)
      have d2 : Op.bytesLess s'.toList s.toList = false := by simpa using fun h => h2 (.inr (.inl h))
      have d3 : ¬ r' < r := fun h => h2 (.inr (.inr h))
      have hE := ord_list hok.1 hok'.1 h1 h2
      obtain rfl : s = s' := bytes_ext (less_total _ _ b2 d2)
      have HE := hide hE
      have HOK := hide hok.2
      have HOK' := hide hok'.2
      clear h1 h2 hE hok hok'
      have hK0 := (Blk.new' w 27 #[.int .u8 k, .int .i64 n, .string s, .slice A l.length cap, .int .i64 r] rfl).alloc (.cells #[.int .u8 k, .int .i64 n', .string s, .slice A' l'.length cap', .int .i64 r'] 27)
      have hV0 := Blk.new' (w.alloc (.cells #[.int .u8 k, .int .i64 n, .string s, .slice A l.length cap, .int .i64 r] 27)) 27 #[.int .u8 k, .int .i64 n', .string s, .slice A' l'.length cap', .int .i64 r'] (g := w.heap.size + 1) (by simp)
      go_enter Try.func131, Try.ntmps131
      go_wp2_with fail
      go_loopw [5, 6] (fun i _ wr => ∃ j : Nat, j ≤ l.length ∧ j ≤ l'.length ∧ i = .int .i64 j ∧ Fr No ((w.alloc (.cells #[.int .u8 k, .int .i64 n, .string s, .slice A l.length cap, .int .i64 r] 27)).alloc (.cells #[.int .u8 k, .int .i64 n', .string s, .slice A' l'.length cap', .int .i64 r'] 27)) wr ∧ EqTo ((l.map T.v).map V.ord) (l'.map T.v) j) (fun i _ _ => l.length - (intOf i).toNat)
      case atStart =>
        exact ⟨0, Nat.zero_le _, Nat.zero_le _, rfl, Fr.refl _ _, EqTo.zero _ _⟩
      case round =>
        obtain ⟨j, hj, hj', rfl, fr, hsame⟩ := hrel
        have hK := hK0.fr fr fun h => h
        have hV := hV0.fr fr fun h => h
        have frw := fr2.trans fr
        have hszr := fr.size
        simp at hszr
        obtain ⟨c0, c1, c2, c3, c4, cf⟩ := hK.cells5
        obtain ⟨f0, f1, f2, f3, f4, ff⟩ := hV.cells5
        have g2 : w.heap.size < wr.heap.size := by omega
        have g3 : w.heap.size + 1 < wr.heap.size := by omega
        by_cases hboth : j < l.length ∧ j < l'.length
        · obtain ⟨hlt, hlt'⟩ := hboth
          obtain ⟨b, o, k1, n1, s1, A1, cap1, l1, r1, rfl, hb0, hb1, hx, hin, e0, e1, e2, e3, e4⟩ := T.elem (ht.no frw hh) hlt
          obtain ⟨b', o', k2, n2, s2, A2, cap2, l2, r2, rfl, hb0', hb1', hx', hin', m0, m1, m2, m3, m4⟩ := T.elem (ht'.no frw hh') hlt'
          have IH := ih l[j] (List.getElem_mem hlt) l'[j]
          rw [hx, hx', T.val_mk, T.val_mk] at IH
          have hr := ord_range (T.mk k1 n1 s1 A1 cap1 l1 r1).v (T.mk k2 n2 s2 A2 cap2 l2 r2).v
          have hok1 : (T.mk k1 n1 s1 A1 cap1 l1 r1).v.ok = true := by rw [← hx]; exact HOK.out _ (List.mem_map_of_mem (List.getElem_mem hlt))
          have hok2 : (T.mk k2 n2 s2 A2 cap2 l2 r2).v.ok = true := by rw [← hx']; exact HOK'.out _ (List.mem_map_of_mem (List.getElem_mem hlt'))
          have hfj : ((l.map T.v).map V.ord)[j]? = some (T.mk k1 n1 s1 A1 cap1 l1 r1).v.ord := by
            rw [List.getElem?_map, List.getElem?_map, List.getElem?_eq_getElem hlt, hx]; rfl
          have hvj : (l'.map T.v)[j]? = some (T.mk k2 n2 s2 A2 cap2 l2 r2).v := by
            rw [List.getElem?_map, List.getElem?_eq_getElem hlt', hx']; rfl
          generalize (T.mk k1 n1 s1 A1 cap1 l1 r1).v = u1 at *
          generalize (T.mk k2 n2 s2 A2 cap2 l2 r2).v = u2 at *
          have g0 : b < wr.heap.size := by omega
          have g1 : b' < wr.heap.size := by omega
          have hh0 : hi ≤ wr.heap.size := by omega
          have hh1 : hi' ≤ wr.heap.size := by omega
          have IH2 := fun w1 (f : Fr No wr w1) => IH w1 lo hi lo' hi' (hin.no f hh0) (Nat.le_trans hh0 f.size) (hin'.no f hh1) (Nat.le_trans hh1 f.size) hok1 hok2
          have HIH := hide IH2
          have HFJ := hide hfj
          have HVJ := hide hvj
          have HF := hide fr
          have HW := hide frw
          have HS := hide hsame
          clear hx hx' ih hK hV fr frw fr2 hsame IH IH2 hfj hvj hok1 hok2 hin hin' ht ht' hK0 hV0
          generalize hcc : u1.ord u2 = c at *
          have HCC := hide hcc
          clear hcc
          go_wp2_with fail
          go_region_held3 (fun w' => (∀ c i, c < wr.heap.size → w'.cell? ⟨c, i, none⟩ = wr.cell? ⟨c, i, none⟩) ∧ Fr No wr w')
            (first | exact ⟨fun _ _ _ => rfl, Fr.drew (Fr.refl No wr)⟩ | (have hq : Fr No wr _ := (‹_ ∧ Fr No wr _›).2.trans ‹Fr No _ _›; exact ⟨hq.cells, hq⟩))
            (first
              | (go_at_call 131; have hs0 := (‹_ ∧ Fr No wr _›).2; ((with_reducible refine (HIH.out _ ?_).mono ?_); (exact hs0); rintro e w2 ⟨rfl, fr1⟩)))
          have hF2 := (‹_ ∧ Fr No wr _›).2
          have HF2 := hide hF2
          rcases hr with rfl | rfl | rfl
          · have hP := ordL_at HS.out HFJ.out HVJ.out (by rw [HCC.out]; decide)
            rw [HCC.out] at hP
            have HP := hide hP
            clear hP
            go_wp2
            go_ret
            exact ⟨by rw [HE.out, HP.out]; rfl, HW.out.trans HF2.out⟩
          · go_wp2
            go_roundw
            case rel => exact ⟨j + 1, hlt, hlt', by go_num, HF.out.trans HF2.out, HS.out.succ HFJ.out HVJ.out HCC.out⟩
            case measure => simp [intOf]; omega
          · have hP := ordL_at HS.out HFJ.out HVJ.out (by rw [HCC.out]; decide)
            rw [HCC.out] at hP
            have HP := hide hP
            clear hP
            go_wp2
            go_ret
            exact ⟨by rw [HE.out, HP.out]; rfl, HW.out.trans HF2.out⟩
        · have hend : ordL ((l.map T.v).map V.ord) (l'.map T.v) = if l.length < l'.length then -1 else if l'.length < l.length then 1 else 0 := by
            have := ordL_end (fs := (l.map T.v).map V.ord) (vs := l'.map T.v) (j := j) (by simp; omega) hsame
            simpa using this
          have HN := hide hend
          have HW := hide frw
          clear hend ih frw fr fr2 hsame hK hV
          rcases Nat.lt_trichotomy l.length l'.length with h | h | h
          · obtain rfl : j = l.length := by omega
            clear hboth
            go_wp2
            go_ret
            exact ⟨by rw [HE.out, HN.out, if_pos h]; rfl, HW.out⟩
          · obtain rfl : j = l.length := by omega
            have h3 : ¬ l.length < l'.length := by omega
            have h4 : ¬ l'.length < l.length := by omega
            have HH := hide h
            clear h hboth
            go_wp2
            go_ret
            exact ⟨by rw [HE.out, HN.out, if_neg h3, if_neg h4]; rfl, HW.out⟩
          · obtain rfl : j = l'.length := by omega
            have h3 : ¬ l.length < l'.length := by omega
            clear hboth
            go_wp2
            go_ret
            exact ⟨by rw [HE.out, HN.out, if_neg h3, if_pos h]; rfl, HW.out⟩

end Go.Proofs.Ytihjmipmjogpoaa

/- Chapter 2: the document's answer: Order, Same. -/
namespace Go.Proofs.Ytihjmipmjogpoaa
open Go.RowKit

set_option maxRecDepth 100000 in
set_option maxHeartbeats 4000000 in
/-- The document's Order. -/
theorem refOrder_any (a b : T) (w : World) (lo hi : Nat) (ha : a.In w lo hi) (hb : b.In w lo hi) (hh : hi ≤ w.heap.size) :
    Calls Try.prog 75 #[a.val, b.val] w fun e w' => e = .returned (.tuple #[.int .i64 (if (a.v.may && b.v.may) = true then a.v.ord b.v else 0), .int .i64 (if (a.v.may && b.v.may) = true then 0 else 2)]) ∧ Fr No w w' := by
  have hMa := fun w' h h' => refMay_any a w' lo hi h h'
  have hMb := fun w' h h' => refMay_any b w' lo hi h h'
  have hO := fun w' h h' h'' o o' => reforder_any a b w' lo hi lo hi h h'' h' h'' o o'
  cases a with
  | mk k n s A cap l r =>
  cases b with
  | mk k' n' s' A' cap' l' r' =>
    rw [T.val_mk] at *
    rw [T.val_mk] at *
    generalize hu : (T.mk k n s A cap l r).v = u at *
    generalize hv : (T.mk k' n' s' A' cap' l' r').v = v at *
    have fr1 := ((Fr.refl No w).alloc (.cells #[.int .u8 k, .int .i64 n, .string s, .slice A l.length cap, .int .i64 r] 27)).alloc (.cells #[.int .u8 k', .int .i64 n', .string s', .slice A' l'.length cap', .int .i64 r'] 27)
    have hK := (Blk.new' w 27 #[.int .u8 k, .int .i64 n, .string s, .slice A l.length cap, .int .i64 r] rfl).alloc (.cells #[.int .u8 k', .int .i64 n', .string s', .slice A' l'.length cap', .int .i64 r'] 27)
    have hV := Blk.new' (w.alloc (.cells #[.int .u8 k, .int .i64 n, .string s, .slice A l.length cap, .int .i64 r] 27)) 27 #[.int .u8 k', .int .i64 n', .string s', .slice A' l'.length cap', .int .i64 r'] (g := w.heap.size + 1) (by simp)
    have ha1 := ha.no fr1 hh
    have hb1 := hb.no fr1 hh
    have hs1 := Nat.le_trans hh fr1.size
    have HU := hide hu
    have HV := hide hv
    clear hu hv ha hb
    cases hma : u.may with
    | false =>
      rw [hma] at hMa
      simp only [Bool.false_and, Bool.false_eq_true, if_false]
      clear hma
      go_enter Try.func75, Try.ntmps75
      go_wp2_with fail
      refine (hMa _ ha1 hs1).mono ?_
      rintro e w2 ⟨rfl, fr2⟩
      go_wp2
      go_ret2
      exact ⟨rfl, fr1.trans fr2⟩
    | true =>
      rw [hma] at hMa
      cases hmb : v.may with
      | false =>
        rw [hmb] at hMb
        simp only [Bool.and_false, Bool.false_eq_true, if_false]
        clear hma hmb
        go_enter Try.func75, Try.ntmps75
        go_wp2_with fail
        generalize World.alloc _ _ = W0 at *
        refine (hMa _ ha1 hs1).mono ?_
        rintro e w2 ⟨rfl, fr2⟩
        obtain ⟨v0, v1, v2, v3, v4, -⟩ := (hV.fr fr2 fun h => h).cells5
        have hb2 := hb1.no fr2 hs1
        have hs2 := Nat.le_trans hs1 fr2.size
        have HF := hide (fr1.trans fr2)
        clear fr1 fr2 hK hV
        go_wp2_with fail
        refine (hMb _ hb2 hs2).mono ?_
        rintro e w3 ⟨rfl, fr3⟩
        go_wp2
        go_ret2
        exact ⟨rfl, HF.out.trans fr3⟩
      | true =>
        rw [hmb] at hMb
        simp only [Bool.and_true, if_true]
        have hO := fun w' h h' h'' => hO w' h h' h'' (may_ok hma) (may_ok hmb)
        generalize u.ord v = c at *
        clear hma hmb
        go_enter Try.func75, Try.ntmps75
        go_wp2_with fail
        generalize World.alloc _ _ = W0 at *
        refine (hMa _ ha1 hs1).mono ?_
        rintro e w2 ⟨rfl, fr2⟩
        have hK2 := hK.fr fr2 fun h => h
        have hV2 := hV.fr fr2 fun h => h
        obtain ⟨v0, v1, v2, v3, v4, -⟩ := hV2.cells5
        have ha2 := ha1.no fr2 hs1
        have hb2 := hb1.no fr2 hs1
        have hs2 := Nat.le_trans hs1 fr2.size
        have HF := hide (fr1.trans fr2)
        clear fr1 fr2 hK hV
        go_wp2_with fail
        refine (hMb _ hb2 hs2).mono ?_
        rintro e w3 ⟨rfl, fr3⟩
        clear v0 v1 v2 v3 v4
        obtain ⟨v0, v1, v2, v3, v4, -⟩ := (hV2.fr fr3 fun h => h).cells5
        obtain ⟨c0, c1, c2, c3, c4, -⟩ := (hK2.fr fr3 fun h => h).cells5
        have ha3 := ha2.no fr3 hs2
        have hb3 := hb2.no fr3 hs2
        have hs3 := Nat.le_trans hs2 fr3.size
        have HF3 := hide (HF.out.trans fr3)
        clear fr3 hK2 hV2
        go_wp2_with fail
        refine (hO _ ha3 hb3 hs3).mono ?_
        rintro e w4 ⟨rfl, fr4⟩
        go_wp2
        go_ret2
        exact ⟨rfl, HF3.out.trans fr4⟩

/-- The document's Same. -/
theorem refSame_any (a b : T) (w : World) (lo hi : Nat) (ha : a.In w lo hi) (hb : b.In w lo hi) (hh : hi ≤ w.heap.size) : Calls Try.prog 43 #[a.val, b.val] w fun e w' => e = .returned (.bool (a.v.same2 b.v)) ∧ Fr No w w' := by
  have hO := fun w' h h' h'' => refOrder_any a b w' lo hi h h' h''
  have hr := ord_range a.v b.v
  cases a with
  | mk k n s A cap l r =>
  cases b with
  | mk k' n' s' A' cap' l' r' =>
    rw [T.val_mk] at *
    rw [T.val_mk] at *
    generalize hu : (T.mk k n s A cap l r).v = u at *
    generalize hv : (T.mk k' n' s' A' cap' l' r').v = v at *
    have fr1 := ((Fr.refl No w).alloc (.cells #[.int .u8 k, .int .i64 n, .string s, .slice A l.length cap, .int .i64 r] 27)).alloc (.cells #[.int .u8 k', .int .i64 n', .string s', .slice A' l'.length cap', .int .i64 r'] 27)
    have ha1 := ha.no fr1 hh
    have hb1 := hb.no fr1 hh
    have hs1 := Nat.le_trans hh fr1.size
    have HU := hide hu
    have HV := hide hv
    clear hu hv ha hb
    have hcase : ∃ (c d : Int) (q : Bool), (if (u.may && v.may) = true then u.ord v else 0) = c ∧ (if (u.may && v.may) = true then (0 : Int) else 2) = d ∧ u.same2 v = q ∧ ((d = 2 ∧ q = false) ∨ (d = 0 ∧ c = 0 ∧ q = true) ∨ (d = 0 ∧ (c = -1 ∨ c = 1) ∧ q = false)) := by
      refine ⟨_, _, _, rfl, rfl, rfl, ?_⟩
      unfold V.same2
      cases u.may
      · simp
      cases v.may
      · simp
      simp
      omega
    obtain ⟨c, d, q, h1, h2, h3, h4⟩ := hcase
    rw [h1, h2] at hO
    rw [h3]
    clear h1 h2 h3 hr
    rcases h4 with ⟨rfl, rfl⟩ | ⟨rfl, rfl, rfl⟩ | ⟨rfl, rfl | rfl, rfl⟩
    all_goals
      go_enter Try.func43, Try.ntmps43
      go_wp2_with fail
      refine (hO _ ha1 hb1 hs1).mono ?_
      rintro e w2 ⟨rfl, fr2⟩
      go_wp2
      go_ret
      exact ⟨rfl, fr1.trans fr2⟩

end Go.Proofs.Ytihjmipmjogpoaa

/- Chapter 2: the law's own held: are both answers the value that it must be? Then the one is written over. -/
namespace Go.Proofs.Ytihjmipmjogpoaa
open Go.RowKit

set_option maxRecDepth 100000 in
set_option maxHeartbeats 8000000 in
theorem held_any (a b c : T) (u : V) (w : World) (lo hi lb hb lc hc : Nat) (ha : a.Sh w lo hi) (hh : hi ≤ w.heap.size) (hl : lo ≤ w.heap.size) (ib : b.In w lb hb) (hhb : hb ≤ w.heap.size) (db : ∀ i, lb ≤ i → i < hb → i ∉ a.blocks) (ic : c.In w lc hc) (hhc : hc ≤ w.heap.size) (dc : ∀ i, lc ≤ i → i < hc → i ∉ a.blocks)
    (ea : a.v = u) (eb : b.v = u) (ec : c.v = u) (hm : u.may = true) : Calls Try.prog 50 #[a.val, b.val, c.val] w fun e w' => e = .returned (.bool true) ∧ Fr (fun i => i ∈ a.blocks) w w' := by
  have hsz : u.size ≤ 512 := by simp [V.may, V.fits] at hm; omega
  have hbl : ∀ i ∈ a.blocks, i < w.heap.size := fun i hi => by have := T.In.blocks a ha.inn i hi; omega
  generalize hBL : a.blocks = bl at *
  cases a with
  | mk k n s A cap l r =>
  cases b with
  | mk k' n' s' A' cap' l' r' =>
  cases c with
  | mk k2 n2 s2 A2 cap2 l2 r2 =>
    rw [T.val_mk, T.val_mk, T.val_mk]
    have fr0 := (((Fr.refl No w).alloc (.cells #[.int .u8 k, .int .i64 n, .string s, .slice A l.length cap, .int .i64 r] 27)).alloc (.cells #[.int .u8 k', .int .i64 n', .string s', .slice A' l'.length cap', .int .i64 r'] 27)).alloc (.cells #[.int .u8 k2, .int .i64 n2, .string s2, .slice A2 l2.length cap2, .int .i64 r2] 27)
    have ba := ((Blk.new w 27 #[.int .u8 k, .int .i64 n, .string s, .slice A l.length cap, .int .i64 r]).alloc (.cells #[.int .u8 k', .int .i64 n', .string s', .slice A' l'.length cap', .int .i64 r'] 27)).alloc (.cells #[.int .u8 k2, .int .i64 n2, .string s2, .slice A2 l2.length cap2, .int .i64 r2] 27)
    have bb := (Blk.new' (w.alloc (.cells #[.int .u8 k, .int .i64 n, .string s, .slice A l.length cap, .int .i64 r] 27)) 27 #[.int .u8 k', .int .i64 n', .string s', .slice A' l'.length cap', .int .i64 r'] (g := w.heap.size + 1) (by simp)).alloc (.cells #[.int .u8 k2, .int .i64 n2, .string s2, .slice A2 l2.length cap2, .int .i64 r2] 27)
    have bc := Blk.new' ((w.alloc (.cells #[.int .u8 k, .int .i64 n, .string s, .slice A l.length cap, .int .i64 r] 27)).alloc (.cells #[.int .u8 k', .int .i64 n', .string s', .slice A' l'.length cap', .int .i64 r'] 27)) 27 #[.int .u8 k2, .int .i64 n2, .string s2, .slice A2 l2.length cap2, .int .i64 r2] (g := w.heap.size + 1 + 1) (by simp)
    obtain ⟨z0, z1, z2, z3, z4, -⟩ := bc.cells5
    have zq := bc.lt
    have ha0 := ha.no fr0
    have ib0 := ib.no fr0 hhb
    have ic0 := ic.no fr0 hhc
    have hs0 := fr0.size
    have HBL := hide hBL
    have HEA := hide ea
    have HEB := hide eb
    have HEC := hide ec
    have HBLT := hide hbl
    have HDB := hide db
    have HDC := hide dc
    have hself := same2_self hm
    have HM := hide hm
    have HSELF := hide hself
    clear hBL ea eb ec hbl db dc hm hself ha ib ic
    have hgoal : ∀ (w1 : World), Fr No ((((w.alloc (.cells #[.int .u8 k, .int .i64 n, .string s, .slice A l.length cap, .int .i64 r] 27)).alloc (.cells #[.int .u8 k', .int .i64 n', .string s', .slice A' l'.length cap', .int .i64 r'] 27)).alloc (.cells #[.int .u8 k2, .int .i64 n2, .string s2, .slice A2 l2.length cap2, .int .i64 r2] 27))) w1 →
        (Blk w1 w.heap.size 27 #[.int .u8 k, .int .i64 n, .string s, .slice A l.length cap, .int .i64 r] ∧ Blk w1 (w.heap.size + 1) 27 #[.int .u8 k', .int .i64 n', .string s', .slice A' l'.length cap', .int .i64 r'] ∧ Blk w1 (w.heap.size + 1 + 1) 27 #[.int .u8 k2, .int .i64 n2, .string s2, .slice A2 l2.length cap2, .int .i64 r2] ∧
          (T.mk k n s A cap l r).Sh w1 lo hi ∧ (T.mk k' n' s' A' cap' l' r').In w1 lb hb ∧ (T.mk k2 n2 s2 A2 cap2 l2 r2).In w1 lc hc ∧ Fr No w w1 ∧ w.heap.size ≤ w1.heap.size) := fun w1 f =>
      ⟨ba.fr f fun h => h, bb.fr f fun h => h, bc.fr f fun h => h, ha0.no f, ib0.no f (by omega), ic0.no f (by omega), fr0.trans f, (fr0.trans f).size⟩
    have HG := hide hgoal
    have fr00 := Fr.refl No ((((w.alloc (.cells #[.int .u8 k, .int .i64 n, .string s, .slice A l.length cap, .int .i64 r] 27)).alloc (.cells #[.int .u8 k', .int .i64 n', .string s', .slice A' l'.length cap', .int .i64 r'] 27)).alloc (.cells #[.int .u8 k2, .int .i64 n2, .string s2, .slice A2 l2.length cap2, .int .i64 r2] 27)))
    obtain ⟨a0, a1, a2, a3, a4, -⟩ := ba.cells5
    obtain ⟨b0, b1, b2, b3, b4, -⟩ := bb.cells5
    have aq := ba.lt
    have bq := bb.lt
    clear hgoal ba bb bc ha0 ib0 ic0 fr0
    by_cases hk : k2 = 0
    · subst hk
      go_enter Try.func50, Try.ntmps50
      go_wp2_with fail
      obtain ⟨-, -, -, s0, -, -, g0, h0⟩ := HG.out _ fr00
      have hmy := refMay_any (T.mk k n s A cap l r) _ lo hi s0.inn (Nat.le_trans hh h0)
      rw [T.val_mk, HEA.out, HM.out] at hmy
      refine hmy.mono ?_
      rintro e w1 ⟨rfl, f1⟩
      clear hmy s0 g0 h0 z0 z1 z2 z3 z4 zq a0 a1 a2 a3 a4 b0 b1 b2 b3 b4 aq bq
      obtain ⟨ba1, bb1, bc1, -⟩ := HG.out w1 f1
      obtain ⟨z0, z1, z2, z3, z4, -⟩ := bc1.cells5
      obtain ⟨a0, a1, a2, a3, a4, -⟩ := ba1.cells5
      have zq := bc1.lt
      have aq := ba1.lt
      clear ba1 bb1 bc1
      go_wp2_with fail
      obtain ⟨-, -, -, s1, i1b, i1c, g1, h1⟩ := HG.out _ f1
      have hsm := refSame_any (T.mk k n s A cap l r) (T.mk 0 n2 s2 A2 cap2 l2 r2) w1 0 (w1).heap.size (T.In.more (Nat.zero_le _) (Nat.le_trans hh h1) _ s1.inn) (T.In.more (Nat.zero_le _) (Nat.le_trans hhc h1) _ i1c) (Nat.le_refl _)
      rw [T.val_mk, T.val_mk, HEA.out, HEC.out, HSELF.out] at hsm
      refine hsm.mono ?_
      rintro e w2 ⟨rfl, f2⟩
      obtain ⟨ba2, bb2, bc2, s2', i2b, i2c, g2, h2⟩ := HG.out w2 ((f1).trans f2)
      clear hsm s1 i1b i1c g1 h1 f2 z0 z1 z2 z3 z4 zq a0 a1 a2 a3 a4 aq
      obtain ⟨a0, a1, a2, a3, a4, -⟩ := ba2.cells5
      have aq := ba2.lt
      have hsp := spoil_any (T.mk k n s A cap l r) w2 lo hi s2' (Nat.le_trans hh h2) (Nat.le_trans hl h2) (by rw [HEA.out]; omega)
      rw [T.val_mk, HBL.out] at hsp
      have HSP := hide hsp
      have HB2 := hide bb2
      have HC2 := hide bc2
      have HIB := hide i2b
      have HIC := hide i2c
      have HG2 := hide g2
      clear hsp ba2 bb2 bc2 s2' i2b i2c g2
      go_wp2_with fail
      refine HSP.out.mono ?_
      rintro e w3 ⟨⟨z, rfl, hz, -⟩, f3⟩
      have hz' : (0 : Int) < (z : Int) := by omega
      clear a0 a1 a2 a3 a4 aq
      have hnb : ∀ i, w.heap.size ≤ i → ¬ i ∈ bl := fun i hi h => by have := HBLT.out i h; omega
      have bb3 := HB2.out.fr f3 (hnb _ (by omega))
      have bc3 := HC2.out.fr f3 (hnb _ (by omega))
      have i3b := HIB.out.fr f3 (Nat.le_trans hhb h2) HDB.out
      have i3c := HIC.out.fr f3 (Nat.le_trans hhc h2) HDC.out
      have hs3 := f3.size
      have HF3 := hide ((HG2.out.no (S := fun i => i ∈ bl)).trans f3)
      obtain ⟨b0, b1, b2, b3, b4, -⟩ := bb3.cells5
      obtain ⟨z0, z1, z2, z3, z4, -⟩ := bc3.cells5
      have bq := bb3.lt
      have zq := bc3.lt
      clear hnb bb3 bc3 f3
      go_wp2_with fail
      have hsm := refSame_any (T.mk k' n' s' A' cap' l' r') (T.mk 0 n2 s2 A2 cap2 l2 r2) w3 0 w3.heap.size (T.In.more (Nat.zero_le _) (by omega) _ i3b) (T.In.more (Nat.zero_le _) (by omega) _ i3c) (Nat.le_refl _)
      rw [T.val_mk, T.val_mk, HEB.out, HEC.out, HSELF.out] at hsm
      refine hsm.mono ?_
      rintro e w4 ⟨rfl, f4⟩
      go_wp2
      go_ret
      exact ⟨rfl, HF3.out.thenNo f4⟩
    · have hk' : (k2 == 0) = false := by simpa using hk
      go_enter Try.func50, Try.ntmps50
      go_wp2_with fail
      clear z0 z1 z2 z3 z4 zq a0 a1 a2 a3 a4 aq b0 b1 b2 b3 b4 bq
      generalize World.alloc (World.alloc (World.alloc w _) _) _ = W0 at *
      obtain ⟨-, -, -, s1, i1b, i1c, g1, h1⟩ := HG.out _ fr00
      have hsm := refSame_any (T.mk k n s A cap l r) (T.mk k2 n2 s2 A2 cap2 l2 r2) W0 0 (W0).heap.size (T.In.more (Nat.zero_le _) (Nat.le_trans hh h1) _ s1.inn) (T.In.more (Nat.zero_le _) (Nat.le_trans hhc h1) _ i1c) (Nat.le_refl _)
      rw [T.val_mk, T.val_mk, HEA.out, HEC.out, HSELF.out] at hsm
      refine hsm.mono ?_
      rintro e w2 ⟨rfl, f2⟩
      obtain ⟨ba2, bb2, bc2, s2', i2b, i2c, g2, h2⟩ := HG.out w2 ((fr00).trans f2)
      clear hsm s1 i1b i1c g1 h1 f2 fr00
      obtain ⟨a0, a1, a2, a3, a4, -⟩ := ba2.cells5
      have aq := ba2.lt
      have hsp := spoil_any (T.mk k n s A cap l r) w2 lo hi s2' (Nat.le_trans hh h2) (Nat.le_trans hl h2) (by rw [HEA.out]; omega)
      rw [T.val_mk, HBL.out] at hsp
      have HSP := hide hsp
      have HB2 := hide bb2
      have HC2 := hide bc2
      have HIB := hide i2b
      have HIC := hide i2c
      have HG2 := hide g2
      clear hsp ba2 bb2 bc2 s2' i2b i2c g2
      go_wp2_with fail
      refine HSP.out.mono ?_
      rintro e w3 ⟨⟨z, rfl, hz, -⟩, f3⟩
      have hz' : (0 : Int) < (z : Int) := by omega
      clear a0 a1 a2 a3 a4 aq
      have hnb : ∀ i, w.heap.size ≤ i → ¬ i ∈ bl := fun i hi h => by have := HBLT.out i h; omega
      have bb3 := HB2.out.fr f3 (hnb _ (by omega))
      have bc3 := HC2.out.fr f3 (hnb _ (by omega))
      have i3b := HIB.out.fr f3 (Nat.le_trans hhb h2) HDB.out
      have i3c := HIC.out.fr f3 (Nat.le_trans hhc h2) HDC.out
      have hs3 := f3.size
      have HF3 := hide ((HG2.out.no (S := fun i => i ∈ bl)).trans f3)
      obtain ⟨b0, b1, b2, b3, b4, -⟩ := bb3.cells5
      obtain ⟨z0, z1, z2, z3, z4, -⟩ := bc3.cells5
      have bq := bb3.lt
      have zq := bc3.lt
      clear hnb bb3 bc3 f3
      go_wp2_with fail
      have hsm := refSame_any (T.mk k' n' s' A' cap' l' r') (T.mk k2 n2 s2 A2 cap2 l2 r2) w3 0 w3.heap.size (T.In.more (Nat.zero_le _) (by omega) _ i3b) (T.In.more (Nat.zero_le _) (by omega) _ i3c) (Nat.le_refl _)
      rw [T.val_mk, T.val_mk, HEB.out, HEC.out, HSELF.out] at hsm
      refine hsm.mono ?_
      rintro e w4 ⟨rfl, f4⟩
      go_wp2
      go_ret
      exact ⟨rfl, HF3.out.thenNo f4⟩

end Go.Proofs.Ytihjmipmjogpoaa

/- Chapter 2: posternlaw02.awake. -/
namespace Go.Proofs.Ytihjmipmjogpoaa
open Go.RowKit

theorem func105_neq_nil (w : World) (g : Nat) : (binOp .neq 73 (.func (.func 105) #[] #[.pointer (some ⟨g, 0, none⟩)]) .nilFunc).run Try.prog w = .ok (.bool true) w := by kernel_rfl

set_option maxRecDepth 100000 in
set_option maxHeartbeats 8000000 in
theorem awake_any (w : World) : Calls Try.prog 38 #[] w fun e w' => e = .returned (.bool true) ∧ Fr No w w' := by
  have hfn := func105_neq_nil
  go_enter Try.func38, Try.ntmps38
  go_wp2_with fail
  refine (num2_any 1 w).mono ?_
  rintro e w1 ⟨rfl, f1⟩
  go_wp2_with fail
  refine (ref2_any 7 w1).mono ?_
  rintro e w2 ⟨rfl, f2⟩
  have g2 := f1.trans f2
  clear f1 f2
  go_wp2_with fail
  have hB3 : Blk (w2.alloc (.cells awC1 27)) w2.heap.size 27 awC1 := Blk.new w2 27 awC1
  have g3 := g2.alloc (.cells awC1 27)
  unfold awC1 at hB3 g3
  generalize World.alloc w2 _ = w3 at *
  refine (list2_any _ 1 1 w3).mono ?_
  rintro e w4 ⟨rfl, f4⟩
  have hB4 := hB3.fr f4 fun h => h
  have g4 := g3.trans f4
  clear hB3 g3 f4 g2
  go_wp2_with fail
  have hB5 := hB4.alloc (.cells (awC2 w2.heap.size) 27)
  have hC5 : Blk (w4.alloc (.cells (awC2 w2.heap.size) 27)) w4.heap.size 27 (awC2 w2.heap.size) := Blk.new w4 27 _
  have g5 := g4.alloc (.cells (awC2 w2.heap.size) 27)
  unfold awC2 at hB5 hC5 g5
  generalize World.alloc w4 _ = w5 at *
  refine (list2_any _ 2 2 w5).mono ?_
  rintro e w6 ⟨rfl, f6⟩
  have hB6 := hB5.fr f6 fun h => h
  have hC6 := hC5.fr f6 fun h => h
  have g6 := g5.trans f6
  clear hB5 hC5 hB4 g4 g5 f6
  go_wp2_with fail
  have hV7 : Blk (w6.alloc (.cells #[.int .u8 3, .int .i64 0, .string ⟨#[]⟩, .slice (some ⟨w4.heap.size, 0, none⟩) 2 2, .int .i64 0] 27)) w6.heap.size 27 #[.int .u8 3, .int .i64 0, .string ⟨#[]⟩, .slice (some ⟨w4.heap.size, 0, none⟩) 2 2, .int .i64 0] := Blk.new w6 27 _
  have hB7 := hB6.alloc (.cells #[.int .u8 3, .int .i64 0, .string ⟨#[]⟩, .slice (some ⟨w4.heap.size, 0, none⟩) 2 2, .int .i64 0] 27)
  have hC7 := hC6.alloc (.cells #[.int .u8 3, .int .i64 0, .string ⟨#[]⟩, .slice (some ⟨w4.heap.size, 0, none⟩) 2 2, .int .i64 0] 27)
  have g7 := g6.alloc (.cells #[.int .u8 3, .int .i64 0, .string ⟨#[]⟩, .slice (some ⟨w4.heap.size, 0, none⟩) 2 2, .int .i64 0] 27)
  clear hB6 hC6 g6
  generalize World.alloc w6 _ = w7 at *
  generalize w6.heap.size = gv at *
  generalize w4.heap.size = gc at *
  generalize w2.heap.size = gb at *
  refine (aw_bytes hB7 hC7).mono ?_
  rintro e w8 ⟨rfl, f8⟩
  unfold awS
  have hV8 := hV7.fr f8 fun h => h
  have hB8 := hB7.fr f8 fun h => h
  have hC8 := hC7.fr f8 fun h => h
  have g8 := g7.trans f8
  clear hV7 hB7 hC7 g7 f8
  go_wp2_with fail
  refine (aw_read w8).mono ?_
  rintro e w9 ⟨⟨⟨k, n, s, A, cap, l, r⟩, ht, rfl, hin⟩, f9⟩
  rw [T.val_mk]
  have hV9 := hV8.fr f9 fun h => h
  have hB9 := hB8.fr f9 fun h => h
  have hC9 := hC8.fr f9 fun h => h
  have g9 := g8.trans f9
  obtain ⟨c0, c1, c2, c3, c4, -⟩ := hV9.cells5
  have q0 := hV9.lt
  have HT := hide ht
  have HI := hide hin
  clear hV8 hB8 hC8 g8 f9 ht hin
  go_wp2_with fail
  have f10 := ((Fr.refl No w9).alloc (.cells #[.int .u8 k, .int .i64 n, .string s, .slice A l.length cap, .int .i64 r] 27)).alloc (.cells #[.int .i64 1, .int .i64 0] 3)
  have hX10 : Blk ((w9.alloc (.cells #[.int .u8 k, .int .i64 n, .string s, .slice A l.length cap, .int .i64 r] 27)).alloc (.cells #[.int .i64 1, .int .i64 0] 3)) w9.heap.size 27 #[.int .u8 k, .int .i64 n, .string s, .slice A l.length cap, .int .i64 r] := (Blk.new w9 27 _).alloc _
  have hP10 : Blk ((w9.alloc (.cells #[.int .u8 k, .int .i64 n, .string s, .slice A l.length cap, .int .i64 r] 27)).alloc (.cells #[.int .i64 1, .int .i64 0] 3)) (w9.heap.size + 1) 3 #[.int .i64 1, .int .i64 0] := Blk.new' _ 3 _ (by simp)
  have hV10 := hV9.fr f10 fun h => h
  have hB10 := hB9.fr f10 fun h => h
  have hC10 := hC9.fr f10 fun h => h
  have g10 := g9.trans f10
  have HI10 := hide (HI.out.no f10 (Nat.le_refl _))
  have HS10 := hide f10.size
  clear hV9 hB9 hC9 g9 f10 c0 c1 c2 c3 c4 q0
  generalize World.alloc (World.alloc w9 _) _ = w10 at *
  generalize hgx : w9.heap.size = gx at *
  clear hgx
  refine (aw_atc hB10 hC10 hP10).mono ?_
  rintro e w11 ⟨⟨A2, cap2, rfl⟩, f11⟩
  have hV11 := hV10.fr f11 fun h => h
  have hB11 := hB10.fr f11 fun h => h
  have hC11 := hC10.fr f11 fun h => h
  have hX11 := hX10.fr f11 fun h => h
  have g11 := g10.trans f11
  have HI11 := hide (HI10.out.no f11 HS10.out)
  have HS11 := hide (Nat.le_trans HS10.out f11.size)
  clear hV10 hB10 hC10 hX10 hP10 g10 f11 HI10 HS10
  go_wp2_with fail
  have f12 := (Fr.refl No w11).alloc (.cells #[.int .u8 4, .int .i64 0, .string ⟨#[]⟩, .slice A2 0 cap2, .int .i64 7] 27)
  have hY12 : Blk (w11.alloc (.cells #[.int .u8 4, .int .i64 0, .string ⟨#[]⟩, .slice A2 0 cap2, .int .i64 7] 27)) w11.heap.size 27 #[.int .u8 4, .int .i64 0, .string ⟨#[]⟩, .slice A2 0 cap2, .int .i64 7] := Blk.new w11 27 _
  have hV12 := hV11.fr f12 fun h => h
  have hB12 := hB11.fr f12 fun h => h
  have hC12 := hC11.fr f12 fun h => h
  have hX12 := hX11.fr f12 fun h => h
  have g12 := g11.trans f12
  have HI12 := hide (HI11.out.no f12 HS11.out)
  have HS12 := hide (Nat.le_trans HS11.out f12.size)
  clear hV11 hB11 hC11 hX11 g11 f12 HI11 HS11
  generalize World.alloc w11 _ = w12 at *
  generalize hgy : w11.heap.size = gy at *
  clear hgy
  refine (num2_any 1 w12).mono ?_
  rintro e w13 ⟨rfl, f13⟩
  go_wp2_with fail
  refine (num2_any 2 w13).mono ?_
  rintro e w14 ⟨rfl, f14⟩
  go_wp2_with fail
  refine (aw_order w14).mono ?_
  rintro e w15 ⟨rfl, f15⟩
  have f := (f13.trans f14).trans f15
  have hV15 := hV12.fr f fun h => h
  have hB15 := hB12.fr f fun h => h
  have hC15 := hC12.fr f fun h => h
  have hX15 := hX12.fr f fun h => h
  have hY15 := hY12.fr f fun h => h
  have g15 := g12.trans f
  have HI15 := hide (HI12.out.no f HS12.out)
  have HS15 := hide (Nat.le_trans HS12.out f.size)
  clear hV12 hB12 hC12 hX12 hY12 g12 f f13 f14 f15 HI12 HS12
  obtain ⟨c0, c1, c2, c3, c4, -⟩ := hV15.cells5
  obtain ⟨x0, x1, x2, x3, x4, -⟩ := hX15.cells5
  have q0 := hV15.lt
  have q1 := hX15.lt
  go_wp2_with fail
  have HSM := aw_same hB15 hC15 HT.out (T.In.more (Nat.le_refl _) HS15.out _ HI15.out)
  rw [T.val_mk] at HSM
  refine HSM.mono ?_
  rintro e w16 ⟨rfl, f16⟩
  have hV16 := hV15.fr f16 fun h => h
  have hB16 := hB15.fr f16 fun h => h
  have hC16 := hC15.fr f16 fun h => h
  have hY16 := hY15.fr f16 fun h => h
  have g16 := g15.trans f16
  clear hV15 hB15 hC15 hX15 hY15 g15 f16 HI15 HS15 c0 c1 c2 c3 c4 x0 x1 x2 x3 x4 q0 q1 HSM HT HI
  obtain ⟨c0, c1, c2, c3, c4, -⟩ := hV16.cells5
  obtain ⟨y0, y1, y2, y3, y4, -⟩ := hY16.cells5
  have q0 := hV16.lt
  have q1 := hY16.lt
  go_wp2_with fail
  clear c0 c1 c2 c3 c4 y0 y1 y2 y3 y4 q0 q1 hY16
  refine (aw_parts hB16 hC16).mono ?_
  rintro e w17 ⟨rfl, f17⟩
  have hV17 := hV16.fr f17 fun h => h
  have hB17 := hB16.fr f17 fun h => h
  have hC17 := hC16.fr f17 fun h => h
  have g17 := g16.trans f17
  clear hV16 hB16 hC16 g16 f17
  obtain ⟨c0, c1, c2, c3, c4, -⟩ := hV17.cells5
  have q0 := hV17.lt
  go_wp2_with fail
  clear c0 c1 c2 c3 c4 q0
  refine (aw_deep hB17 hC17).mono ?_
  rintro e w18 ⟨rfl, f18⟩
  have hV18 := hV17.fr f18 fun h => h
  have hB18 := hB17.fr f18 fun h => h
  have hC18 := hC17.fr f18 fun h => h
  have g18 := g17.trans f18
  clear hV17 hB17 hC17 g17 f18
  obtain ⟨c0, c1, c2, c3, c4, -⟩ := hV18.cells5
  have q0 := hV18.lt
  go_wp2_with fail
  clear c0 c1 c2 c3 c4 q0
  refine (aw_mayc hB18 hC18).mono ?_
  rintro e w19 ⟨rfl, f19⟩
  have hV19 := hV18.fr f19 fun h => h
  have hB19 := hB18.fr f19 fun h => h
  have hC19 := hC18.fr f19 fun h => h
  have g19 := g18.trans f19
  clear hV18 hB18 hC18 g18 f19
  obtain ⟨c0, c1, c2, c3, c4, -⟩ := hV19.cells5
  have q0 := hV19.lt
  go_wp2_with fail
  clear c0 c1 c2 c3 c4 q0
  refine (aw_each hB19 hC19).mono ?_
  rintro e w20 ⟨rfl, f20⟩
  have g20 := g19.trans f20
  go_wp2
  go_ret
  exact ⟨rfl, g20⟩

end Go.Proofs.Ytihjmipmjogpoaa

/- Chapter 2: a value that came in, and its lent likeness, in a world behind. -/
namespace Go.Proofs.Ytihjmipmjogpoaa
open Go.RowKit

structure Lo (w wi : World) (b0 go : Nat) (v own : T) (lo hi : Nat) : Prop where
  bv : Blk wi b0 27 v.cells.toArray
  bo : Blk wi go 27 own.cells.toArray
  iv : v.In wi 0 w.heap.size
  io : own.In wi lo hi
  mo : own.Mk wi
  f : Fr No w wi
  h0 : w.heap.size ≤ b0
  h1 : b0 < lo
  h2 : lo ≤ hi
  h3 : hi ≤ go

theorem Lo.fr {S : Nat → Prop} {w wi wj : World} {b0 go : Nat} {v own : T} {lo hi : Nat} (h : Lo w wi b0 go v own lo hi) (f : Fr S wi wj) (hs : ∀ i, i ≤ go → ¬ S i) : Lo w wj b0 go v own lo hi := by
  have a := h.bo.lt
  have b := h.f.size
  have c := h.h0
  have d := h.h1
  have e := h.h2
  have g := h.h3
  exact ⟨h.bv.fr f (hs _ (by omega)), h.bo.fr f (hs _ (by omega)), h.iv.fr f b (fun i _ hi => hs i (by omega)), h.io.fr f (by omega) (fun i _ hi => hs i (by omega)),
    T.Mk.fr f (by omega) _ h.io (fun i hi => hs i (by have := T.In.blocks _ h.io i hi; omega)) h.mo, h.f.trans' f (fun i hi hS => hs i (by omega) hS), h.h0, h.h1, h.h2, h.h3⟩

theorem Lo.no {w wi wj : World} {b0 go : Nat} {v own : T} {lo hi : Nat} (h : Lo w wi b0 go v own lo hi) (f : Fr No wi wj) : Lo w wj b0 go v own lo hi := h.fr f fun _ _ h => h

theorem Lo.lt {w wi : World} {b0 go : Nat} {v own : T} {lo hi : Nat} (h : Lo w wi b0 go v own lo hi) : hi ≤ wi.heap.size := by have := h.bo.lt; have := h.h3; omega

theorem may_small {v : V} (h : v.may = true) : (v.size : Int) ≤ 1200 ∧ (v.ht : Int) ≤ 40 := by
  have h1 := ht_le_dep v (may_ok h)
  simp only [V.may, V.fits, Bool.and_eq_true, decide_eq_true_eq] at h
  omega

theorem rf_rng {w : World} {lo hi : Nat} (t : T) : t.In w lo hi → ∀ r ∈ t.v.rf, -9223372036854775808 ≤ r ∧ r ≤ 9223372036854775807 := by
  induction t using T.ind with
  | h k n s A cap l r ih =>
    intro h x hx
    obtain ⟨f, _, hl⟩ := T.in_mk.1 h
    rw [T.v_mk, V.rf_mk] at hx
    split at hx
    · simp at hx; subst hx; exact ⟨f.r0, f.r1⟩
    · obtain ⟨L, hL, hx⟩ := List.mem_flatten.1 hx
      obtain ⟨u, hu, rfl⟩ := List.mem_map.1 hL
      obtain ⟨y, hy, rfl⟩ := List.mem_map.1 hu
      exact ih y hy (hl y hy) x hx

theorem rf_pos (v : V) : v.ok = true → ∀ r ∈ v.rf, 1 ≤ r := by
  induction v using V.ind with
  | h k n s l r ih =>
    intro h x hx
    rw [V.ok_mk, Bool.and_eq_true, List.all_eq_true] at h
    rw [V.rf_mk] at hx
    split at hx
    · rename_i h4
      subst h4
      simp at hx
      subst hx
      have := h.1
      simp [fok] at this
      omega
    · obtain ⟨L, hL, hx⟩ := List.mem_flatten.1 hx
      obtain ⟨u, hu, rfl⟩ := List.mem_map.1 hL
      exact ih u hu (h.2 u hu) x hx

end Go.Proofs.Ytihjmipmjogpoaa

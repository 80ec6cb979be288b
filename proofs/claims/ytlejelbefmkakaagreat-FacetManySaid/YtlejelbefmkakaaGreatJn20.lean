/- Texts joined: Gk. -/
import Derived.Test.YtlejelbefmkakaaGreatJn18
import Derived.Test.YtlejelbefmkakaaGreatJn19
import Derived.Deep.Cut
import Derived.Deep.CutRange
namespace Go.Proofs.YtlejelbefmkakaaGreat
open Go.RowKit
def SmP (L p : Nat) (l : List G) (w : World) (e : Ending) (w' : World) : Prop :=
 ∃ b : Bool, e = .returned (.bool b) ∧ Fr (· = L) w w' ∧ (b = true ↔ (p + (l.map G.ssz).sum ≤ 512 ∧ ∀ x ∈ l, x.sok = true)) ∧ (b = true → LitPre L (p + (l.map G.ssz).sum) w')
def SmallC (g : G) : Prop := ∀ (A : Option Addr) (l : List G), (A, l) ∈ g.subs → ∀ (w : World) (lo hi L p cap : Nat), CdRow w lo hi A cap l → hi ≤ L → LitPre L p w → Calls Tryz.prog 210 #[.slice A l.length cap, .pointer (some ⟨L, 0, none⟩)] w (SmP L p l w)
structure SmI (L p : Nat) (l : List G) (w : World) (j : Nat) (wr : World) : Prop where
 fr : Fr (· = L) w wr
 pre : LitPre L (p + ssT l j) wr
 ok : ∀ x ∈ l.take j, x.sok = true
theorem ssT_zero (l : List G) : ssT l 0 = 0 := by simp [ssT]
theorem not_small {l : List G} {x : G} {p j : Nat} (hx : x ∈ l) (hj : ssT l (j + 1) = ssT l j + x.ssz) (h : ¬ (p + ssT l j + x.ssz ≤ 512 ∧ x.sok = true)) : (false = true ↔ (p + (l.map G.ssz).sum ≤ 512 ∧ ∀ x ∈ l, x.sok = true)) := by
 refine ⟨nofun, fun ⟨h1, h2⟩ => absurd ⟨?_, h2 x hx⟩ h⟩
 have := ssT_le l (j + 1)
 omega
def SmR (L p : Nat) (op : Int) (nm sc : ByteArray) (ab wh k1 n1 : Int) (s1 : ByteArray) (A1 : Option Addr) (m1 z1 : Nat) (k2 n2 : Int) (s2 : ByteArray) (A2 : Option Addr) (m2 z2 : Nat) (A3 : Option Addr) (m3 z3 : Nat) (A4 : Option Addr) (m4 z4 : Nat) (A5 : Option Addr) (m5 z5 : Nat) (A6 : Option Addr) (m6 z6 : Nat) (wr : World) (b6 b7 b8 : Value) (wx : World) : Prop :=
 ∃ g6 g7 g8 : Nat, (b6 = .pointer (some ⟨g6, 0, none⟩) ∧ b7 = .pointer (some ⟨g7, 0, none⟩) ∧ b8 = .pointer (some ⟨g8, 0, none⟩)) ∧ Blk wx g6 311 (stC op nm sc ab wh k1 n1 s1 A1 m1 z1 k2 n2 s2 A2 m2 z2 A3 m3 z3 A4 m4 z4 A5 m5 z5 A6 m6 z6).toArray ∧ Blk wx g7 3 #[.int .i64 0] ∧ Blk wx g8 3 #[.int .i64 0] ∧
  (wx.cell? ⟨L, 0, none⟩ = some (.int .i64 ((p : Int) + 1)) ∧ wx.frozen? ⟨L, 0, none⟩ = false) ∧ Fr (· = L) wr wx ∧ (wr.heap.size ≤ g6 ∧ wr.heap.size ≤ g7 ∧ wr.heap.size ≤ g8 ∧ g6 ≠ g7 ∧ g6 ≠ g8 ∧ g7 ≠ g8)
set_option maxRecDepth 100000 in
set_option maxHeartbeats 16000000 in
theorem small_row (l : List G) (hC : ∀ x ∈ l, SmallC x) (w : World) (lo hi L p : Nat) (A : Option Addr) (cap : Nat) (hrow : CdRow w lo hi A cap l) (hL : hi ≤ L) (hp : LitPre L p w) : Calls Tryz.prog 210 #[.slice A l.length cap, .pointer (some ⟨L, 0, none⟩)] w (SmP L p l w) := by
 have hty := hrow.ty
 have hlen := hrow.len1
 have hll : hi ≤ w.heap.size := by have := hp.lt; omega
 have HIN := hide (fun (w' : World) (f : Fr (· = L) w w') => hrow.inn.fr f hll fun i h0 h1 h => by have h' : i = L := h; omega)
 have HST := hide (show SmI L p l w 0 w from ⟨Fr.refl _ w, by rw [ssT_zero]; exact hp, by simp⟩)
 have HTY := hide hty
 have HCC := hide hC
 clear hrow hp hC hty
 go_enter Tryz.func210, Tryz.ntmps210
 go_wp2_with fail
 go_loopw [11] (fun i wr => ∃ j : Nat, j ≤ l.length ∧ i = .int .i64 j ∧ SmI L p l w j wr) (fun i _ => l.length - (intOf i).toNat)
 case atStart => exact ⟨0, Nat.zero_le _, rfl, HST.out⟩
 case round =>
  obtain ⟨j, hj, rfl, inv⟩ := hrel
  by_cases hlt : j < l.length
  case neg =>
   obtain rfl : l.length = j := by omega
   have HI := hide inv
   clear inv
   go_wp2
   go_ret
   have inv := HI.out
   have hpr := inv.pre
   rw [ssT_all] at hpr
   refine ⟨true, rfl, inv.fr, ⟨fun _ => ⟨hpr.le, fun x hx => inv.ok x (by rw [List.take_of_length_le (Nat.le_refl _)]; exact hx)⟩, fun _ => rfl⟩, fun _ => hpr⟩
  have hmem := List.getElem_mem hlt
  obtain ⟨gr, o, rfl, hb0, hb1, hxin, hce⟩ := G.row_at (HIN.out wr inv.fr) hlt
  have hcx := HCC.out _ hmem
  have hsucc := ssT_succ l j hlt
  have htk : l.take (j + 1) = l.take j ++ [l[j]] := by rw [List.take_succ_eq_append_getElem hlt]
  obtain ⟨op, nm, sc, ab, wh, k1, n1, s1, A1, l1, z1, k2, n2, s2, A2, l2, z2, A3, l3, z3, A4, l4, z4, A5, l5, z5, A6, l6, z6, hx, hfs, hf1, hf2, t1', t2', t3', t4', t5', t6'⟩ := ty_stmt (HTY.out _ hmem)
  have hxl : l[j].c.length = 17 := (hasTy_length (HTY.out _ hmem)).trans (by rw [flat_stmt]; rfl)
  rw [hxl] at hce
  have hsk := G.sok_six op nm sc ab wh k1 n1 s1 A1 l1.length z1 k2 n2 s2 A2 l2.length z2 A3 l3.length z3 A4 l4.length z4 A5 l5.length z5 A6 l6.length z6 l1 l2 l3 l4 l5 l6
  have hsz := G.ssz_six (stC op nm sc ab wh k1 n1 s1 A1 l1.length z1 k2 n2 s2 A2 l2.length z2 A3 l3.length z3 A4 l4.length z4 A5 l5.length z5 A6 l6.length z6) A1 A2 A3 A4 A5 A6 l1 l2 l3 l4 l5 l6
  have hns := not_small (p := p) hmem hsucc
  have hsum := ssT_le l (j + 1)
  rw [← hx] at hsk hsz
  have HTK := hide htk
  generalize hxj : l[j] = x at *
  subst hx
  have hrows := G.in_rows.1 hxin
  have hpp := inv.pre
  have hple := hpp.le
  have hE := fun (W' : World) (f : Fr (· = L) wr W') (g : Nat) (hg : wr.heap.size ≤ g) (hb : Blk W' g 3 #[.int .i64 0]) => little_any (.mk [.int .u8 k1, .int .i64 n1, .string s1, .slice A1 l1.length z1] [(A1, l1)]) (mk_expr hf1 t1') W' lo hi g 0 16 (G.in_rows.2 (by intro A' l' hm; simp at hm; obtain ⟨rfl, rfl⟩ := hm; exact (hrows _ _ (by simp)).fr f (by have := hpp.lt; omega) fun i h0 h1 h => by have h' : i = L := h; omega)) (by have := hpp.lt; omega) ⟨hb.cell 0, hb.frozen 0, hb.lt, by omega⟩ (by omega)
  have hE2 := fun (W' : World) (f : Fr (· = L) wr W') (g : Nat) (hg : wr.heap.size ≤ g) (hb : Blk W' g 3 #[.int .i64 0]) => little_any (.mk [.int .u8 k2, .int .i64 n2, .string s2, .slice A2 l2.length z2] [(A2, l2)]) (mk_expr hf2 t2') W' lo hi g 0 16 (G.in_rows.2 (by intro A' l' hm; simp at hm; obtain ⟨rfl, rfl⟩ := hm; exact (hrows _ _ (by simp)).fr f (by have := hpp.lt; omega) fun i h0 h1 h => by have h' : i = L := h; omega)) (by have := hpp.lt; omega) ⟨hb.cell 0, hb.frozen 0, hb.lt, by omega⟩ (by omega)
  have hrr := fun (A' : Option Addr) (l' : List G) (hm : (A', l') ∈ [(A1, l1), (A2, l2), (A3, l3), (A4, l4), (A5, l5), (A6, l6)]) (W' : World) (f : Fr (· = L) wr W') => (hrows A' l' hm).fr f (by have := hpp.lt; omega) fun i h0 h1 h => by have h' : i = L := h; omega
  have hC3 := fun (W' : World) (f : Fr (· = L) wr W') (q : Nat) (hq : LitPre L q W') => hcx A3 l3 (by simp [G.subs]) W' lo hi L q z3 ⟨hfs.th1.1, hfs.th1.2, t3', hrr A3 l3 (by simp) W' f⟩ hL hq
  have hC4 := fun (W' : World) (f : Fr (· = L) wr W') (q : Nat) (hq : LitPre L q W') => hcx A4 l4 (by simp [G.subs]) W' lo hi L q z4 ⟨hfs.el1.1, hfs.el1.2, t4', hrr A4 l4 (by simp) W' f⟩ hL hq
  have hC5 := fun (W' : World) (f : Fr (· = L) wr W') (q : Nat) (hq : LitPre L q W') => hcx A5 l5 (by simp [G.subs]) W' lo hi L q z5 ⟨hfs.co1.1, hfs.co1.2, t5', hrr A5 l5 (by simp) W' f⟩ hL hq
  have HSTC : ∀ i u, (stC op nm sc ab wh k1 n1 s1 A1 l1.length z1 k2 n2 s2 A2 l2.length z2 A3 l3.length z3 A4 l4.length z4 A5 l5.length z5 A6 l6.length z6)[i]? = some u → wr.cell? ⟨gr, o + j * 17 + i, none⟩ = some u := hce
  unfold stC at HSTC
  have x0 : wr.cell? ⟨gr, o + j * 17, none⟩ = some (.int .u8 op) := HSTC 0 _ rfl
  have x1 : wr.cell? ⟨gr, o + j * 17 + 1, none⟩ = some (.string nm) := HSTC 1 _ rfl
  have x2 : wr.cell? ⟨gr, o + j * 17 + 2, none⟩ = some (.string sc) := HSTC 2 _ rfl
  have x3 : wr.cell? ⟨gr, o + j * 17 + 3, none⟩ = some (.int .u8 ab) := HSTC 3 _ rfl
  have x4 : wr.cell? ⟨gr, o + j * 17 + 4, none⟩ = some (.int .u8 wh) := HSTC 4 _ rfl
  have x5 : wr.cell? ⟨gr, o + j * 17 + 5, none⟩ = some (.int .u8 k1) := HSTC 5 _ rfl
  have x6 : wr.cell? ⟨gr, o + j * 17 + 6, none⟩ = some (.int .i64 n1) := HSTC 6 _ rfl
  have x7 : wr.cell? ⟨gr, o + j * 17 + 7, none⟩ = some (.string s1) := HSTC 7 _ rfl
  have x8 : wr.cell? ⟨gr, o + j * 17 + 8, none⟩ = some (.slice A1 l1.length z1) := HSTC 8 _ rfl
  have x9 : wr.cell? ⟨gr, o + j * 17 + 9, none⟩ = some (.int .u8 k2) := HSTC 9 _ rfl
  have x10 : wr.cell? ⟨gr, o + j * 17 + 10, none⟩ = some (.int .i64 n2) := HSTC 10 _ rfl
  have x11 : wr.cell? ⟨gr, o + j * 17 + 11, none⟩ = some (.string s2) := HSTC 11 _ rfl
  have x12 : wr.cell? ⟨gr, o + j * 17 + 12, none⟩ = some (.slice A2 l2.length z2) := HSTC 12 _ rfl
  have x13 : wr.cell? ⟨gr, o + j * 17 + 13, none⟩ = some (.slice A3 l3.length z3) := HSTC 13 _ rfl
  have x14 : wr.cell? ⟨gr, o + j * 17 + 14, none⟩ = some (.slice A4 l4.length z4) := HSTC 14 _ rfl
  have x15 : wr.cell? ⟨gr, o + j * 17 + 15, none⟩ = some (.slice A5 l5.length z5) := HSTC 15 _ rfl
  have x16 : wr.cell? ⟨gr, o + j * 17 + 16, none⟩ = some (.slice A6 l6.length z6) := HSTC 16 _ rfl
  obtain ⟨q, hq⟩ : ∃ q : Nat, p + ssT l j = q := ⟨_, rfl⟩
  rw [hq] at hpp hple hns
  have c0 := hpp.cell
  have cf := hpp.free
  have cq := hpp.lt
  have hgl : gr < wr.heap.size := by omega
  have hgL : gr ≠ L := by omega
  have hw : IntKind.i64.wrap ((q : Int) + 1) = (q : Int) + 1 := IntWalk.i64_in _ (by omega)
  have HE := hide hE
  have HE2 := hide hE2
  have HC3 := hide hC3
  have HC4 := hide hC4
  have HC5 := hide hC5
  have HSK := hide hsk
  have HSZ := hide hsz
  have HNS := hide hns
  have HIV := hide inv
  have HSC := hide hsucc
  have HMEM := hide hmem
  have HQ := hide hq
  clear HSTC hce hrows hrr hC3 hC4 hC5 hE hE2 hxin hcx hsk hsz hns inv hsucc hmem hsum hfs hf1 hf2 t1' t2' t3' t4' t5' t6' hpp hxl htk hq
  go_upto_region 3 with (fail)
  go_cut [6] from 12 to 60 (fun b6 wx => b6 = .pointer (some ⟨wr.heap.size, 0, none⟩) ∧ wx = wr.alloc (.cells #[.int .u8 op, .string nm, .string sc, .int .u8 ab, .int .u8 wh, .int .u8 k1, .int .i64 n1, .string s1, .slice A1 l1.length z1, .int .u8 k2, .int .i64 n2, .string s2, .slice A2 l2.length z2, .slice A3 l3.length z3, .slice A4 l4.length z4, .slice A5 l5.length z5, .slice A6 l6.length z6] 311))
  case first => as_aux_lemma =>
   go_wp2_with fail
   go_meet
   case rel => exact ⟨rfl, rfl⟩
  obtain ⟨rfl, rfl⟩ := hcut
  have hba := Blk.new wr 311 #[.int .u8 op, .string nm, .string sc, .int .u8 ab, .int .u8 wh, .int .u8 k1, .int .i64 n1, .string s1, .slice A1 l1.length z1, .int .u8 k2, .int .i64 n2, .string s2, .slice A2 l2.length z2, .slice A3 l3.length z3, .slice A4 l4.length z4, .slice A5 l5.length z5, .slice A6 l6.length z6]
  have hfa := (Fr.refl No wr).alloc (.cells #[.int .u8 op, .string nm, .string sc, .int .u8 ab, .int .u8 wh, .int .u8 k1, .int .i64 n1, .string s1, .slice A1 l1.length z1, .int .u8 k2, .int .i64 n2, .string s2, .slice A2 l2.length z2, .slice A3 l3.length z3, .slice A4 l4.length z4, .slice A5 l5.length z5, .slice A6 l6.length z6] 311)
  have hsa : (wr.alloc (.cells #[.int .u8 op, .string nm, .string sc, .int .u8 ab, .int .u8 wh, .int .u8 k1, .int .i64 n1, .string s1, .slice A1 l1.length z1, .int .u8 k2, .int .i64 n2, .string s2, .slice A2 l2.length z2, .slice A3 l3.length z3, .slice A4 l4.length z4, .slice A5 l5.length z5, .slice A6 l6.length z6] 311)).heap.size = wr.heap.size + 1 := by simp
  have c0 := (hfa.cell cq fun h => h).trans c0
  have cf := (hfa.frozen cq fun h => h).trans cf
  have cq := Nat.lt_of_lt_of_le cq hfa.size
  have hLg : L ≠ wr.heap.size := by have := HIV.out.pre.lt; omega
  have hgw : wr.heap.size = wr.heap.size := rfl
  clear x0 x1 x2 x3 x4 x5 x6 x7 x8 x9 x10 x11 x12 x13 x14 x15 x16
  generalize hgb : wr.heap.size = gb at *
  generalize hWa : World.alloc wr _ = Wa at *
  go_upto_region 6 with (fail)
  obtain ⟨W5, hW5⟩ : ∃ W5, ((Wa.setCell ⟨L, 0, none⟩ (.int .i64 ((q : Int) + 1))).alloc (.cells #[.int .i64 0] 3)).alloc (.cells #[.int .i64 0] 3) = W5 := ⟨_, rfl⟩
  have fs : Fr (· = L) Wa (Wa.setCell ⟨L, 0, none⟩ (.int .i64 ((q : Int) + 1))) := (Fr.refl (· = L) Wa).set (fun _ => rfl) _
  have hb6 := ((hba.fr fs fun h => hLg h.symm).alloc (.cells #[.int .i64 0] 3)).alloc (.cells #[.int .i64 0] 3)
  have hz : (Wa.setCell ⟨L, 0, none⟩ (.int .i64 ((q : Int) + 1))).heap.size = gb + 1 := by rw [← hsa]; simp [World.setCell]
  have hb7 := (Blk.new' (Wa.setCell ⟨L, 0, none⟩ (.int .i64 ((q : Int) + 1))) 3 #[.int .i64 0] (g := gb + 1) (by rw [hz])).alloc (.cells #[.int .i64 0] 3)
  have hb8 := Blk.new' ((Wa.setCell ⟨L, 0, none⟩ (.int .i64 ((q : Int) + 1))).alloc (.cells #[.int .i64 0] 3)) 3 #[.int .i64 0] (g := gb + 1 + 1) (by simp [hz])
  have f5 := (hfa.no.trans fs).trans (((Fr.refl No (Wa.setCell ⟨L, 0, none⟩ (.int .i64 ((q : Int) + 1)))).alloc (.cells #[.int .i64 0] 3)).alloc (.cells #[.int .i64 0] 3)).no
  have e0 : (((Wa.setCell ⟨L, 0, none⟩ (.int .i64 ((q : Int) + 1))).alloc (.cells #[.int .i64 0] 3)).alloc (.cells #[.int .i64 0] 3)).cell? ⟨L, 0, none⟩ = some (.int .i64 ((q : Int) + 1)) := by
   have : (Wa.setCell ⟨L, 0, none⟩ (.int .i64 ((q : Int) + 1))).cell? ⟨L, 0, none⟩ = some (.int .i64 ((q : Int) + 1)) := by simp [go_sem, *]
   exact ((((Fr.refl No _).alloc _).alloc _).cell (by rw [hz]; have := hsa; omega) fun h => h).trans this
  have ef : (((Wa.setCell ⟨L, 0, none⟩ (.int .i64 ((q : Int) + 1))).alloc (.cells #[.int .i64 0] 3)).alloc (.cells #[.int .i64 0] 3)).frozen? ⟨L, 0, none⟩ = false := by
   have : (Wa.setCell ⟨L, 0, none⟩ (.int .i64 ((q : Int) + 1))).frozen? ⟨L, 0, none⟩ = false := by simp [go_sem, cf]
   exact ((((Fr.refl No _).alloc _).alloc _).frozen (by rw [hz]; have := hsa; omega) fun h => h).trans this
  rw [hW5] at hb6 hb7 hb8 f5 e0 ef
  rw [hW5]
  have hLw : L < gb := by have := HIV.out.pre.lt; omega
  have hL5 : L < W5.heap.size := by have := f5.size; omega
  have HB6 := hide hb6
  have HB7 := hide hb7
  have HB8 := hide hb8
  have HF5 := hide f5
  have HL5 := hide (And.intro e0 (And.intro ef hL5))
  have HLW := hide hLw
  have HFW := hide (HIV.out.fr.trans f5)
  have v5 : W5.cell? ⟨gb, 5, none⟩ = some (.int .u8 k1) := hb6.cell 5
  have v6 : W5.cell? ⟨gb, 6, none⟩ = some (.int .i64 n1) := hb6.cell 6
  have v7 : W5.cell? ⟨gb, 7, none⟩ = some (.string s1) := hb6.cell 7
  have v8 : W5.cell? ⟨gb, 8, none⟩ = some (.slice A1 l1.length z1) := hb6.cell 8
  have v9 : W5.cell? ⟨gb, 9, none⟩ = some (.int .u8 k2) := hb6.cell 9
  have v10 : W5.cell? ⟨gb, 10, none⟩ = some (.int .i64 n2) := hb6.cell 10
  have v11 : W5.cell? ⟨gb, 11, none⟩ = some (.string s2) := hb6.cell 11
  have v12 : W5.cell? ⟨gb, 12, none⟩ = some (.slice A2 l2.length z2) := hb6.cell 12
  have v13 : W5.cell? ⟨gb, 13, none⟩ = some (.slice A3 l3.length z3) := hb6.cell 13
  have v14 : W5.cell? ⟨gb, 14, none⟩ = some (.slice A4 l4.length z4) := hb6.cell 14
  have v15 : W5.cell? ⟨gb, 15, none⟩ = some (.slice A5 l5.length z5) := hb6.cell 15
  have v16 : W5.cell? ⟨gb, 16, none⟩ = some (.slice A6 l6.length z6) := hb6.cell 16
  have v6q := hb6.lt
  have hq8 := hb8.lt
  clear hW5 fs hz hba hfa hsa c0 cf cq hb6 hb7 hb8 f5 ef hLw hLg
  obtain ⟨q1, hq1⟩ : ∃ q1, (G.mk [.int .u8 k1, .int .i64 n1, .string s1, .slice A1 l1.length z1] [(A1, l1)]).eok 512 16 = q1 := ⟨_, rfl⟩
  obtain ⟨q2, hq2⟩ : ∃ q2, (G.mk [.int .u8 k2, .int .i64 n2, .string s2, .slice A2 l2.length z2] [(A2, l2)]).eok 512 16 = q2 := ⟨_, rfl⟩
  have hsk := HSK.out
  rw [hq1, hq2] at hsk
  have HSK := hide hsk
  have HQ1 := hide hq1
  have HQ2 := hide hq2
  clear hsk hq1 hq2
  by_cases hp5 : 512 < q + 1
  · have hd : decide ((q : Int) + 1 > 512) = true := by simp; omega
    have hno := HNS.out fun h => by have := HSZ.out; have := h.1; omega
    have HNO := hide hno
    clear hno hp5
    go_wp2
    go_ret
    exact ⟨false, rfl, HFW.out, HNO.out, nofun⟩
  have hd : decide ((q : Int) + 1 > 512) = false := by simp; omega
  by_cases hw6 : 64 < l6.length
  · have hd6 : decide ((l6.length : Int) > 64) = true := by simp; omega
    have hno := HNS.out fun h => by
     have h2 := h.2
     rw [HSK.out] at h2
     simp at h2
     omega
    have HNO := hide hno
    clear hno hp5 hw6
    go_wp2
    go_ret
    exact ⟨false, rfl, HFW.out, HNO.out, nofun⟩
  have hd6 : decide ((l6.length : Int) > 64) = false := by simp; omega
  have HHP := hide hp5
  have HHW := hide hw6
  clear hp5 hw6
  go_wp2_with fail
  refine (HE.out W5 HF5.out (gb + 1) (by omega) HB7.out).mono ?_
  rintro e w6 ⟨he, f6, -⟩
  have he : e = .returned (.bool q1) := by rw [he, ← HQ1.out]
  subst he
  have hb6 := HB6.out.fr f6 (by omega)
  have hb8 := HB8.out.fr f6 (by omega)
  have hl6 := HL5.out
  have e6 := (f6.cell hl6.2.2 (by have := HLW.out; omega)).trans hl6.1
  have ef6 := (f6.frozen hl6.2.2 (by have := HLW.out; omega)).trans hl6.2.1
  have hL6 := Nat.lt_of_lt_of_le hl6.2.2 f6.size
  have f6' : Fr (· = L) wr w6 := HF5.out.trans' f6 fun i hi h => by have h' : i = gb + 1 := h; omega
  have HL6 := hide (And.intro e6 (And.intro ef6 hL6))
  have HB6' := hide hb6
  have HB8' := hide hb8
  have HF6 := hide f6'
  have v9 : w6.cell? ⟨gb, 9, none⟩ = some (.int .u8 k2) := hb6.cell 9
  have v10 : w6.cell? ⟨gb, 10, none⟩ = some (.int .i64 n2) := hb6.cell 10
  have v11 : w6.cell? ⟨gb, 11, none⟩ = some (.string s2) := hb6.cell 11
  have v12 : w6.cell? ⟨gb, 12, none⟩ = some (.slice A2 l2.length z2) := hb6.cell 12
  have v13 : w6.cell? ⟨gb, 13, none⟩ = some (.slice A3 l3.length z3) := hb6.cell 13
  have v14 : w6.cell? ⟨gb, 14, none⟩ = some (.slice A4 l4.length z4) := hb6.cell 14
  have v15 : w6.cell? ⟨gb, 15, none⟩ = some (.slice A5 l5.length z5) := hb6.cell 15
  have v16 : w6.cell? ⟨gb, 16, none⟩ = some (.slice A6 l6.length z6) := hb6.cell 16
  have v6q := hb6.lt
  have hq8 := hb8.lt
  clear hb6 hb8 hl6 e6 ef6 hL6 f6' f6
  cases q1 with
  | false =>
   have hno := HNS.out fun h => by
    have h2 := h.2
    rw [HSK.out] at h2
    simp at h2
   have HNO := hide hno
   clear hno
   go_wp2
   go_ret
   exact ⟨false, rfl, HIV.out.fr.trans HF6.out, HNO.out, nofun⟩
  | true =>
  go_wp2_with fail
  refine (HE2.out w6 HF6.out (gb + 1 + 1) (by omega) HB8'.out).mono ?_
  rintro e w7 ⟨he, f7, -⟩
  have he : e = .returned (.bool q2) := by rw [he, ← HQ2.out]
  subst he
  have hb6 := HB6'.out.fr f7 (by omega)
  have hl6 := HL6.out
  have e6 := (f7.cell hl6.2.2 (by have := HLW.out; omega)).trans hl6.1
  have ef6 := (f7.frozen hl6.2.2 (by have := HLW.out; omega)).trans hl6.2.1
  have hL6 := Nat.lt_of_lt_of_le hl6.2.2 f7.size
  have f7' : Fr (· = L) wr w7 := HF6.out.trans' f7 fun i hi h => by have h' : i = gb + 1 + 1 := h; omega
  have HL7 := hide (And.intro e6 (And.intro ef6 hL6))
  have HB7' := hide hb6
  have HF7 := hide f7'
  have v13 : w7.cell? ⟨gb, 13, none⟩ = some (.slice A3 l3.length z3) := hb6.cell 13
  have v14 : w7.cell? ⟨gb, 14, none⟩ = some (.slice A4 l4.length z4) := hb6.cell 14
  have v15 : w7.cell? ⟨gb, 15, none⟩ = some (.slice A5 l5.length z5) := hb6.cell 15
  have v16 : w7.cell? ⟨gb, 16, none⟩ = some (.slice A6 l6.length z6) := hb6.cell 16
  have v6q := hb6.lt
  clear hb6 hl6 e6 ef6 hL6 f7' f7
  cases q2 with
  | false =>
   have hno := HNS.out fun h => by
    have h2 := h.2
    rw [HSK.out] at h2
    simp at h2
   have HNO := hide hno
   clear hno
   go_wp2
   go_ret
   exact ⟨false, rfl, HIV.out.fr.trans HF7.out, HNO.out, nofun⟩
  | true =>
  have hpr7 : LitPre L (q + 1) w7 := ⟨HL7.out.1, HL7.out.2.1, HL7.out.2.2, by have := HHP.out; omega⟩
  have HP7 := hide hpr7
  clear hpr7
  go_wp2_with fail
  refine (HC3.out w7 HF7.out _ HP7.out).mono ?_
  rintro e w8 ⟨c8, rfl, f8, h8, p8⟩
  have hb6 := HB7'.out.fr f8 (by have := HLW.out; omega)
  have HB8' := hide hb6
  have HF8 := hide (HF7.out.trans f8)
  have HH8 := hide h8
  have HP8 := hide p8
  have v14 : w8.cell? ⟨gb, 14, none⟩ = some (.slice A4 l4.length z4) := hb6.cell 14
  have v15 : w8.cell? ⟨gb, 15, none⟩ = some (.slice A5 l5.length z5) := hb6.cell 15
  have v6q := hb6.lt
  clear hb6 f8 h8 p8
  cases c8 with
  | false =>
   have hno := HNS.out fun h => by
    have h2 := h.2
    rw [HSK.out] at h2
    simp only [Bool.and_eq_true, List.all_eq_true, decide_eq_true_eq] at h2
    have := HH8.out.2 ⟨by have := HSZ.out; have := h.1; omega, h2.2.1⟩
    cases this
   have HNO := hide hno
   clear hno
   go_wp2
   go_ret
   exact ⟨false, rfl, HIV.out.fr.trans HF8.out, HNO.out, nofun⟩
  | true =>
  go_wp2_with fail
  refine (HC4.out w8 HF8.out _ (HP8.out trivial)).mono ?_
  rintro e w9 ⟨c9, rfl, f9, h9, p9⟩
  have hb6 := HB8'.out.fr f9 (by have := HLW.out; omega)
  have HB9' := hide hb6
  have HF9 := hide (HF8.out.trans f9)
  have HH9 := hide h9
  have HP9 := hide p9
  have v15 : w9.cell? ⟨gb, 15, none⟩ = some (.slice A5 l5.length z5) := hb6.cell 15
  have v6q := hb6.lt
  clear hb6 f9 h9 p9
  cases c9 with
  | false =>
   have hno := HNS.out fun h => by
    have h2 := h.2
    rw [HSK.out] at h2
    simp only [Bool.and_eq_true, List.all_eq_true, decide_eq_true_eq] at h2
    have := HH9.out.2 ⟨by have := HSZ.out; have := h.1; omega, h2.2.2.1⟩
    cases this
   have HNO := hide hno
   clear hno
   go_wp2
   go_ret
   exact ⟨false, rfl, HIV.out.fr.trans HF9.out, HNO.out, nofun⟩
  | true =>
  go_wp2_with fail
  refine (HC5.out w9 HF9.out _ (HP9.out trivial)).mono ?_
  rintro e w10 ⟨c10, rfl, f10, h10, p10⟩
  have hb6 := HB9'.out.fr f10 (by have := HLW.out; omega)
  have HB10' := hide hb6
  have HF10 := hide (HF9.out.trans f10)
  have HH10 := hide h10
  have HP10 := hide p10
  have v6q := hb6.lt
  clear hb6 f10 h10 p10
  cases c10 with
  | false =>
   have hno := HNS.out fun h => by
    have h2 := h.2
    rw [HSK.out] at h2
    simp only [Bool.and_eq_true, List.all_eq_true, decide_eq_true_eq] at h2
    have := HH10.out.2 ⟨by have := HSZ.out; have := h.1; omega, h2.2.2.2⟩
    cases this
   have HNO := hide hno
   clear hno
   go_wp2
   go_ret
   exact ⟨false, rfl, HIV.out.fr.trans HF10.out, HNO.out, nofun⟩
  | true =>
  go_wp2_with fail
  go_roundw
  case rel =>
   have hpp := HP10.out trivial
   have hsc := HSC.out
   have hqq := HQ.out
   have hss := HSZ.out
   refine ⟨j + 1, hlt, by go_num, HIV.out.fr.trans HF10.out, ?_, fun y hy => ?_⟩
   · have e : p + ssT l (j + 1) = q + 1 + (l3.map G.ssz).sum + (l4.map G.ssz).sum + (l5.map G.ssz).sum := by omega
     rw [e]
     exact hpp
   · rw [HTK.out] at hy
     rcases List.mem_append.1 hy with hy | hy
     · exact HIV.out.ok y hy
     · simp only [List.mem_singleton] at hy
       subst hy
       rw [HSK.out]
       have h3 := (HH8.out.1 trivial).2
       have h4 := (HH9.out.1 trivial).2
       have h5 := (HH10.out.1 trivial).2
       have h6 := HHW.out
       simp only [Bool.and_eq_true, List.all_eq_true, decide_eq_true_eq]
       exact ⟨⟨by omega, trivial, trivial⟩, h3, h4, h5⟩
  case measure => simp [intOf]; omega
theorem smallC (g : G) : SmallC g := by
 induction g using G.ind with
 | h c subs ih =>
  intro A l hm w lo hi L p cap hrow hL hp
  exact small_row l (fun x hx => ih A l hm x hx) w lo hi L p A cap hrow hL hp
theorem small_any (l : List G) (w : World) (lo hi L p : Nat) (A : Option Addr) (cap : Nat) (hrow : CdRow w lo hi A cap l) (hL : hi ≤ L) (hp : LitPre L p w) : Calls Tryz.prog 210 #[.slice A l.length cap, .pointer (some ⟨L, 0, none⟩)] w (SmP L p l w) :=
 small_row l (fun x _ => smallC x) w lo hi L p A cap hrow hL hp
end Go.Proofs.YtlejelbefmkakaaGreat

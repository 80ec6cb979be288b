/- Texts joined: Bt16, U10, N1, N2. -/
import Derived.Test.YtihjmipmjogpoaaJn14
import Derived.Sort.QuietIn
import Derived.RangeFuncNested
import Derived.RangeFuncLeaves
import Derived.CallsIn
/- BrandTables: the law's walk of a table: gone over once, left behind some, and again. -/
namespace Go.Proofs.Ytihjmipmjogpoaa
open Go.RowKit
attribute [local go_sem] Oper.semAt_some

theorem set1c (w w' : World) (a c i : Nat) (v : Value) (f : Fr No w.drew w') (hc : c < w.heap.size) (hn : ¬ c = a) : (w'.setCell ⟨a, 0, none⟩ v).cell? ⟨c, i, none⟩ = w.drew.cell? ⟨c, i, none⟩ :=
  (World.cell?_setCell_other _ _ _ _ (fun h => hn (by simp only [Addr.mk.injEq] at h; exact h.1.symm))).trans (Fr.dcells f c i hc)

/-- What stands throughout. -/
structure WC (w : World) (lo hi0 tb M O : Nat) (l : List Ent) (came rb : Nat) (A : Option Addr) (cap : Nat) (R : List (T × T)) (lv : Int) (gt : Nat) (W : World) : Prop where
  fr : Fr No w W
  tab : Tab W lo W.heap.size tb M O l came
  dt : DTab W lo hi0 rb A cap R
  h0 : hi0 ≤ W.heap.size
  b4 : Blk W w.heap.size 52 #[.pointer (some ⟨rb, 0, none⟩)]
  b5 : Blk W (w.heap.size + 1) 3 #[.int .i64 lv]
  b6 : Blk W (w.heap.size + 1 + 1) 4 #[.bool false]
  bt : Blk W gt 39 #[.pointer (some ⟨tb, 0, none⟩)]
  tl : ∀ i, tabBlocks tb M O l i → i < w.heap.size
  dl : ∀ i, dBlocks rb A R.length cap i → i < w.heap.size
  hw : hi0 ≤ w.heap.size
  hg : w.heap.size + 1 + 1 < gt

theorem WC.st {w : World} {lo hi0 tb M O : Nat} {l : List Ent} {came rb : Nat} {A : Option Addr} {cap : Nat} {R : List (T × T)} {lv : Int} {gt : Nat} {W W' : World} {S : Nat → Prop} (h : WC w lo hi0 tb M O l came rb A cap R lv gt W) (f : Fr S W W') (hs : ∀ i, i < W.heap.size → S i → gt < i) : WC w lo hi0 tb M O l came rb A cap R lv gt W' := by
  have h1 := h.hg
  have hw := h.fr.size
  have hb := h.bt.lt
  have hn : ∀ i, i ≤ gt → ¬ S i := fun i hi hS => by have := hs i (by omega) hS; omega
  exact ⟨h.fr.trans' f fun i hi hS => by have := hs i (by omega) hS; omega, (h.tab.frB f (Nat.le_refl _) (fun i hi => hn i (by have := h.tl i hi; omega))).more (Nat.le_refl _) f.size, h.dt.fr f h.h0 (fun i hi => hn i (by have := h.dl i hi; omega)) (fun i hi => hn i (by have := h.hw; omega)), Nat.le_trans h.h0 f.size,
    h.b4.fr f (hn _ (by omega)), h.b5.fr f (hn _ (by omega)), h.b6.fr f (hn _ (by omega)), h.bt.fr f (hn _ (Nat.le_refl _)), h.tl, h.dl, h.hw, h.hg⟩

theorem WC.no {w : World} {lo hi0 tb M O : Nat} {l : List Ent} {came rb : Nat} {A : Option Addr} {cap : Nat} {R : List (T × T)} {lv : Int} {gt : Nat} {W W' : World} (h : WC w lo hi0 tb M O l came rb A cap R lv gt W) (f : Fr No W W') : WC w lo hi0 tb M O l came rb A cap R lv gt W' :=
  ⟨h.fr.trans f, (h.tab.no f (Nat.le_refl _)).more (Nat.le_refl _) f.size, h.dt.no f h.h0, Nat.le_trans h.h0 f.size, h.b4.fr f fun h => h, h.b5.fr f fun h => h, h.b6.fr f fun h => h, h.bt.fr f fun h => h, h.tl, h.dl, h.hw, h.hg⟩

/-- What the first loop leaves. -/
def RM (w : World) (lo hi0 tb M O : Nat) (l : List Ent) (came rb : Nat) (A : Option Addr) (cap : Nat) (R : List (T × T)) (lv : Int) (gt g8 : Nat) (a0 : Act) (e : Exit) (a : Act) (W : World) : Prop :=
  (e = .normal ∨ e = .exit 0) ∧ ∃ (D n : Nat), a = { a0 with defers := { target := .collected D, args := #[] } :: a0.defers } ∧ WC w lo hi0 tb M O l came rb A cap R lv gt W ∧ Blk W g8 3 #[.int .i64 (n : Int)] ∧ ((n : Int) = lv ∨ n = R.length) ∧ n ≤ R.length ∧ w.heap.size ≤ D ∧ W.heap[D]? = some (.deferred (some []))

set_option maxRecDepth 100000 in
set_option maxHeartbeats 16000000 in
theorem walk4_any (w : World) (lo hi0 tb M O : Nat) (l : List Ent) (came rb : Nat) (A : Option Addr) (cap : Nat) (R : List (T × T)) (lv : Int) (hr : -9223372036854775808 ≤ lv ∧ lv ≤ 9223372036854775807) (hT : Tab w lo w.heap.size tb M O l came) (hD : DTab w lo hi0 rb A cap R) (h0 : hi0 ≤ w.heap.size) (hR : Rel l R) :
    Calls Try.prog 34 #[.pointer (some ⟨tb, 0, none⟩), .pointer (some ⟨rb, 0, none⟩), .int .i64 lv] w fun e w' => e = .returned (.bool true) ∧ Fr No w w' := by
  have fr1 := (((Fr.refl No w).alloc (.cells #[.pointer (some ⟨rb, 0, none⟩)] 52)).alloc (.cells #[.int .i64 lv] 3)).alloc (.cells #[.bool false] 4)
  have b41 : Blk (((w.alloc (.cells #[.pointer (some ⟨rb, 0, none⟩)] 52)).alloc (.cells #[.int .i64 lv] 3)).alloc (.cells #[.bool false] 4)) w.heap.size 52 #[.pointer (some ⟨rb, 0, none⟩)] := ((Blk.new' w 52 _ rfl).alloc _).alloc _
  have b51 : Blk (((w.alloc (.cells #[.pointer (some ⟨rb, 0, none⟩)] 52)).alloc (.cells #[.int .i64 lv] 3)).alloc (.cells #[.bool false] 4)) (w.heap.size + 1) 3 #[.int .i64 lv] := (Blk.new' (w.alloc _) 3 _ (by simp)).alloc _
  have b61 : Blk (((w.alloc (.cells #[.pointer (some ⟨rb, 0, none⟩)] 52)).alloc (.cells #[.int .i64 lv] 3)).alloc (.cells #[.bool false] 4)) (w.heap.size + 1 + 1) 4 #[.bool false] := Blk.new' ((w.alloc _).alloc _) 4 _ (by simp)
  obtain ⟨ds, hS, hP, hL⟩ := hR
  have HT := hide hT
  have HDT := hide hD
  have HF1 := hide fr1
  have HB4 := hide b41
  have HB5 := hide b51
  have HB6 := hide b61
  have HS := hide hS
  have HP := hide hP
  have HL := hide hL
  have hlen := hD.len
  clear hT hD fr1 b41 b51 b61 hS hP hL
  refine (callsIn_wide (n := 5)).1 ?_
  refine callsIn_of_wp_marks Try.func34 rfl trivial ?_
  simp only [Try.ntmps34, List.size_toArray, List.length_cons, List.length_nil, Nat.reduceAdd, Nat.reduceSub, Array.replicate_succ, Array.replicate_zero, List.push_toArray, List.append_toArray, List.nil_append, List.cons_append]
  refine wpIn_wide.2 ?_
  go_wp2_with fail
  generalize World.alloc (World.alloc (World.alloc w _) _) _ = w1 at *
  refine (All_any w1 tb).mono ?_
  rintro e w2 ⟨rfl, bt2, f2⟩
  have hq := func100_eql
  have hgt : w.heap.size + 1 + 1 < w1.heap.size := HB6.out.lt
  have HWC : Hid (WC w lo hi0 tb M O l came rb A cap R lv w1.heap.size w2) :=
    hide ⟨HF1.out.trans f2, (HT.out.no (HF1.out.trans f2) (Nat.le_refl _)).more (Nat.le_refl _) (HF1.out.trans f2).size, HDT.out.no (HF1.out.trans f2) h0, Nat.le_trans h0 (HF1.out.trans f2).size, HB4.out.fr f2 fun h => h, HB5.out.fr f2 fun h => h, HB6.out.fr f2 fun h => h, bt2, fun i hi => (HT.out.lt i hi).2, fun i hi => (HDT.out.lt i hi).2, h0, hgt⟩
  have hs2 := f2.size
  have hgt2 : w1.heap.size < w2.heap.size := bt2.lt
  clear bt2 f2 HT HDT HF1 HB4 HB5 HB6
  generalize w1.heap.size = gt at *
  go_wp2_with fail
  have hC0 := HWC.out.no ((Fr.refl No w2).alloc (.cells #[.int .i64 0] 3))
  have hn0 := Blk.new w2 3 #[.int .i64 0]
  have hg8 : w2.heap.size < (w2.alloc (.cells #[.int .i64 0] 3)).heap.size := by simp
  have HC0 := hide hC0
  have HN0 := hide hn0
  clear hC0 hn0 HWC hq
  generalize World.alloc w2 _ = W0 at *
  obtain ⟨g8, hg8'⟩ : ∃ g, w2.heap.size = g := ⟨_, rfl⟩
  rw [hg8'] at hg8 HN0 hgt2 ⊢
  have HIT := hide (iter100 gt lo tb M O came l W0 HC0.out.bt HC0.out.tab ds HS.out HP.out)
  have heg : ∀ args w, (callFunc 100 args).run Try.prog w = .ok (.enter 100 args) w := enters_fn2 Try.func100 (by kernel_rfl) rfl
  generalize ha0 : ({ tmps := _, defers := _ } : Act) = a0
  refine Code.wp_mono (Q := RM w lo hi0 tb M O l came rb A cap R lv gt g8 a0) ?rest ?range1
  case range1 =>
    refine wp_rangeFunc_seq (gf := 100) (by rw [← ha0]; rfl) heg (fun x args B W h => by obtain ⟨tk, tv, lo', rfl, -⟩ := h; rfl) HIT.out (EIg W0 g8) (EXg W0 g8 0 lv)
      (fun pre M W W' S h f hs => h.stay hg8 f hs) (fun c pre M W W' S h f hs => ⟨h.i.stay hg8 f hs, h.c, h.f⟩) (fun pre M W h i hi => by rw [(h.m i).1 hi]; exact h.n.lt) (fun i => i = g8) ?h0 ?hM0 (fun _ args W1 a' Wa => EA2 a0 18 19 9 10 args W1 a' Wa) ?assign ?body ?done ?stop
    case h0 => exact ⟨Fr.refl _ _, HN0.out, fun i => Iff.rfl⟩
    case hM0 =>
      rintro i rfl
      exact ⟨hg8, fun h => h⟩
    case assign =>
      rintro lp x args B W1 ⟨tk, tv, lo', rfl, -, -, -, -⟩ K hK
      obtain ⟨k1, n1, s1, A1, c1, l1, r1⟩ := tk
      obtain ⟨k2, n2, s2, A2, c2, l2, r2⟩ := tv
      rw [T.val_mk, T.val_mk] at hK ⊢
      subst ha0
      have HK := hide hK
      clear hK
      gi_wp2
      refine HK.out _ _ (((Fr.refl No W1).alloc _).alloc _) ⟨_, _, rfl, rfl, ?_, ?_⟩
      · exact (Blk.new W1 27 _).alloc _
      · exact Blk.new' (W1.alloc _) 27 _ (by simp)
    case body =>
      rintro lp pre ⟨vk, vv⟩ args B Mp W1 a' Wa W2 I hpre ⟨tk, tv, lo', rfl, rfl, hkv, hvv, hfor⟩ hB fa ⟨ck, cv, hargs, rfl, hbk, hbv⟩ hl hMl hBl hwl f2
      obtain ⟨ra, rbv, hrow, hra, hrbv, hnl⟩ := rows_at HL.out hpre
      obtain ⟨k1, n1, s1, A1, c1, l1, r1⟩ := tk
      obtain ⟨k2, n2, s2, A2, c2, l2, r2⟩ := tv
      obtain ⟨k3, n3, s3, A3, c3, l3, r3⟩ := ra
      obtain ⟨k4, n4, s4, A4, c4, l4, r4⟩ := rbv
      rw [T.val_mk, T.val_mk] at hargs
      obtain ⟨rfl, rfl⟩ : ck = #[.int .u8 k1, .int .i64 n1, .string s1, .slice A1 l1.length c1, .int .i64 r1] ∧ cv = #[.int .u8 k2, .int .i64 n2, .string s2, .slice A2 l2.length c2, .int .i64 r2] := by
        simp at hargs
        exact ⟨hargs.1.symm, hargs.2.symm⟩
      subst ha0
      have hI1 := I.fr
      have hs1 := hI1.size
      have hsa := fa.size
      have hs2 := f2.size
      have f02 : Fr (fun i => i = g8) W0 W2 := ((hI1.thenNo fa)).trans' f2 fun i hi h => by have h' : i = lp := h; omega
      have C2 := HC0.out.st f02 (fun i hi h => by have h' : i = g8 := h; omega)
      have bn2 : Blk W2 g8 3 #[.int .i64 (pre.length : Int)] := (I.n.fr fa fun h => h).fr f2 fun h => by have h' : g8 = lp := h; omega
      have hkl : W1.heap.size < Wa.heap.size := hbk.lt
      have hvl : W1.heap.size + 1 < Wa.heap.size := hbv.lt
      have bk2 := hbk.fr f2 (fun h => by have h' : W1.heap.size = lp := h; omega)
      have bv2 := hbv.fr f2 (fun h => by have h' : W1.heap.size + 1 = lp := h; omega)
      have hBlp : ∀ i, (i ∈ (T.mk k1 n1 s1 A1 c1 l1 r1).blocks ∨ i ∈ (T.mk k2 n2 s2 A2 c2 l2 r2).blocks) → ¬ i = lp := fun i hi e => hBl (e ▸ hi)
      have F2 : Forest W2 lo' W1.heap.size [T.mk k1 n1 s1 A1 c1 l1 r1, T.mk k2 n2 s2 A2 c2 l2 r2] := (hfor.no fa (Nat.le_refl _)).frB f2 (by omega) (fun b hb h => hBlp b (by simpa using hb) h)
      obtain ⟨g, hgA, -, gl, ⟨e0, e1, e2, e3, e4⟩, ⟨e5, e6, e7, e8, e9⟩, -⟩ := C2.dt.row hrow
      have hin3 := (C2.dt.inn _ (List.mem_of_getElem? hrow)).1
      have hin4 := (C2.dt.inn _ (List.mem_of_getElem? hrow)).2
      have HSK : Hid (∀ q : Clg W2, Calls Try.prog 37 #[.agg #[.int .u8 k1, .int .i64 n1, .string s1, .slice A1 l1.length c1, .int .i64 r1], .agg #[.int .u8 k3, .int .i64 n3, .string s3, .slice A3 l3.length c3, .int .i64 r3]] q.w fun e w'' => e = .returned (.bool true) ∧ ∃ q' : Clg W2, w'' = q'.w) := by
        refine hide fun q => ?_
        have h := same_any (T.mk k1 n1 s1 A1 c1 l1 r1) (T.mk k3 n3 s3 A3 c3 l3 r3) q.w lo' W1.heap.size 0 hi0 ((F2.inn _ (by simp)).no q.fr (by omega)) (by have := q.fr.size; omega) (hin3.no q.fr C2.h0) (Nat.le_trans C2.h0 q.fr.size)
        rw [T.val_mk, T.val_mk] at h
        refine h.mono ?_
        rintro e w'' ⟨b, rfl, hb, hf⟩
        rw [hkv, hra] at hb
        exact ⟨by rw [hb.2 rfl], ⟨⟨w'', q.fr.trans hf⟩, rfl⟩⟩
      have HSV : Hid (∀ q : Clg W2, Calls Try.prog 37 #[.agg #[.int .u8 k2, .int .i64 n2, .string s2, .slice A2 l2.length c2, .int .i64 r2], .agg #[.int .u8 k4, .int .i64 n4, .string s4, .slice A4 l4.length c4, .int .i64 r4]] q.w fun e w'' => e = .returned (.bool true) ∧ ∃ q' : Clg W2, w'' = q'.w) := by
        refine hide fun q => ?_
        have h := same_any (T.mk k2 n2 s2 A2 c2 l2 r2) (T.mk k4 n4 s4 A4 c4 l4 r4) q.w lo' W1.heap.size 0 hi0 ((F2.inn _ (by simp)).no q.fr (by omega)) (by have := q.fr.size; omega) (hin4.no q.fr C2.h0) (Nat.le_trans C2.h0 q.fr.size)
        rw [T.val_mk, T.val_mk] at h
        refine h.mono ?_
        rintro e w'' ⟨b, rfl, hb, hf⟩
        rw [hvv, hrbv] at hb
        exact ⟨by rw [hb.2 rfl], ⟨⟨w'', q.fr.trans hf⟩, rfl⟩⟩
      have i0 : ∀ q : Clg W2, q.w.cell? ⟨g8, 0, none⟩ = some (.int .i64 (pre.length : Int)) := fun q => (bn2.fr q.fr fun h => h).cell 0
      have t0 : ∀ q : Clg W2, q.w.cell? ⟨w.heap.size, 0, none⟩ = some (.pointer (some ⟨rb, 0, none⟩)) := fun q => (C2.b4.fr q.fr fun h => h).cell 0
      have s0 : ∀ q : Clg W2, q.w.cell? ⟨rb, 0, none⟩ = some (.slice (some ⟨g, 0, none⟩) R.length cap) := fun q => by rw [← hgA]; exact (C2.dt.blk.fr q.fr fun h => h).cell 0
      have x0 : ∀ q : Clg W2, q.w.cell? ⟨W1.heap.size, 0, none⟩ = some (.int .u8 k1) := fun q => (bk2.fr q.fr fun h => h).cell 0
      have x1 : ∀ q : Clg W2, q.w.cell? ⟨W1.heap.size, 1, none⟩ = some (.int .i64 n1) := fun q => (bk2.fr q.fr fun h => h).cell 1
      have x2 : ∀ q : Clg W2, q.w.cell? ⟨W1.heap.size, 2, none⟩ = some (.string s1) := fun q => (bk2.fr q.fr fun h => h).cell 2
      have x3 : ∀ q : Clg W2, q.w.cell? ⟨W1.heap.size, 3, none⟩ = some (.slice A1 l1.length c1) := fun q => (bk2.fr q.fr fun h => h).cell 3
      have x4 : ∀ q : Clg W2, q.w.cell? ⟨W1.heap.size, 4, none⟩ = some (.int .i64 r1) := fun q => (bk2.fr q.fr fun h => h).cell 4
      have y0 : ∀ q : Clg W2, q.w.cell? ⟨W1.heap.size + 1, 0, none⟩ = some (.int .u8 k2) := fun q => (bv2.fr q.fr fun h => h).cell 0
      have y1 : ∀ q : Clg W2, q.w.cell? ⟨W1.heap.size + 1, 1, none⟩ = some (.int .i64 n2) := fun q => (bv2.fr q.fr fun h => h).cell 1
      have y2 : ∀ q : Clg W2, q.w.cell? ⟨W1.heap.size + 1, 2, none⟩ = some (.string s2) := fun q => (bv2.fr q.fr fun h => h).cell 2
      have y3 : ∀ q : Clg W2, q.w.cell? ⟨W1.heap.size + 1, 3, none⟩ = some (.slice A2 l2.length c2) := fun q => (bv2.fr q.fr fun h => h).cell 3
      have y4 : ∀ q : Clg W2, q.w.cell? ⟨W1.heap.size + 1, 4, none⟩ = some (.int .i64 r2) := fun q => (bv2.fr q.fr fun h => h).cell 4
      have p0 : ∀ q : Clg W2, q.w.cell? ⟨g, pre.length * 10, none⟩ = some (.int .u8 k3) := fun q => (q.fr.cell gl (fun h => h)).trans e0
      have p1 : ∀ q : Clg W2, q.w.cell? ⟨g, pre.length * 10 + 1, none⟩ = some (.int .i64 n3) := fun q => (q.fr.cell gl (fun h => h)).trans e1
      have p2 : ∀ q : Clg W2, q.w.cell? ⟨g, pre.length * 10 + 2, none⟩ = some (.string s3) := fun q => (q.fr.cell gl (fun h => h)).trans e2
      have p3 : ∀ q : Clg W2, q.w.cell? ⟨g, pre.length * 10 + 3, none⟩ = some (.slice A3 l3.length c3) := fun q => (q.fr.cell gl (fun h => h)).trans e3
      have p4 : ∀ q : Clg W2, q.w.cell? ⟨g, pre.length * 10 + 4, none⟩ = some (.int .i64 r3) := fun q => (q.fr.cell gl (fun h => h)).trans e4
      have p5 : ∀ q : Clg W2, q.w.cell? ⟨g, pre.length * 10 + 5, none⟩ = some (.int .u8 k4) := fun q => (q.fr.cell gl (fun h => h)).trans e5
      have p6 : ∀ q : Clg W2, q.w.cell? ⟨g, pre.length * 10 + 5 + 1, none⟩ = some (.int .i64 n4) := fun q => (q.fr.cell gl (fun h => h)).trans e6
      have p7 : ∀ q : Clg W2, q.w.cell? ⟨g, pre.length * 10 + 5 + 2, none⟩ = some (.string s4) := fun q => (q.fr.cell gl (fun h => h)).trans e7
      have p8 : ∀ q : Clg W2, q.w.cell? ⟨g, pre.length * 10 + 5 + 3, none⟩ = some (.slice A4 l4.length c4) := fun q => (q.fr.cell gl (fun h => h)).trans e8
      have p9 : ∀ q : Clg W2, q.w.cell? ⟨g, pre.length * 10 + 5 + 4, none⟩ = some (.int .i64 r4) := fun q => (q.fr.cell gl (fun h => h)).trans e9
      have z8 : ∀ q : Clg W2, g8 < q.w.heap.size := fun q => (bn2.fr q.fr fun h => h).lt
      have z4 : ∀ q : Clg W2, w.heap.size < q.w.heap.size := fun q => (C2.b4.fr q.fr fun h => h).lt
      have zr : ∀ q : Clg W2, rb < q.w.heap.size := fun q => (C2.dt.blk.fr q.fr fun h => h).lt
      have zk : ∀ q : Clg W2, W1.heap.size < q.w.heap.size := fun q => (bk2.fr q.fr fun h => h).lt
      have zv : ∀ q : Clg W2, W1.heap.size + 1 < q.w.heap.size := fun q => (bv2.fr q.fr fun h => h).lt
      have zg : ∀ q : Clg W2, g < q.w.heap.size := fun q => Nat.lt_of_lt_of_le gl q.fr.size
      have hnl' : (pre.length : Int) < (R.length : Int) := by omega
      have hge : decide ((pre.length : Int) ≥ (R.length : Int)) = false := by simp; omega
      have hge3 : decide (R.length ≤ pre.length) = false := by simp; omega
      have hge2 : decide ((R.length : Int) ≤ (pre.length : Int)) = false := by simp; omega
      have hnb : (pre.length : Int) ≤ 1000 := by omega
      have HC2 := hide C2
      have HN2 := hide bn2
      have HK2 := hide bk2
      have HV2 := hide bv2
      have HF2 := hide F2
      have HFA := hide fa
      have HFL := hide f2
      have HI := hide I
      have HML := hide hMl
      have HLP := hide hBlp
      have HBB := hide hB
      clear C2 bn2 bk2 bv2 F2 fa f2 I hMl hBlp hB hpre hargs hfor hI1 hBl hbk hbv hkv hvv hra hrbv hrow f02 hin3 hin4 e0 e1 e2 e3 e4 e5 e6 e7 e8 e9
      simp only [Act.put, List.setIfInBounds_toArray, List.set_cons_zero, List.set_cons_succ]
      gi_wp2_with fail
      have hinst : Nonempty (Clg W2) := ⟨⟨W2, Fr.refl No W2⟩⟩
      refine wpIn_region_quiet_round (fun W' => ∃ q : Clg W2, W' = q.w) (by kernel_rfl) (by kernel_rfl) (by kernel_rfl) ⟨⟨_, (Fr.refl No W2).drew⟩, rfl⟩ ?_
      repeat (go_big_quiet_step (first | (go_at_call 37; with_reducible exact HSK.out _) | (go_at_call 37; with_reducible exact HSV.out _)))
      refine wpQuiet_nil ?_
      rintro Wc ⟨⟨_, f3⟩, rfl⟩
      clear i0 t0 s0 x0 x1 x2 x3 x4 y0 y1 y2 y3 y4 p0 p1 p2 p3 p4 p5 p6 p7 p8 p9 z8 z4 zr zk zv zg hge hge2 hge3 hinst HSK HSV
      have kc := HK2.out.fr f3 (fun h => h)
      obtain ⟨x0, x1, x2, x3, x4, xf⟩ := kc.cells5
      have xl := kc.lt
      have FC := HF2.out.frB f3 (by omega) (fun _ _ h => h)
      have hw12 : W1.heap.size ≤ Wc.heap.size := by have := f3.size; omega
      have hbk1 : ∀ b, b ∈ (T.mk k1 n1 s1 A1 c1 l1 r1).blocks → b < W1.heap.size := fun b hb => (HBB.out b (.inl hb)).2.1
      have hbv1 : ∀ b, b ∈ (T.mk k2 n2 s2 A2 c2 l2 r2).blocks → b < W1.heap.size := fun b hb => (HBB.out b (.inr hb)).2.1
      have SPK := hide (spoil4_any (T.mk k1 n1 s1 A1 c1 l1 r1) Wc lo' W1.heap.size ⟨FC.inn _ (by simp), by have := FC.nodup; rw [List.map_cons, List.flatten_cons, List.nodup_append] at this; exact this.1, fun b hb => FC.free b (by simp [hb])⟩ hw12)
      have hdisj : ∀ b ∈ (T.mk k2 n2 s2 A2 c2 l2 r2).blocks, b ∉ (T.mk k1 n1 s1 A1 c1 l1 r1).blocks := fun b hb hb2 => by
        have := FC.nodup
        rw [List.map_cons, List.flatten_cons, List.nodup_append] at this
        exact this.2.2 b hb2 b (by simpa using hb) rfl
      have how2 : (T.mk k2 n2 s2 A2 c2 l2 r2).Ow Wc lo' W1.heap.size := ⟨FC.inn _ (by simp), by have := FC.nodup; rw [List.map_cons, List.flatten_cons, List.nodup_append] at this; simpa using this.2.1, fun b hb => FC.free b (by simp [hb])⟩
      have HF3 := hide f3
      have HO2 := hide how2
      have HDJ := hide hdisj
      rw [T.val_mk] at SPK
      clear kc FC how2 hdisj f3
      gi_wp2_with fail
      refine ⟨trivial, (CallsIn.inRound lp (callsIn_wide.2 SPK.out)).mono ?_⟩
      rintro e Wk ⟨⟨z1, rfl⟩, fk⟩
      have how3 := HO2.out.frB fk hw12 (fun b hb h => HDJ.out b hb h)
      have vc := (HV2.out.fr HF3.out (fun h => h)).fr fk (fun h => by have := hbk1 _ h; omega)
      clear x0 x1 x2 x3 x4 xf xl
      obtain ⟨x0, x1, x2, x3, x4, xf⟩ := vc.cells5
      have xl := vc.lt
      have SPV := hide (spoil4_any (T.mk k2 n2 s2 A2 c2 l2 r2) Wk lo' W1.heap.size how3 (Nat.le_trans hw12 fk.size))
      rw [T.val_mk] at SPV
      have HFK := hide fk
      clear how3 vc fk SPK
      gi_wp2_with fail
      refine ⟨trivial, (CallsIn.inRound lp (callsIn_wide.2 SPV.out)).mono ?_⟩
      rintro e wx ⟨⟨z2, rfl⟩, fv⟩
      have fx : Fr (fun i => i ∈ (T.mk k1 n1 s1 A1 c1 l1 r1).blocks ∨ i ∈ (T.mk k2 n2 s2 A2 c2 l2 r2).blocks) Wc wx := (HFK.out.mono (S' := fun i => i ∈ (T.mk k1 n1 s1 A1 c1 l1 r1).blocks ∨ i ∈ (T.mk k2 n2 s2 A2 c2 l2 r2).blocks) fun _ _ h => .inl h).trans' fv fun _ _ h => .inr h
      have hg80 : ∀ b, (b ∈ (T.mk k1 n1 s1 A1 c1 l1 r1).blocks ∨ b ∈ (T.mk k2 n2 s2 A2 c2 l2 r2).blocks) → b ≠ g8 ∧ b ≠ w.heap.size + 1 := fun b hb => by
        have := (HBB.out b hb).1
        exact ⟨by omega, by omega⟩
      have bnx : Blk wx g8 3 #[.int .i64 (pre.length : Int)] := (HN2.out.fr HF3.out fun h => h).fr fx (fun h => (hg80 _ h).1 rfl)
      have b5x := (HC2.out.b5.fr HF3.out fun h => h).fr fx (fun h => (hg80 _ h).2 rfl)
      have n0 := bnx.cell 0
      have nf := bnx.frozen 0
      have l0 := b5x.cell 0
      simp only [List.getElem?_toArray, List.getElem?_cons_zero] at n0 l0
      have zn := bnx.lt
      have z5 := b5x.lt
      have hne : g8 ≠ w.heap.size + 1 := by omega
      have hne2 : w.heap.size + 1 ≠ g8 := hne.symm
      have HEND := hide (eg_end (x := (vk, vv)) HI.out HFA.out HFL.out HF3.out fx hl HML.out HLP.out hwl HBB.out hg8)
      clear x0 x1 x2 x3 x4 xf xl bnx b5x fx fv SPV hg80
      by_cases hf : (pre.length : Int) + 1 = lv
      · have HFF := hide hf
        gi_wp2_with fail
        have he := HEND.out
        rw [HFF.out] at he
        exact ⟨he.1, Mp, fun _ h _ => h, he.2, rfl, by have h := HFF.out; simpa using h⟩
      · gi_wp2_with fail
        exact ⟨HEND.out.1, Mp, fun _ h _ => h, HEND.out.2⟩
    case done =>
      intro D Wd M' II FM hsub hDge hDK
      have hlR : (ds.map pr).length = R.length := by rw [← HL.out, List.length_map]
      have nd := II.n
      rw [hlR] at nd
      refine ⟨.inl rfl, D, R.length, rfl, HC0.out.st II.fr (fun i hi h => by have h' : i = g8 := h; omega), nd, .inr rfl, Nat.le_refl _, ?_, hDK⟩
      have := HC0.out.fr.size
      omega
    case stop =>
      intro D c q Wd M' hq hX FM hsub hDge hDK
      obtain rfl := hX.c
      have II := hX.i
      have hlq := hq.length_le
      have hlR : (ds.map pr).length = R.length := by rw [← HL.out, List.length_map]
      go_wp2_with fail
      refine ⟨.inr rfl, D, q.length, rfl, HC0.out.st II.fr (fun i hi h => by have h' : i = g8 := h; omega), II.n, .inl hX.f, by omega, ?_, hDK⟩
      have := HC0.out.fr.size
      omega
  case rest =>
    rintro e a W ⟨he, D, n, rfl, C, bn, hn, hnR, hDw, hDd⟩
    have hsame : ∀ (Q0 : Exit → Act → World → Prop) (a : Act) (W : World), Exit.inBlock 0 Q0 .normal a W → Exit.inBlock 0 Q0 e a W := by
      rcases he with rfl | rfl
      · exact fun _ _ _ h => h
      · exact fun _ _ _ h => h
    refine hsame _ _ _ ?_
    clear hsame he
    have hne : (Exit.normal = Exit.normal) := rfl
    have i0 := bn.cell 0
    have if_ := bn.frozen 0
    have l0 := C.b5.cell 0
    have t0 := C.b4.cell 0
    have s0 := C.dt.blk.cell 0
    simp only [List.getElem?_toArray, List.getElem?_cons_zero] at i0 l0 t0 s0
    have z1 := bn.lt
    have z2 := C.b5.lt
    have z3 := C.b4.lt
    have z4 := C.dt.blk.lt
    have HC := hide C
    have HBN := hide bn
    have HDD := hide hDd
    clear hne C bn hDd HN0 HC0 HIT
    have hsafe : Hid ((n : Int) = lv ∨ n = R.length) := hide hn
    subst ha0
    go_upto_region 14 with fail
    go_cut [73] from 62 to 73 (fun q wx => q = .bool false ∧ Fr No W wx)
    case first =>
      by_cases hnl : (n : Int) = lv
      · have hnl2 : ((n : Int) != lv) = false := by simpa using hnl
        go_quiet (fail)
        generalize hwq : World.drewN W _ = wq
        have fq : Fr No W wq := by rw [← hwq]; exact Fr.refl No W |>.drewN _
        go_wp2
        go_meet
        exact ⟨rfl, fq⟩
      · have hnl2 : ((n : Int) != lv) = true := by simpa using hnl
        obtain rfl : n = R.length := by rcases hn with h | h; exact absurd h hnl; exact h
        go_quiet (fail)
        generalize hwq : World.drewN W _ = wq
        have fq : Fr No W wq := by rw [← hwq]; exact Fr.refl No W |>.drewN _
        go_wp2
        go_meet
        exact ⟨by simp, fq⟩
    case rest =>
      obtain ⟨rfl, fq⟩ := hcut
      have Cc := HC.out.no fq
      have bc := HBN.out.fr fq (fun h => h)
      have hDc := (fq.block D (Array.getElem?_eq_some_iff.1 HDD.out).1 (fun h => h)).trans HDD.out
      clear i0 if_ l0 t0 s0 z1 z2 z3 z4 hn
      have i0 := bc.cell 0
      have if_ := bc.frozen 0
      simp only [List.getElem?_toArray, List.getElem?_cons_zero] at i0
      have z1 := bc.lt
      have bb := bc.set_ 0 (.int .i64 0)
      have fb := (Fr.refl (fun i => i = g8) wc).set (p := ⟨g8, 0, none⟩) (fun _ => rfl) (.int .i64 0)
      have Cb := Cc.st fb (fun i _ h => by have h' : i = g8 := h; omega)
      have hDg : D ≠ g8 := fun h => by
        have := bc
        unfold Blk at this
        rw [← h, hDc] at this
        cases this
      have hDb : (wc.setCell ⟨g8, 0, none⟩ (.int .i64 0)).heap[D]? = some (.deferred (some [])) := (fb.block D (Array.getElem?_eq_some_iff.1 hDc).1 hDg).trans hDc
      have hg8b : g8 < (wc.setCell ⟨g8, 0, none⟩ (.int .i64 0)).heap.size := by have := fb.size; omega
      have HCb := hide Cb
      have HNb : Hid (Blk (wc.setCell ⟨g8, 0, none⟩ (.int .i64 0)) g8 3 #[.int .i64 0]) := hide (by simpa using bb)
      have HDb := hide hDb
      clear Cc bc hDc bb fb Cb hDb fq HC HBN HDD
      go_wp2_with fail
      generalize World.setCell wc _ _ = Wb at *
      have HIT := hide (iter100 gt lo tb M O came l Wb HCb.out.bt HCb.out.tab ds HS.out HP.out)
      generalize ha0 : ({ tmps := _, defers := _ } : Act) = a0
      refine wp_rangeFunc_seq (gf := 100) (by rw [← ha0]; rfl) heg (fun x args B W h => by obtain ⟨tk, tv, lo', rfl, -⟩ := h; rfl) HIT.out (EIg Wb g8) (fun _ _ _ _ => False)
        (fun pre M W W' S h f hs => h.stay hg8b f hs) (fun _ _ _ _ _ _ h _ _ => h) (fun pre M W h i hi => by rw [(h.m i).1 hi]; exact h.n.lt) (fun i => i = g8) ?h0 ?hM0 (fun _ args W1 a' Wa => EA2 a0 75 76 11 12 args W1 a' Wa) ?assign ?body ?done (fun _ _ _ _ _ _ h _ _ _ _ => h.elim)
      case h0 => exact ⟨Fr.refl _ _, HNb.out, fun i => Iff.rfl⟩
      case hM0 =>
        rintro i rfl
        exact ⟨hg8b, fun h => h⟩
      case assign =>
        rintro lp x args B W1 ⟨tk, tv, lo', rfl, -, -, -, -⟩ K hK
        obtain ⟨k1, n1, s1, A1, c1, l1, r1⟩ := tk
        obtain ⟨k2, n2, s2, A2, c2, l2, r2⟩ := tv
        rw [T.val_mk, T.val_mk] at hK ⊢
        subst ha0
        have HK := hide hK
        clear hK
        gi_wp2
        refine HK.out _ _ (((Fr.refl No W1).alloc _).alloc _) ⟨_, _, rfl, rfl, ?_, ?_⟩
        · exact (Blk.new W1 27 _).alloc _
        · exact Blk.new' (W1.alloc _) 27 _ (by simp)
      case body =>
        rintro lp pre ⟨vk, vv⟩ args B Mp W1 a' Wa W2 I hpre ⟨tk, tv, lo', rfl, rfl, hkv, hvv, hfor⟩ hB fa ⟨ck, cv, hargs, rfl, hbk, hbv⟩ hl hMl hBl hwl f2
        obtain ⟨ra, rbv, hrow, hra, hrbv, hnl⟩ := rows_at HL.out hpre
        obtain ⟨k1, n1, s1, A1, c1, l1, r1⟩ := tk
        obtain ⟨k2, n2, s2, A2, c2, l2, r2⟩ := tv
        obtain ⟨k3, n3, s3, A3, c3, l3, r3⟩ := ra
        obtain ⟨k4, n4, s4, A4, c4, l4, r4⟩ := rbv
        rw [T.val_mk, T.val_mk] at hargs
        obtain ⟨rfl, rfl⟩ : ck = #[.int .u8 k1, .int .i64 n1, .string s1, .slice A1 l1.length c1, .int .i64 r1] ∧ cv = #[.int .u8 k2, .int .i64 n2, .string s2, .slice A2 l2.length c2, .int .i64 r2] := by
          simp at hargs
          exact ⟨hargs.1.symm, hargs.2.symm⟩
        subst ha0
        have hI1 := I.fr
        have hs1 := hI1.size
        have hsa := fa.size
        have hs2 := f2.size
        have f02 : Fr (fun i => i = g8) Wb W2 := ((hI1.thenNo fa)).trans' f2 fun i hi h => by have h' : i = lp := h; omega
        have C2 := HCb.out.st f02 (fun i hi h => by have h' : i = g8 := h; omega)
        have bn2 : Blk W2 g8 3 #[.int .i64 (pre.length : Int)] := (I.n.fr fa fun h => h).fr f2 fun h => by have h' : g8 = lp := h; omega
        have hkl : W1.heap.size < Wa.heap.size := hbk.lt
        have hvl : W1.heap.size + 1 < Wa.heap.size := hbv.lt
        have bk2 := hbk.fr f2 (fun h => by have h' : W1.heap.size = lp := h; omega)
        have bv2 := hbv.fr f2 (fun h => by have h' : W1.heap.size + 1 = lp := h; omega)
        have hBlp : ∀ i, (i ∈ (T.mk k1 n1 s1 A1 c1 l1 r1).blocks ∨ i ∈ (T.mk k2 n2 s2 A2 c2 l2 r2).blocks) → ¬ i = lp := fun i hi e => hBl (e ▸ hi)
        have F2 : Forest W2 lo' W1.heap.size [T.mk k1 n1 s1 A1 c1 l1 r1, T.mk k2 n2 s2 A2 c2 l2 r2] := (hfor.no fa (Nat.le_refl _)).frB f2 (by omega) (fun b hb h => hBlp b (by simpa using hb) h)
        obtain ⟨g, hgA, -, gl, ⟨e0, e1, e2, e3, e4⟩, ⟨e5, e6, e7, e8, e9⟩, -⟩ := C2.dt.row hrow
        have hin3 := (C2.dt.inn _ (List.mem_of_getElem? hrow)).1
        have hin4 := (C2.dt.inn _ (List.mem_of_getElem? hrow)).2
        have HSK : Hid (∀ q : Clg W2, Calls Try.prog 37 #[.agg #[.int .u8 k1, .int .i64 n1, .string s1, .slice A1 l1.length c1, .int .i64 r1], .agg #[.int .u8 k3, .int .i64 n3, .string s3, .slice A3 l3.length c3, .int .i64 r3]] q.w fun e w'' => e = .returned (.bool true) ∧ ∃ q' : Clg W2, w'' = q'.w) := by
          refine hide fun q => ?_
          have h := same_any (T.mk k1 n1 s1 A1 c1 l1 r1) (T.mk k3 n3 s3 A3 c3 l3 r3) q.w lo' W1.heap.size 0 hi0 ((F2.inn _ (by simp)).no q.fr (by omega)) (by have := q.fr.size; omega) (hin3.no q.fr C2.h0) (Nat.le_trans C2.h0 q.fr.size)
          rw [T.val_mk, T.val_mk] at h
          refine h.mono ?_
          rintro e w'' ⟨b, rfl, hb, hf⟩
          rw [hkv, hra] at hb
          exact ⟨by rw [hb.2 rfl], ⟨⟨w'', q.fr.trans hf⟩, rfl⟩⟩
        have HSV : Hid (∀ q : Clg W2, Calls Try.prog 37 #[.agg #[.int .u8 k2, .int .i64 n2, .string s2, .slice A2 l2.length c2, .int .i64 r2], .agg #[.int .u8 k4, .int .i64 n4, .string s4, .slice A4 l4.length c4, .int .i64 r4]] q.w fun e w'' => e = .returned (.bool true) ∧ ∃ q' : Clg W2, w'' = q'.w) := by
          refine hide fun q => ?_
          have h := same_any (T.mk k2 n2 s2 A2 c2 l2 r2) (T.mk k4 n4 s4 A4 c4 l4 r4) q.w lo' W1.heap.size 0 hi0 ((F2.inn _ (by simp)).no q.fr (by omega)) (by have := q.fr.size; omega) (hin4.no q.fr C2.h0) (Nat.le_trans C2.h0 q.fr.size)
          rw [T.val_mk, T.val_mk] at h
          refine h.mono ?_
          rintro e w'' ⟨b, rfl, hb, hf⟩
          rw [hvv, hrbv] at hb
          exact ⟨by rw [hb.2 rfl], ⟨⟨w'', q.fr.trans hf⟩, rfl⟩⟩
        have i0 : ∀ q : Clg W2, q.w.cell? ⟨g8, 0, none⟩ = some (.int .i64 (pre.length : Int)) := fun q => (bn2.fr q.fr fun h => h).cell 0
        have t0 : ∀ q : Clg W2, q.w.cell? ⟨w.heap.size, 0, none⟩ = some (.pointer (some ⟨rb, 0, none⟩)) := fun q => (C2.b4.fr q.fr fun h => h).cell 0
        have s0 : ∀ q : Clg W2, q.w.cell? ⟨rb, 0, none⟩ = some (.slice (some ⟨g, 0, none⟩) R.length cap) := fun q => by rw [← hgA]; exact (C2.dt.blk.fr q.fr fun h => h).cell 0
        have x0 : ∀ q : Clg W2, q.w.cell? ⟨W1.heap.size, 0, none⟩ = some (.int .u8 k1) := fun q => (bk2.fr q.fr fun h => h).cell 0
        have x1 : ∀ q : Clg W2, q.w.cell? ⟨W1.heap.size, 1, none⟩ = some (.int .i64 n1) := fun q => (bk2.fr q.fr fun h => h).cell 1
        have x2 : ∀ q : Clg W2, q.w.cell? ⟨W1.heap.size, 2, none⟩ = some (.string s1) := fun q => (bk2.fr q.fr fun h => h).cell 2
        have x3 : ∀ q : Clg W2, q.w.cell? ⟨W1.heap.size, 3, none⟩ = some (.slice A1 l1.length c1) := fun q => (bk2.fr q.fr fun h => h).cell 3
        have x4 : ∀ q : Clg W2, q.w.cell? ⟨W1.heap.size, 4, none⟩ = some (.int .i64 r1) := fun q => (bk2.fr q.fr fun h => h).cell 4
        have y0 : ∀ q : Clg W2, q.w.cell? ⟨W1.heap.size + 1, 0, none⟩ = some (.int .u8 k2) := fun q => (bv2.fr q.fr fun h => h).cell 0
        have y1 : ∀ q : Clg W2, q.w.cell? ⟨W1.heap.size + 1, 1, none⟩ = some (.int .i64 n2) := fun q => (bv2.fr q.fr fun h => h).cell 1
        have y2 : ∀ q : Clg W2, q.w.cell? ⟨W1.heap.size + 1, 2, none⟩ = some (.string s2) := fun q => (bv2.fr q.fr fun h => h).cell 2
        have y3 : ∀ q : Clg W2, q.w.cell? ⟨W1.heap.size + 1, 3, none⟩ = some (.slice A2 l2.length c2) := fun q => (bv2.fr q.fr fun h => h).cell 3
        have y4 : ∀ q : Clg W2, q.w.cell? ⟨W1.heap.size + 1, 4, none⟩ = some (.int .i64 r2) := fun q => (bv2.fr q.fr fun h => h).cell 4
        have p0 : ∀ q : Clg W2, q.w.cell? ⟨g, pre.length * 10, none⟩ = some (.int .u8 k3) := fun q => (q.fr.cell gl (fun h => h)).trans e0
        have p1 : ∀ q : Clg W2, q.w.cell? ⟨g, pre.length * 10 + 1, none⟩ = some (.int .i64 n3) := fun q => (q.fr.cell gl (fun h => h)).trans e1
        have p2 : ∀ q : Clg W2, q.w.cell? ⟨g, pre.length * 10 + 2, none⟩ = some (.string s3) := fun q => (q.fr.cell gl (fun h => h)).trans e2
        have p3 : ∀ q : Clg W2, q.w.cell? ⟨g, pre.length * 10 + 3, none⟩ = some (.slice A3 l3.length c3) := fun q => (q.fr.cell gl (fun h => h)).trans e3
        have p4 : ∀ q : Clg W2, q.w.cell? ⟨g, pre.length * 10 + 4, none⟩ = some (.int .i64 r3) := fun q => (q.fr.cell gl (fun h => h)).trans e4
        have p5 : ∀ q : Clg W2, q.w.cell? ⟨g, pre.length * 10 + 5, none⟩ = some (.int .u8 k4) := fun q => (q.fr.cell gl (fun h => h)).trans e5
        have p6 : ∀ q : Clg W2, q.w.cell? ⟨g, pre.length * 10 + 5 + 1, none⟩ = some (.int .i64 n4) := fun q => (q.fr.cell gl (fun h => h)).trans e6
        have p7 : ∀ q : Clg W2, q.w.cell? ⟨g, pre.length * 10 + 5 + 2, none⟩ = some (.string s4) := fun q => (q.fr.cell gl (fun h => h)).trans e7
        have p8 : ∀ q : Clg W2, q.w.cell? ⟨g, pre.length * 10 + 5 + 3, none⟩ = some (.slice A4 l4.length c4) := fun q => (q.fr.cell gl (fun h => h)).trans e8
        have p9 : ∀ q : Clg W2, q.w.cell? ⟨g, pre.length * 10 + 5 + 4, none⟩ = some (.int .i64 r4) := fun q => (q.fr.cell gl (fun h => h)).trans e9
        have z8 : ∀ q : Clg W2, g8 < q.w.heap.size := fun q => (bn2.fr q.fr fun h => h).lt
        have z4 : ∀ q : Clg W2, w.heap.size < q.w.heap.size := fun q => (C2.b4.fr q.fr fun h => h).lt
        have zr : ∀ q : Clg W2, rb < q.w.heap.size := fun q => (C2.dt.blk.fr q.fr fun h => h).lt
        have zk : ∀ q : Clg W2, W1.heap.size < q.w.heap.size := fun q => (bk2.fr q.fr fun h => h).lt
        have zv : ∀ q : Clg W2, W1.heap.size + 1 < q.w.heap.size := fun q => (bv2.fr q.fr fun h => h).lt
        have zg : ∀ q : Clg W2, g < q.w.heap.size := fun q => Nat.lt_of_lt_of_le gl q.fr.size
        have hnl' : (pre.length : Int) < (R.length : Int) := by omega
        have hge : decide ((pre.length : Int) ≥ (R.length : Int)) = false := by simp; omega
        have hge3 : decide (R.length ≤ pre.length) = false := by simp; omega
        have hge2 : decide ((R.length : Int) ≤ (pre.length : Int)) = false := by simp; omega
        have hnb : (pre.length : Int) ≤ 1000 := by omega
        have HC2 := hide C2
        have HN2 := hide bn2
        have HK2 := hide bk2
        have HV2 := hide bv2
        have HF2 := hide F2
        have HFA := hide fa
        have HFL := hide f2
        have HI := hide I
        have HML := hide hMl
        have HLP := hide hBlp
        have HBB := hide hB
        clear C2 bn2 bk2 bv2 F2 fa f2 I hMl hBlp hB hpre hargs hfor hI1 hBl hbk hbv hkv hvv hra hrbv hrow f02 hin3 hin4 e0 e1 e2 e3 e4 e5 e6 e7 e8 e9
        simp only [Act.put, List.setIfInBounds_toArray, List.set_cons_zero, List.set_cons_succ]
        gi_wp2_with fail
        have hinst : Nonempty (Clg W2) := ⟨⟨W2, Fr.refl No W2⟩⟩
        refine wpIn_region_quiet_round (fun W' => ∃ q : Clg W2, W' = q.w) (by kernel_rfl) (by kernel_rfl) (by kernel_rfl) ⟨⟨_, (Fr.refl No W2).drew⟩, rfl⟩ ?_
        repeat (go_big_quiet_step (first | (go_at_call 37; with_reducible exact HSK.out _) | (go_at_call 37; with_reducible exact HSV.out _)))
        refine wpQuiet_nil ?_
        rintro Wc ⟨⟨_, f3⟩, rfl⟩
        clear i0 t0 s0 x0 x1 x2 x3 x4 y0 y1 y2 y3 y4 p0 p1 p2 p3 p4 p5 p6 p7 p8 p9 z8 z4 zr zk zv zg hge hge2 hge3 hinst HSK HSV
        have HBNx := HN2.out.fr f3 (fun h => h)
        have n0 := HBNx.cell 0
        have nf := HBNx.frozen 0
        simp only [List.getElem?_toArray, List.getElem?_cons_zero] at n0
        have zn := HBNx.lt
        have HEND := hide (eg_end (x := (vk, vv)) HI.out HFA.out HFL.out f3 (Fr.refl (fun i => i ∈ (T.mk k1 n1 s1 A1 c1 l1 r1).blocks ∨ i ∈ (T.mk k2 n2 s2 A2 c2 l2 r2).blocks) Wc) hl HML.out HLP.out hwl HBB.out hg8b)
        clear HBNx f3
        gi_wp2_with fail
        exact ⟨HEND.out.1, Mp, fun _ h _ => h, HEND.out.2⟩
      case done =>
        intro D2 Wd M' II FM hsub hDge hDK
        have hlR : (ds.map pr).length = R.length := by rw [← HL.out, List.length_map]
        have nd := II.n
        rw [hlR] at nd
        have Cd := HCb.out.st II.fr (fun i hi h => by have h' : i = g8 := h; omega)
        have hll : l.length = R.length := by
          have h1 := HP.out.length_eq
          rw [List.length_map] at h1 hlR
          omega
        have hDd : Wd.heap[D]? = some (.deferred (some [])) := (II.fr.block D (Array.getElem?_eq_some_iff.1 HDb.out).1 (fun h => hDg h)).trans HDb.out
        have hD2b : Wb.heap.size ≤ D2 := hDge
        have hD12 : D2 ≠ D := by
          have := (Array.getElem?_eq_some_iff.1 HDb.out).1
          omega
        have HLEN := hide (fun W' (f : Fr No Wd W') => Len_any W' lo W'.heap.size tb M O l came ((Cd.tab.no f (Nat.le_refl _)).more (Nat.le_refl _) f.size))
        rw [hll] at HLEN
        have i0 := nd.cell 0
        have t0 := Cd.b4.cell 0
        have s0 := Cd.dt.blk.cell 0
        have r0 := Cd.b6.cell 0
        have rf := Cd.b6.frozen 0
        simp only [List.getElem?_toArray, List.getElem?_cons_zero] at i0 t0 s0 r0
        have z1 := nd.lt
        have z3 := Cd.b4.lt
        have z4 := Cd.dt.blk.lt
        have z6 := Cd.b6.lt
        have HCd := hide Cd
        have HDD := hide hDd
        have HDK := hide hDK
        subst ha0
        clear Cd nd II FM hsub hDge hDd hDK
        have hL1 : Calls Try.prog 28 #[.pointer (some ⟨tb, 0, none⟩)] Wd.drew fun e w' => e = .returned (.int .i64 (R.length : Int)) ∧ Fr No Wd.drew w' := (HLEN.out Wd.drew (Fr.refl No Wd).drew).mono fun e w' ⟨h1, h2⟩ => ⟨h1, by rw [h2]; exact Fr.refl No _⟩
        have HL1 := hide hL1
        clear hL1 HLEN HIT
        have HB6 := hide ((HCd.out.b6).drew)
        have hn8 : ¬ g8 = w.heap.size + 1 + 1 := by omega
        have hn4 : ¬ w.heap.size = w.heap.size + 1 + 1 := by omega
        have hnr : ¬ rb = w.heap.size + 1 + 1 := fun h => by have := HCd.out.dl rb (.inl rfl); omega
        go_wp2_with fail
        go_region_held3 (fun w' => ∀ c i, c < Wd.heap.size → ¬ c = w.heap.size + 1 + 1 → w'.cell? ⟨c, i, none⟩ = Wd.drew.cell? ⟨c, i, none⟩)
          (first | (intro c i hc hn; first | with_reducible rfl | with_reducible exact Fr.dcells ‹_› c i hc | with_reducible exact set1c _ _ _ c i _ ‹_› hc hn))
          (first | (go_at_call 28; ((with_reducible refine HL1.out.mono ?_); rintro e w3 ⟨rfl, fr1⟩; have b61 := Blk.fr HB6.out fr1 (fun h => h); have r1 := b61.cell 0; have rf1 := b61.frozen 0; simp only [List.getElem?_toArray, List.getElem?_cons_zero] at r1; have z61 := b61.lt)))
        go_wp2_with fail
        have fr3 : Fr No Wd w3 := ((Fr.refl No Wd).drew).trans fr1
        have e1' : w3.heap[D2]? = some (.deferred (some [])) := (fr3.block D2 (Array.getElem?_eq_some_iff.1 HDK.out).1 (fun h => h)).trans HDK.out
        have e0' : w3.heap[D]? = some (.deferred (some [])) := (fr3.block D (Array.getElem?_eq_some_iff.1 HDD.out).1 (fun h => h)).trans HDD.out
        have hRne : ∀ (D : Nat), w3.heap[D]? = some (.deferred (some [])) → D ≠ w.heap.size + 1 + 1 := by
          rintro D h1 rfl
          have := b61
          unfold Blk at this
          rw [this] at h1
          cases h1
        have e1 := (Below.heap_setCell w3 ⟨w.heap.size + 1 + 1, 0, none⟩ (.bool true) _ (hRne _ e1')).trans e1'
        have e0 := (Below.heap_setCell w3 ⟨w.heap.size + 1 + 1, 0, none⟩ (.bool true) _ (hRne _ e0')).trans e0'
        have hn1 := hRne _ e1'
        have hn0 := hRne _ e0'
        have hbF := b61.set_ 0 (.bool true)
        have frG : Fr No w (w3.setCell ⟨w.heap.size + 1 + 1, 0, none⟩ (.bool true)) := (HCd.out.fr.trans fr3).setNew (by simp; omega) _
        have hD2w : w.heap.size ≤ D2 := by
          have h1 := (Array.getElem?_eq_some_iff.1 HDb.out).1
          have h2 := HCb.out.fr.size
          have h3 := hD2b
          omega
        generalize World.setCell w3 _ _ = wY at *
        have e0'' : (wY.putObj D2 (.deferred none)).heap[D]? = some (.deferred (some [])) := (World.putObj_heap_other (Ne.symm hD12)).trans e0
        have hbG : Blk ((wY.putObj D2 (.deferred none)).putObj D (.deferred none)) (w.heap.size + 1 + 1) 4 #[.bool true] := by
          unfold Blk at hbF ⊢
          rw [World.putObj_heap_other (Ne.symm (hn0)), World.putObj_heap_other (Ne.symm (hn1))]
          simpa using hbF
        refine ⟨by simp, .inl ⟨_, _, rfl, run_takeDeferred e1, ⟨by simp, .inl ⟨_, _, rfl, run_takeDeferred e0'', ?_⟩⟩⟩⟩
        have r2 := hbG.cell 0
        simp only [List.getElem?_toArray, List.getElem?_cons_zero] at r2
        refine ⟨.bool true, by simp [results, Try.results34, go_sem, r2], rfl, ?_⟩
        exact (frG.trans' (fr_putObj wY D2 _) (fun i hi h => by have h' : i = D2 := h; omega)).trans' (fr_putObj _ D _) (fun i hi h => by have h' : i = D := h; omega)

end Go.Proofs.Ytihjmipmjogpoaa

/- BrandTables: an argument that is a row of steps. -/
namespace Go.Proofs.Ytihjmipmjogpoaa
open Go.Joins Go.ChangeShapes Go.WideShapes Go.RowKit Go.Deep

/-- A step: which call, on which table, left behind how many, the key, the value. -/
structure Stp where
  how : Int
  on : Int
  leave : Int
  k : T
  v : T

/-- Its cells. -/
def Stp.cells (s : Stp) : List Value := [.int .i64 s.how, .int .i64 s.on, .int .i64 s.leave] ++ (s.k.cells ++ s.v.cells)

/-- A step as the program handles it. -/
def Stp.val (s : Stp) : Value := .agg s.cells.toArray

theorem Stp.cells_length (s : Stp) : s.cells.length = 13 := by simp [Stp.cells, T.cells_length]

/-- Whole numbers of 64 bits. -/
def I64 (n : Int) : Prop := -9223372036854775808 ≤ n ∧ n ≤ 9223372036854775807

/-- A row of steps lies in the blocks below hi. -/
structure Stps (w : World) (hi : Nat) (A : Option Addr) (cap : Nat) (l : List Stp) : Prop where
  cap : l.length ≤ cap
  len : l.length ≤ 140737488351232
  at_ : l ≠ [] → ∃ b o, A = some ⟨b, o, none⟩ ∧ b < hi ∧ ∀ i x, l[i]? = some x → ∀ j u, x.cells[j]? = some u → w.cell? ⟨b, o + i * 13 + j, none⟩ = some u
  ok : ∀ x ∈ l, I64 x.how ∧ I64 x.on ∧ I64 x.leave ∧ x.k.In w 0 hi ∧ x.v.In w 0 hi

theorem cells58 : Try.prog.cellsOf 58 = 13 := by kernel_rfl
theorem bytes58 : Try.prog.bytesOf 58 = 152 := by kernel_rfl

section
variable {H : Type} {enc : TypeId × Value → H}

theorem weights58 (ds : List (DataW H)) : (DataW.agg ds).weights Try.prog 58 = DataW.weightsEach Try.prog [3, 3, 3, 27, 27] ds := by
  rw [DataW.weights, Try.underlying58]; rfl

set_option maxRecDepth 100000 in
set_option maxHeartbeats 2000000 in
theorem open_step (W : World) (fuel : Nat) (cs : List Value) (x : DataW H × List MemPlace) (h : DataW.trod enc Try.prog W 0 (fun _ => true) true fuel 58 cs = some x) (hw : ∀ m ∈ x.1.weights Try.prog 58, m ≤ reachBytes) :
    ∃ s : Stp, cs = s.cells ∧ I64 s.how ∧ I64 s.on ∧ I64 s.leave ∧ s.k.In W 0 W.heap.size ∧ s.v.In W 0 W.heap.size := by
  obtain ⟨xs, n, rfl, rfl, hlen, hxs, hg⟩ := DataW.trod_struct Try.underlying58 h
  rw [cells58] at hlen
  match cs, hlen, xs, hxs with
  | [c0, c1, c2, c3, c4, c5, c6, c7, c8, c9, c10, c11, c12], _, [y0, y1, y2, y3, y4], _ =>
    have g0 : DataW.trod enc Try.prog W 0 (fun _ => true) true n 3 [c0] = some y0 := hg 0 _ rfl
    have g1 : DataW.trod enc Try.prog W 0 (fun _ => true) true n 3 [c1] = some y1 := hg 1 _ rfl
    have g2 : DataW.trod enc Try.prog W 0 (fun _ => true) true n 3 [c2] = some y2 := hg 2 _ rfl
    have g3 : DataW.trod enc Try.prog W 0 (fun _ => true) true n 27 [c3, c4, c5, c6, c7] = some y3 := hg 3 _ rfl
    have g4 : DataW.trod enc Try.prog W 0 (fun _ => true) true n 27 [c8, c9, c10, c11, c12] = some y4 := hg 4 _ rfl
    obtain ⟨a0, e0, rfl, w0⟩ := DataW.trod_int Try.underlying3 g0
    obtain ⟨a1, e1, rfl, w1⟩ := DataW.trod_int Try.underlying3 g1
    obtain ⟨a2, e2, rfl, w2⟩ := DataW.trod_int Try.underlying3 g2
    simp only [List.cons.injEq, and_true] at e0 e1 e2
    subst e0 e1 e2
    simp only [List.map_cons, List.map_nil] at hw
    rw [weights58] at hw
    simp only [DataW.weightsEach] at hw
    obtain ⟨t3, ht3, in3⟩ := open_tree W n _ _ g3 fun m hm => hw m (by simp only [List.mem_append]; exact .inr (.inr (.inr (.inl hm))))
    obtain ⟨t4, ht4, in4⟩ := open_tree W n _ _ g4 fun m hm => hw m (by simp only [List.mem_append]; exact .inr (.inr (.inr (.inr (.inl hm)))))
    refine ⟨⟨a0, a1, a2, t3, t4⟩, ?_, wf_i64 w0, wf_i64 w1, wf_i64 w2, in3, in4⟩
    unfold Stp.cells
    rw [← ht3, ← ht4]
    rfl

theorem weights50 (es rs : List (DataW H)) : (DataW.slice es rs).weights Try.prog 50 = (es.length + rs.length) * 152 :: (DataW.weightsAll Try.prog 58 es ++ DataW.weightsAll Try.prog 58 rs) := by
  rw [DataW.weights, Try.underlying50]; simp only [bytes58]

set_option maxRecDepth 100000 in
/-- An argument of the type []Step. -/
theorem open_steps {W : World} {b0 : Nat} {v : Value} {d : DataW H} {p : List MemPlace} (hv : Value.okWide Try.prog W .any b0 50 v) (h : DataW.Trod enc Try.prog W 0 (fun _ => true) true 50 v d p) (hw : ∀ m ∈ d.weights Try.prog 50, m ≤ reachBytes) :
    ∃ A cap l, v = .slice A l.length cap ∧ Stps W W.heap.size A cap l := by
  obtain ⟨A, len, cap, rfl⟩ := okWide_slice Try.underlying50 hv
  obtain ⟨fuel, hf⟩ := h
  have hcs : Value.cells (.slice A len cap) = #[.slice A len cap] := rfl
  rw [hcs] at hf
  rcases DataW.trod_slice Try.underlying50 hf with ⟨e3, -⟩ | ⟨a, len', cap', elems, rest, n', rfl, e3, e5, -, hcap, hmax, hel, hat, hsp, -⟩
  · simp at e3
    obtain ⟨rfl, rfl, rfl⟩ := e3
    exact ⟨none, 0, [], rfl, Nat.le_refl _, by simp, fun h => absurd rfl h, by simp⟩
  · simp at e3
    obtain ⟨rfl, rfl, rfl⟩ := e3
    simp only [Prod.mk.injEq] at e5
    obtain ⟨rfl, -⟩ := e5
    have hlen1 : len ≤ 140737488351232 := by
      have := hw ((elems.length + rest.length) * 152) (by rw [weights50]; simp)
      rw [reach_eq, hel] at this
      omega
    rw [cells58] at hat
    have hone : ∀ i, i < len → ∃ t : Stp, (∀ j u, t.cells[j]? = some u → W.cell? ((a.add (i * 13)).add j) = some u) ∧ I64 t.how ∧ I64 t.on ∧ I64 t.leave ∧ t.k.In W 0 W.heap.size ∧ t.v.In W 0 W.heap.size := by
      intro i hi
      have h1 := hat i hi
      have h2 : elems[i]? = some (elems[i]'(by omega)) := List.getElem?_eq_getElem (by omega)
      rw [h2] at h1
      obtain ⟨cs', hc, ht'⟩ := Option.bind_eq_some_iff.1 h1
      obtain ⟨t, rfl, hin⟩ := open_step W n' cs' _ ht' (fun m hm => hw m (by
        rw [weights50]
        refine List.mem_cons_of_mem _ (List.mem_append_left _ ?_)
        exact mem_weightsAll (List.mem_map_of_mem (List.getElem_mem _)) hm))
      obtain ⟨-, hcl, hcell⟩ := World.cells?_some hc
      refine ⟨t, fun j u hu => ?_, hin⟩
      have hj : j < 13 := by
        rcases Nat.lt_or_ge j 13 with h | h
        · exact h
        · rw [List.getElem?_eq_none (by rw [Stp.cells_length]; exact h)] at hu; cases hu
      rw [hcell j hj, hu]
    obtain ⟨l, hl, hq⟩ := choose_list len hone
    subst hl
    obtain ⟨b, o, sp⟩ := a
    refine ⟨some ⟨b, o, sp⟩, cap, l, rfl, hcap, hlen1, fun hne => ?_, fun x hx => ?_⟩
    · have hlp : 0 < l.length := List.length_pos_iff.2 hne
      obtain ⟨hc0, -⟩ := hq 0 _ (List.getElem?_eq_getElem hlp)
      have hcc := hc0 0 _ (List.getElem?_eq_getElem (by rw [Stp.cells_length]; omega))
      have hspot : sp = none := by simpa [Addr.add] using World.cell?_spot hcc
      subst hspot
      have hlt := cell_lt hcc
      refine ⟨b, o, rfl, by simpa [Addr.add] using hlt, fun i x hx j u hu => ?_⟩
      have := (hq i x hx).1 j u hu
      rw [add_at, add_at] at this
      exact this
    · obtain ⟨i, hi, rfl⟩ := List.mem_iff_getElem.1 hx
      exact (hq i _ (List.getElem?_eq_getElem hi)).2
end

end Go.Proofs.Ytihjmipmjogpoaa

/- A table that is not there, and one that no call made. -/
namespace Go.Proofs.Ytihjmipmjogpoaa
open Go.RowKit

/-- A pointer to no table, or to one that no call made. -/
def NoTab (w : World) (p : Option Addr) : Prop := p = none ∨ ∃ g, p = some ⟨g, 0, none⟩ ∧ Blk w g 66 #[.map none, .map none, .int .i64 0]

theorem NoTab.fr {w w' : World} {p : Option Addr} (h : NoTab w p) (f : Fr No w w') : NoTab w' p := by
  rcases h with h | ⟨g, h, b⟩
  · exact .inl h
  · exact .inr ⟨g, h, b.fr f fun h => h⟩

theorem map_eql_nil (w : World) : (binOp .eql 63 (.map none) (.map none)).run Try.prog w = .ok (.bool true) w := by
  have h := run_eql_map_nil (P := Try.prog) w 63 _ _ none Try.underlying63
  simpa using h

theorem none_no (p : Option Addr) (w : World) (h : NoTab w p) : Calls Try.prog 90 #[.pointer p] w fun e w' => e = .returned (.bool true) ∧ w' = w := by
  rcases h with rfl | ⟨g, rfl, b⟩
  · go_enter Try.func90, Try.ntmps90
    go_wp2
    go_ret
    exact ⟨rfl, rfl⟩
  · have c0 := b.cell 0
    simp only [List.getElem?_toArray, List.getElem?_cons_zero] at c0
    have hq := map_eql_nil
    clear b
    go_enter Try.func90, Try.ntmps90
    go_wp2
    go_ret
    exact ⟨rfl, rfl⟩

theorem find_no (p : Option Addr) (a : Value) (h0 : ∃ k n s A l c r, a = .agg #[.int .u8 k, .int .i64 n, .string s, .slice A l c, .int .i64 r]) (w : World) (h : NoTab w p) : Calls Try.prog 91 #[.pointer p, a] w fun e w' => e = .returned (.tuple #[.nilIface, .int .i64 1]) ∧ Fr No w w' := by
  obtain ⟨k, n, s, A, l, c, r, rfl⟩ := h0
  have fr := (Fr.refl No w).alloc (.cells #[.int .u8 k, .int .i64 n, .string s, .slice A l c, .int .i64 r] 27)
  have hN := none_no p _ (h.fr fr)
  go_enter Try.func91, Try.ntmps91
  go_wp2_with fail
  refine hN.mono ?_
  rintro e w' ⟨rfl, rfl⟩
  go_wp2
  go_ret2
  exact ⟨rfl, fr⟩

theorem Len_no (p : Option Addr) (w : World) (h : NoTab w p) : Calls Try.prog 28 #[.pointer p] w fun e w' => e = .returned (.int .i64 0) ∧ w' = w := by
  have hN := none_no p w h
  go_enter Try.func28, Try.ntmps28
  go_wp2_with fail
  refine hN.mono ?_
  rintro e w' ⟨rfl, rfl⟩
  go_wp2
  go_ret
  exact ⟨rfl, rfl⟩

theorem Copy_no (p : Option Addr) (w : World) (h : NoTab w p) : Calls Try.prog 31 #[.pointer p] w fun e w' => e = .returned (.pointer none) ∧ w' = w := by
  have hN := none_no p w h
  go_enter Try.func31, Try.ntmps31
  go_wp2_with fail
  refine hN.mono ?_
  rintro e w' ⟨rfl, rfl⟩
  go_wp2
  go_ret
  exact ⟨rfl, rfl⟩

theorem All_val (p : Option Addr) (w : World) : Calls Try.prog 36 #[.pointer p] w fun e w' => e = .returned (.func (.func 100) #[] #[.pointer (some ⟨w.heap.size, 0, none⟩)]) ∧ Blk w' w.heap.size 39 #[.pointer p] ∧ Fr No w w' := by
  go_enter Try.func36, Try.ntmps36
  go_wp2
  go_ret
  exact ⟨rfl, Blk.new _ _ _, (Fr.refl No w).alloc _⟩

theorem Put_no (p : Option Addr) (a b : Value) (h0 : ∃ k n s A l c r, a = .agg #[.int .u8 k, .int .i64 n, .string s, .slice A l c, .int .i64 r]) (h1 : ∃ k n s A l c r, b = .agg #[.int .u8 k, .int .i64 n, .string s, .slice A l c, .int .i64 r]) (w : World) (h : NoTab w p) :
    Calls Try.prog 26 #[.pointer p, a, b] w fun e w' => e = .returned (tripZ 1) ∧ Fr No w w' := by
  obtain ⟨k, n, s, A, l, c, r, rfl⟩ := h0
  obtain ⟨k', n', s', A', l', c', r', rfl⟩ := h1
  have hW : Fr No w (((w.alloc (.cells #[.int .u8 k, .int .i64 n, .string s, .slice A l c, .int .i64 r] 27)).alloc (.cells #[.int .u8 k', .int .i64 n', .string s', .slice A' l' c', .int .i64 r'] 27)).alloc
      (.cells #[.int .u8 0, .int .i64 0, .string ⟨#[]⟩, .slice none 0 0, .int .i64 0] 27)) := (((Fr.refl No w).alloc _).alloc _).alloc _
  have hN := none_no p _ (h.fr hW)
  go_enter Try.func26, Try.ntmps26
  go_wp2_with fail
  refine hN.mono ?_
  rintro e w' ⟨rfl, rfl⟩
  clear hN
  go_wp2
  refine bodyPost_ret (v := tripZ 1) (by simp [results, Try.results26, go_sem, tripZ, *]) rfl ?_
  refine ⟨rfl, ?_⟩
  repeat (first | with_reducible exact hW | with_reducible refine Fr.setNew ?_ (by first | (simp; done) | (simp; omega)) _)

theorem Get_no (p : Option Addr) (a : Value) (h0 : ∃ k n s A l c r, a = .agg #[.int .u8 k, .int .i64 n, .string s, .slice A l c, .int .i64 r]) (w : World) (h : NoTab w p) :
    Calls Try.prog 30 #[.pointer p, a] w fun e w' => e = .returned (tripZ 1) ∧ Fr No w w' := by
  have h1 := h0
  obtain ⟨k, n, s, A, l, c, r, rfl⟩ := h0
  have hW : Fr No w ((w.alloc (.cells #[.int .u8 k, .int .i64 n, .string s, .slice A l c, .int .i64 r] 27)).alloc (.cells #[.int .u8 0, .int .i64 0, .string ⟨#[]⟩, .slice none 0 0, .int .i64 0] 27)) := ((Fr.refl No w).alloc _).alloc _
  have hZ : Blk ((w.alloc (.cells #[.int .u8 k, .int .i64 n, .string s, .slice A l c, .int .i64 r] 27)).alloc (.cells #[.int .u8 0, .int .i64 0, .string ⟨#[]⟩, .slice none 0 0, .int .i64 0] 27)) (w.heap.size + 1) 27 #[.int .u8 0, .int .i64 0, .string ⟨#[]⟩, .slice none 0 0, .int .i64 0] := Blk.new' (w.alloc _) 27 _ (by simp)
  have hF := find_no p _ h1 _ (h.fr hW)
  clear h1 h
  go_enter Try.func30, Try.ntmps30
  go_wp2_with fail
  generalize World.alloc _ (.cells #[.int .u8 0, .int .i64 0, .string ⟨#[]⟩, .slice none 0 0, .int .i64 0] 27) = W0 at *
  refine hF.mono ?_
  rintro e w4 ⟨rfl, fr4⟩
  have hZ4 := hZ.fr fr4 (fun h => h)
  obtain ⟨d0, d1, d2, d3, d4, df⟩ := hZ4.cells5
  have hF2 := hide (hW.trans fr4)
  have q0 := hZ4.lt
  clear hZ hZ4 hF hW fr4
  go_wp2
  refine bodyPost_ret (v := tripZ 1) (by simp [results, Try.results30, go_sem, tripZ, *]) rfl ?_
  refine ⟨rfl, ?_⟩
  have hF2' := hF2.out
  repeat (first | with_reducible exact hF2' | with_reducible refine Fr.setNew ?_ (by first | (simp; done) | (simp; omega)) _)

theorem Drop_no (p : Option Addr) (a : Value) (h0 : ∃ k n s A l c r, a = .agg #[.int .u8 k, .int .i64 n, .string s, .slice A l c, .int .i64 r]) (w : World) (h : NoTab w p) :
    Calls Try.prog 35 #[.pointer p, a] w fun e w' => e = .returned (.tuple #[.bool false, .int .i64 1]) ∧ Fr No w w' := by
  have h1 := h0
  obtain ⟨k, n, s, A, l, c, r, rfl⟩ := h0
  have hW := (Fr.refl No w).alloc (.cells #[.int .u8 k, .int .i64 n, .string s, .slice A l c, .int .i64 r] 27)
  have hF := find_no p _ h1 _ (h.fr hW)
  clear h1 h
  go_enter Try.func35, Try.ntmps35
  go_wp2_with fail
  refine hF.mono ?_
  rintro e w4 ⟨rfl, fr4⟩
  go_wp2
  go_ret2
  exact ⟨rfl, hW.trans fr4⟩

/-- The walk of what is not there: no round. -/
theorem All1_no (y : Value) (hy : ∃ l, y = .func (.yield l) #[] #[]) (p : Option Addr) (g : Nat) (w : World) (h : NoTab w p) (hb : Blk w g 39 #[.pointer p]) :
    Calls Try.prog 100 #[y, .pointer (some ⟨g, 0, none⟩)] w fun e w' => (∃ v, e = .returned v) ∧ w' = w := by
  obtain ⟨l, rfl⟩ := hy
  have hC := Copy_no p w h
  have c0 := hb.cell 0
  simp only [List.getElem?_toArray, List.getElem?_cons_zero] at c0
  clear hb h
  go_enter Try.func100, Try.ntmps100
  go_wp2_with fail
  refine hC.mono ?_
  rintro e w' ⟨rfl, rfl⟩
  go_wp2
  refine bodyPost_ret (results_none rfl _ _ _) rfl ?_
  exact ⟨⟨_, rfl⟩, rfl⟩

end Go.Proofs.Ytihjmipmjogpoaa

/- A range over a function that calls no round. -/
namespace Go.Proofs.Ytihjmipmjogpoaa
open Go.RowKit

theorem wp_rangeFunc_none {P : Program} {g : Operand} {ps : Array Tmp} {assign body : Code} {Q : Exit → Act → World → Prop} {a : Act} {w : World} {gf : Nat} {lb : Array Value} (hg : a.eval g = .func (.func gf) #[] lb)
    (eg : ∀ args w, (callFunc gf args).run P w = .ok (.enter gf args) w)
    (hcall : ∀ (l : Nat) (W1 : World), Below w.heap.size w W1 → Calls P gf (#[.func (.yield l) #[] #[]] ++ lb) W1 fun e W2 => (∃ v, e = .returned v) ∧ W2 = W1)
    (hQ : ∀ (D : Nat) (W : World), Below w.heap.size w W → W.heap[D]? = some (.deferred (some [])) → w.heap.size ≤ D → Q .normal { a with defers := { target := .collected D, args := #[] } :: a.defers } W) :
    (Code.rangeFunc g ps assign body).wp P Q a w := by
  refine (wpIn_wide (n := 3)).1 ?_
  refine wpIn_rangeFunc ?_
  intro fn hfn
  obtain ⟨rec, hrec⟩ : ∃ rec : LoopState → Option Code → Loop, rec = fun st pe => { state := st, pending := pe, fn, tmps := a.tmps, params := ps, assign, body, defers := w.heap.size } := ⟨_, rfl⟩
  obtain ⟨W1, hW1⟩ : ∃ W1, (w.alloc (.deferred (some []))).alloc (.loop (rec .ready none)) = W1 := ⟨_, rfl⟩
  have hL1 : W1.heap[w.heap.size + 1]? = some (.loop (rec .ready none)) := by
    rw [← hW1]; have := World.alloc_heap_new (w.alloc (.deferred (some []))) (.loop (rec .ready none)); rwa [World.size_alloc] at this
  have hK1 : W1.heap[w.heap.size]? = some (.deferred (some [])) := by
    rw [← hW1]; exact (Below.heap_alloc _ _ _ (by simp)).trans (World.alloc_heap_new w _)
  have hb1 : Below w.heap.size w W1 := by
    rw [← hW1]; exact (((Below.refl _ w).alloc (Nat.le_refl _) _).alloc (by simp) _)
  refine ⟨w.heap.size + 1, [{ target := .collected w.heap.size, args := #[] }], W1, { target := .fn (.func gf) lb, args := #[.func (.yield (w.heap.size + 1)) #[] #[]] }, W1, gf,
    #[.func (.yield (w.heap.size + 1)) #[] #[]] ++ lb, W1, ?_, ?_, ?_, ?_, (fun h => by cases h), ?_⟩
  · rw [← hW1, hrec]; exact run_enterLoop_outer _ _ _ _ _
  · simp only [resolve, hg]
    simp [go_sem]
  · intro f' _; trivial
  · simp [invoke, go_sem, eg]
  · refine (callsIn_wide.2 (hcall _ W1 hb1)).mono ?_
    rintro e W2 ⟨⟨v, rfl⟩, rfl⟩
    refine ⟨none, _, by have := run_endLoop (P := P) hL1 (by rw [hrec]; simp); rw [hrec] at this; exact this, ?_⟩
    refine hQ _ _ ?_ ?_ (Nat.le_refl _)
    · exact hb1.grown (grownBy_putObj' _ _ _) (Nat.le_trans (Nat.le_refl _) hb1.size) (fun k e => by cases e; omega)
    · exact (World.putObj_heap_other (by omega)).trans hK1

end Go.Proofs.Ytihjmipmjogpoaa

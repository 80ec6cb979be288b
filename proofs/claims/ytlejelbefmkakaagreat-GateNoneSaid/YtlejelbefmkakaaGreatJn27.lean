/- Texts joined: No12. -/
import Derived.Test.YtlejelbefmkakaaGreatJn26
import Derived.BigQuiet
import Derived.Deep.Cut
/- posternlaw12.GateNone: a world that is not there. -/
namespace Go.Proofs.YtlejelbefmkakaaGreat
open Go.RowKit

/-- What the loop goes over. -/
structure NG (W : World) (gE gl : Nat) (k n : Int) (s : ByteArray) (A : Option Addr) (len cap : Nat) (r : Int) (w : World) : Prop where
  fr : Fr No W w
  bv : Blk w W.heap.size 28 #[.int .u8 k, .int .i64 n, .string s, .slice A len cap, .int .i64 r]
  bE : Blk w gE 38 #[.slice none 0 0, .slice none 0 0, .map none, .map none, .int .i64 0, .slice none 0 0]
  bl : Blk w gl 39 #[.pointer none, .pointer (some ⟨gE, 0, none⟩)]

theorem NG.no {W : World} {gE gl : Nat} {k n : Int} {s : ByteArray} {A : Option Addr} {len cap : Nat} {r : Int} {w w' : World} (h : NG W gE gl k n s A len cap r w) (f : Fr No w w') : NG W gE gl k n s A len cap r w' :=
  ⟨h.fr.trans f, h.bv.fr f fun h => h, h.bE.fr f fun h => h, h.bl.fr f fun h => h⟩

set_option maxRecDepth 100000 in
set_option maxHeartbeats 16000000 in
theorem gateNone_w (a home ab : Int) (t : T) (AL : Option Addr) (nl cl : Nat) (W : World) (ht : t.In W 0 W.heap.size) :
    Calls Tryz.prog 4 #[.int .i64 a, .int .i64 home, .int .u8 ab, t.val, .slice AL nl cl] W fun e w' => e = .returned (.bool true) ∧ Fr No W w' := by
  obtain ⟨k, n, s, A, cap, l, r⟩ := t
  have HG := hide (fun W' (f : Fr No W W') => Great_any (T.mk k n s A cap l r) W' 0 W.heap.size (ht.no f (Nat.le_refl _)) f.size)
  rw [T.val_mk] at HG ⊢
  generalize l.length = len at *
  have HAW := hide awake12
  have hb0 := Blk.new W 28 #[.int .u8 k, .int .i64 n, .string s, .slice A len cap, .int .i64 r]
  have hf0 := (Fr.refl No W).alloc (.cells #[.int .u8 k, .int .i64 n, .string s, .slice A len cap, .int .i64 r] 28)
  have HB0 := hide hb0
  have HF0 := hide hf0
  obtain ⟨e0, e1, e2, e3, e4, ef⟩ := hb0.cells5
  have eq_ := hb0.lt
  clear hb0 hf0 ht
  go_enter Tryz.func4, Tryz.ntmps4
  go_wp2_with fail
  generalize World.alloc W _ = W0 at *
  refine (HG.out W0 HF0.out).mono ?_
  rintro e w1 ⟨⟨q, rfl⟩, f1⟩
  have HF1 := hide (HF0.out.trans f1)
  have HB1 := hide (HB0.out.fr f1 fun h => h)
  clear f1 e0 e1 e2 e3 e4 ef eq_ HG HF0 HB0
  cases q with
  | true =>
    go_wp2_with fail
    refine (HAW.out w1).mono ?_
    rintro e w2 ⟨rfl, f2⟩
    have HF2 := hide (HF1.out.trans f2)
    clear f2
    go_wp2
    go_ret
    exact ⟨rfl, HF2.out⟩
  | false =>
    by_cases h3 : 300 < (nl : Int)
    · have hd : decide (300 < (nl : Int)) = true := by simpa using h3
      clear h3
      go_wp2_with fail
      refine (HAW.out w1).mono ?_
      rintro e w2 ⟨rfl, f2⟩
      have HF2 := hide (HF1.out.trans f2)
      clear f2
      go_wp2
      go_ret
      exact ⟨rfl, HF2.out⟩
    have hd : decide (300 < (nl : Int)) = false := by simpa using h3
    clear h3
    go_upto_region 4 with (fail)
    have HNL : Hid (NG W w1.heap.size (w1.heap.size + 1) k n s A len cap r ((w1.alloc (.cells #[.slice none 0 0, .slice none 0 0, .map none, .map none, .int .i64 0, .slice none 0 0] 38)).alloc (.cells #[.pointer none, .pointer (some ⟨w1.heap.size, 0, none⟩)] 39))) := hide
      ⟨(HF1.out.alloc _).alloc _, (HB1.out.alloc _).alloc _, (Blk.new w1 _ _).alloc _, Blk.new' (w1.alloc _) _ _ (by simp)⟩
    clear HF1 HB1
    generalize w1.heap.size = gE at *
    generalize hgl : gE + 1 = gl at *
    generalize World.alloc (World.alloc w1 _) _ = w2 at *
    go_wp2_with fail
    refine wp_loop_rounds 3 ?_
    rw [rounds_succ]
    obtain ⟨e0, e1, e2, e3, e4, ef⟩ := HNL.out.bv.cells5
    have eq_ := HNL.out.bv.lt
    have l0 : w2.cell? ⟨gl, 0, none⟩ = some (.pointer none) := HNL.out.bl.cell 0
    have l1 : w2.cell? ⟨gl, 1, none⟩ = some (.pointer (some ⟨gE, 0, none⟩)) := HNL.out.bl.cell 1
    have lq := HNL.out.bl.lt
    go_wp2_with fail
    refine ((GNew_no (show NoW w2 none from (.inl rfl)) home a).mono (fun e w' h => (⟨h.1, by rw [h.2]; exact Fr.refl No _⟩ : _ ∧ Fr No w2 w'))).mono ?_
    rintro e w3 ⟨rfl, ff⟩
    replace HNL := hide (HNL.out.no ff)
    clear ff e0 e1 e2 e3 e4 ef eq_ l0 l1 lq
    obtain ⟨e0, e1, e2, e3, e4, ef⟩ := HNL.out.bv.cells5
    have eq_ := HNL.out.bv.lt
    have l0 : w3.cell? ⟨gl, 0, none⟩ = some (.pointer none) := HNL.out.bl.cell 0
    have l1 : w3.cell? ⟨gl, 1, none⟩ = some (.pointer (some ⟨gE, 0, none⟩)) := HNL.out.bl.cell 1
    have lq := HNL.out.bl.lt
    go_wp2_with fail
    refine ((GIsCut_no (show NoW w3 none from (.inl rfl)) a).mono (fun e w' h => (⟨h.1, by rw [h.2]; exact Fr.refl No _⟩ : _ ∧ Fr No w3 w'))).mono ?_
    rintro e w4 ⟨rfl, ff⟩
    replace HNL := hide (HNL.out.no ff)
    clear ff e0 e1 e2 e3 e4 ef eq_ l0 l1 lq
    obtain ⟨e0, e1, e2, e3, e4, ef⟩ := HNL.out.bv.cells5
    have eq_ := HNL.out.bv.lt
    have l0 : w4.cell? ⟨gl, 0, none⟩ = some (.pointer none) := HNL.out.bl.cell 0
    have l1 : w4.cell? ⟨gl, 1, none⟩ = some (.pointer (some ⟨gE, 0, none⟩)) := HNL.out.bl.cell 1
    have lq := HNL.out.bl.lt
    go_wp2_with fail
    refine (GDo_no (show NoW w4 none from (.inl rfl)) a ab k n s A len cap r).mono ?_
    rintro e w5 ⟨rfl, ff⟩
    replace HNL := hide (HNL.out.no ff)
    clear ff e0 e1 e2 e3 e4 ef eq_ l0 l1 lq
    obtain ⟨e0, e1, e2, e3, e4, ef⟩ := HNL.out.bv.cells5
    have eq_ := HNL.out.bv.lt
    have l0 : w5.cell? ⟨gl, 0, none⟩ = some (.pointer none) := HNL.out.bl.cell 0
    have l1 : w5.cell? ⟨gl, 1, none⟩ = some (.pointer (some ⟨gE, 0, none⟩)) := HNL.out.bl.cell 1
    have lq := HNL.out.bl.lt
    go_upto_region 11 with (fail)
    have ff := (Fr.refl No w5).alloc (.cells #[.int .u8 0, .int .i64 0, .string ⟨#[]⟩, .slice none 0 0, .int .i64 0] 28)
    replace HNL := hide (HNL.out.no ff)
    have HBy0 := hide (Blk.new w5 28 #[.int .u8 0, .int .i64 0, .string ⟨#[]⟩, .slice none 0 0, .int .i64 0])
    clear ff e0 e1 e2 e3 e4 ef eq_ l0 l1 lq
    generalize hgy0 : w5.heap.size = gy0 at *
    generalize World.alloc w5 _ = w6 at *
    obtain ⟨e0, e1, e2, e3, e4, ef⟩ := HNL.out.bv.cells5
    have eq_ := HNL.out.bv.lt
    have l0 : w6.cell? ⟨gl, 0, none⟩ = some (.pointer none) := HNL.out.bl.cell 0
    have l1 : w6.cell? ⟨gl, 1, none⟩ = some (.pointer (some ⟨gE, 0, none⟩)) := HNL.out.bl.cell 1
    have lq := HNL.out.bl.lt
    go_wp2_with fail
    refine ((GOf_no (show NoW w6 none from (.inl rfl)) a).mono (fun e w' h => (⟨h.1, by rw [h.2]; exact Fr.refl No _⟩ : _ ∧ Fr No w6 w'))).mono ?_
    rintro e w7 ⟨rfl, ff⟩
    replace HNL := hide (HNL.out.no ff)
    replace HBy0 := hide (HBy0.out.fr ff fun h => h)
    clear ff e0 e1 e2 e3 e4 ef eq_ l0 l1 lq
    obtain ⟨e0, e1, e2, e3, e4, ef⟩ := HNL.out.bv.cells5
    have eq_ := HNL.out.bv.lt
    have l0 : w7.cell? ⟨gl, 0, none⟩ = some (.pointer none) := HNL.out.bl.cell 0
    have l1 : w7.cell? ⟨gl, 1, none⟩ = some (.pointer (some ⟨gE, 0, none⟩)) := HNL.out.bl.cell 1
    have lq := HNL.out.bl.lt
    go_wp2_with fail
    refine ((GGates_no (show NoW w7 none from (.inl rfl)) a).mono (fun e w' h => (⟨h.1, by rw [h.2]; exact Fr.refl No _⟩ : _ ∧ Fr No w7 w'))).mono ?_
    rintro e w8 ⟨rfl, ff⟩
    replace HNL := hide (HNL.out.no ff)
    replace HBy0 := hide (HBy0.out.fr ff fun h => h)
    clear ff e0 e1 e2 e3 e4 ef eq_ l0 l1 lq
    obtain ⟨e0, e1, e2, e3, e4, ef⟩ := HNL.out.bv.cells5
    have eq_ := HNL.out.bv.lt
    have l0 : w8.cell? ⟨gl, 0, none⟩ = some (.pointer none) := HNL.out.bl.cell 0
    have l1 : w8.cell? ⟨gl, 1, none⟩ = some (.pointer (some ⟨gE, 0, none⟩)) := HNL.out.bl.cell 1
    have lq := HNL.out.bl.lt
    go_wp2_with fail
    refine (GFirst_no (show NoW w8 none from (.inl rfl)) a).mono ?_
    rintro e w9 ⟨rfl, ff⟩
    replace HNL := hide (HNL.out.no ff)
    replace HBy0 := hide (HBy0.out.fr ff fun h => h)
    clear ff e0 e1 e2 e3 e4 ef eq_ l0 l1 lq
    obtain ⟨e0, e1, e2, e3, e4, ef⟩ := HNL.out.bv.cells5
    have eq_ := HNL.out.bv.lt
    have l0 : w9.cell? ⟨gl, 0, none⟩ = some (.pointer none) := HNL.out.bl.cell 0
    have l1 : w9.cell? ⟨gl, 1, none⟩ = some (.pointer (some ⟨gE, 0, none⟩)) := HNL.out.bl.cell 1
    have lq := HNL.out.bl.lt
    go_wp2_with fail
    refine (GBehind_no (show NoW w9 none from (.inl rfl)) a).mono ?_
    rintro e w10 ⟨rfl, ff⟩
    replace HNL := hide (HNL.out.no ff)
    replace HBy0 := hide (HBy0.out.fr ff fun h => h)
    clear ff e0 e1 e2 e3 e4 ef eq_ l0 l1 lq
    obtain ⟨e0, e1, e2, e3, e4, ef⟩ := HNL.out.bv.cells5
    have eq_ := HNL.out.bv.lt
    have l0 : w10.cell? ⟨gl, 0, none⟩ = some (.pointer none) := HNL.out.bl.cell 0
    have l1 : w10.cell? ⟨gl, 1, none⟩ = some (.pointer (some ⟨gE, 0, none⟩)) := HNL.out.bl.cell 1
    have lq := HNL.out.bl.lt
    go_wp2_with fail
    refine (GStop_no (show NoW w10 none from (.inl rfl)) (.slice AL nl cl) (.slice AL nl cl)).mono ?_
    rintro e w11 ⟨rfl, ff⟩
    replace HNL := hide (HNL.out.no ff)
    replace HBy0 := hide (HBy0.out.fr ff fun h => h)
    clear ff e0 e1 e2 e3 e4 ef eq_ l0 l1 lq
    obtain ⟨e0, e1, e2, e3, e4, ef⟩ := HNL.out.bv.cells5
    have eq_ := HNL.out.bv.lt
    have l0 : w11.cell? ⟨gl, 0, none⟩ = some (.pointer none) := HNL.out.bl.cell 0
    have l1 : w11.cell? ⟨gl, 1, none⟩ = some (.pointer (some ⟨gE, 0, none⟩)) := HNL.out.bl.cell 1
    have lq := HNL.out.bl.lt
    obtain ⟨y0, y1, y2, y3, y4, yf⟩ := HBy0.out.cells5
    have yq := HBy0.out.lt
    go_wp2_with fail
    refine ((GCut_no (show NoW w11 none from (.inl rfl)) a).mono (fun e w' h => (⟨h.1, by rw [h.2]; exact Fr.refl No _⟩ : _ ∧ Fr No w11 w'))).mono ?_
    rintro e w12 ⟨rfl, ff⟩
    replace HNL := hide (HNL.out.no ff)
    replace HBy0 := hide (HBy0.out.fr ff fun h => h)
    clear ff e0 e1 e2 e3 e4 ef eq_ l0 l1 lq
    clear y0 y1 y2 y3 y4 yf yq
    obtain ⟨e0, e1, e2, e3, e4, ef⟩ := HNL.out.bv.cells5
    have eq_ := HNL.out.bv.lt
    have l0 : w12.cell? ⟨gl, 0, none⟩ = some (.pointer none) := HNL.out.bl.cell 0
    have l1 : w12.cell? ⟨gl, 1, none⟩ = some (.pointer (some ⟨gE, 0, none⟩)) := HNL.out.bl.cell 1
    have lq := HNL.out.bl.lt
    obtain ⟨y0, y1, y2, y3, y4, yf⟩ := HBy0.out.cells5
    have yq := HBy0.out.lt
    go_wp2_with fail
    refine (Nothing_zero _).mono ?_
    rintro e w13 ⟨rfl, ff⟩
    replace HNL := hide (HNL.out.no ff)
    replace HBy0 := hide (HBy0.out.fr ff fun h => h)
    clear ff e0 e1 e2 e3 e4 ef eq_ l0 l1 lq
    clear y0 y1 y2 y3 y4 yf yq
    obtain ⟨e0, e1, e2, e3, e4, ef⟩ := HNL.out.bv.cells5
    have eq_ := HNL.out.bv.lt
    have l0 : w13.cell? ⟨gl, 0, none⟩ = some (.pointer none) := HNL.out.bl.cell 0
    have l1 : w13.cell? ⟨gl, 1, none⟩ = some (.pointer (some ⟨gE, 0, none⟩)) := HNL.out.bl.cell 1
    have lq := HNL.out.bl.lt
    obtain ⟨y0, y1, y2, y3, y4, yf⟩ := HBy0.out.cells5
    have yq := HBy0.out.lt
    go_wp2_with fail
    refine (walk_no (show NoW w13 none from (.inl rfl))).mono ?_
    rintro e w14 ⟨rfl, ff⟩
    replace HNL := hide (HNL.out.no ff)
    replace HBy0 := hide (HBy0.out.fr ff fun h => h)
    clear ff e0 e1 e2 e3 e4 ef eq_ l0 l1 lq
    clear y0 y1 y2 y3 y4 yf yq
    obtain ⟨e0, e1, e2, e3, e4, ef⟩ := HNL.out.bv.cells5
    have eq_ := HNL.out.bv.lt
    have l0 : w14.cell? ⟨gl, 0, none⟩ = some (.pointer none) := HNL.out.bl.cell 0
    have l1 : w14.cell? ⟨gl, 1, none⟩ = some (.pointer (some ⟨gE, 0, none⟩)) := HNL.out.bl.cell 1
    have lq := HNL.out.bl.lt
    obtain ⟨y0, y1, y2, y3, y4, yf⟩ := HBy0.out.cells5
    have yq := HBy0.out.lt
    clear y0 y1 y2 y3 y4 yf yq
    clear HBy0
    go_wp2_with fail
    rw [rounds_succ]
    go_wp2_with fail
    refine ((GNew_no (show NoW w14 (some ⟨gE, 0, none⟩) from (.inr ⟨gE, rfl, HNL.out.bE⟩)) home a).mono (fun e w' h => (⟨h.1, by rw [h.2]; exact Fr.refl No _⟩ : _ ∧ Fr No w14 w'))).mono ?_
    rintro e w15 ⟨rfl, ff⟩
    replace HNL := hide (HNL.out.no ff)
    clear ff e0 e1 e2 e3 e4 ef eq_ l0 l1 lq
    obtain ⟨e0, e1, e2, e3, e4, ef⟩ := HNL.out.bv.cells5
    have eq_ := HNL.out.bv.lt
    have l0 : w15.cell? ⟨gl, 0, none⟩ = some (.pointer none) := HNL.out.bl.cell 0
    have l1 : w15.cell? ⟨gl, 1, none⟩ = some (.pointer (some ⟨gE, 0, none⟩)) := HNL.out.bl.cell 1
    have lq := HNL.out.bl.lt
    go_wp2_with fail
    refine ((GIsCut_no (show NoW w15 (some ⟨gE, 0, none⟩) from (.inr ⟨gE, rfl, HNL.out.bE⟩)) a).mono (fun e w' h => (⟨h.1, by rw [h.2]; exact Fr.refl No _⟩ : _ ∧ Fr No w15 w'))).mono ?_
    rintro e w16 ⟨rfl, ff⟩
    replace HNL := hide (HNL.out.no ff)
    clear ff e0 e1 e2 e3 e4 ef eq_ l0 l1 lq
    obtain ⟨e0, e1, e2, e3, e4, ef⟩ := HNL.out.bv.cells5
    have eq_ := HNL.out.bv.lt
    have l0 : w16.cell? ⟨gl, 0, none⟩ = some (.pointer none) := HNL.out.bl.cell 0
    have l1 : w16.cell? ⟨gl, 1, none⟩ = some (.pointer (some ⟨gE, 0, none⟩)) := HNL.out.bl.cell 1
    have lq := HNL.out.bl.lt
    go_wp2_with fail
    refine (GDo_no (show NoW w16 (some ⟨gE, 0, none⟩) from (.inr ⟨gE, rfl, HNL.out.bE⟩)) a ab k n s A len cap r).mono ?_
    rintro e w17 ⟨rfl, ff⟩
    replace HNL := hide (HNL.out.no ff)
    clear ff e0 e1 e2 e3 e4 ef eq_ l0 l1 lq
    obtain ⟨e0, e1, e2, e3, e4, ef⟩ := HNL.out.bv.cells5
    have eq_ := HNL.out.bv.lt
    have l0 : w17.cell? ⟨gl, 0, none⟩ = some (.pointer none) := HNL.out.bl.cell 0
    have l1 : w17.cell? ⟨gl, 1, none⟩ = some (.pointer (some ⟨gE, 0, none⟩)) := HNL.out.bl.cell 1
    have lq := HNL.out.bl.lt
    go_upto_region 11 with (fail)
    have ff := (Fr.refl No w17).alloc (.cells #[.int .u8 0, .int .i64 0, .string ⟨#[]⟩, .slice none 0 0, .int .i64 0] 28)
    replace HNL := hide (HNL.out.no ff)
    have HBy1 := hide (Blk.new w17 28 #[.int .u8 0, .int .i64 0, .string ⟨#[]⟩, .slice none 0 0, .int .i64 0])
    clear ff e0 e1 e2 e3 e4 ef eq_ l0 l1 lq
    generalize hgy1 : w17.heap.size = gy1 at *
    generalize World.alloc w17 _ = w18 at *
    obtain ⟨e0, e1, e2, e3, e4, ef⟩ := HNL.out.bv.cells5
    have eq_ := HNL.out.bv.lt
    have l0 : w18.cell? ⟨gl, 0, none⟩ = some (.pointer none) := HNL.out.bl.cell 0
    have l1 : w18.cell? ⟨gl, 1, none⟩ = some (.pointer (some ⟨gE, 0, none⟩)) := HNL.out.bl.cell 1
    have lq := HNL.out.bl.lt
    go_wp2_with fail
    refine ((GOf_no (show NoW w18 (some ⟨gE, 0, none⟩) from (.inr ⟨gE, rfl, HNL.out.bE⟩)) a).mono (fun e w' h => (⟨h.1, by rw [h.2]; exact Fr.refl No _⟩ : _ ∧ Fr No w18 w'))).mono ?_
    rintro e w19 ⟨rfl, ff⟩
    replace HNL := hide (HNL.out.no ff)
    replace HBy1 := hide (HBy1.out.fr ff fun h => h)
    clear ff e0 e1 e2 e3 e4 ef eq_ l0 l1 lq
    obtain ⟨e0, e1, e2, e3, e4, ef⟩ := HNL.out.bv.cells5
    have eq_ := HNL.out.bv.lt
    have l0 : w19.cell? ⟨gl, 0, none⟩ = some (.pointer none) := HNL.out.bl.cell 0
    have l1 : w19.cell? ⟨gl, 1, none⟩ = some (.pointer (some ⟨gE, 0, none⟩)) := HNL.out.bl.cell 1
    have lq := HNL.out.bl.lt
    go_wp2_with fail
    refine ((GGates_no (show NoW w19 (some ⟨gE, 0, none⟩) from (.inr ⟨gE, rfl, HNL.out.bE⟩)) a).mono (fun e w' h => (⟨h.1, by rw [h.2]; exact Fr.refl No _⟩ : _ ∧ Fr No w19 w'))).mono ?_
    rintro e w20 ⟨rfl, ff⟩
    replace HNL := hide (HNL.out.no ff)
    replace HBy1 := hide (HBy1.out.fr ff fun h => h)
    clear ff e0 e1 e2 e3 e4 ef eq_ l0 l1 lq
    obtain ⟨e0, e1, e2, e3, e4, ef⟩ := HNL.out.bv.cells5
    have eq_ := HNL.out.bv.lt
    have l0 : w20.cell? ⟨gl, 0, none⟩ = some (.pointer none) := HNL.out.bl.cell 0
    have l1 : w20.cell? ⟨gl, 1, none⟩ = some (.pointer (some ⟨gE, 0, none⟩)) := HNL.out.bl.cell 1
    have lq := HNL.out.bl.lt
    go_wp2_with fail
    refine (GFirst_no (show NoW w20 (some ⟨gE, 0, none⟩) from (.inr ⟨gE, rfl, HNL.out.bE⟩)) a).mono ?_
    rintro e w21 ⟨rfl, ff⟩
    replace HNL := hide (HNL.out.no ff)
    replace HBy1 := hide (HBy1.out.fr ff fun h => h)
    clear ff e0 e1 e2 e3 e4 ef eq_ l0 l1 lq
    obtain ⟨e0, e1, e2, e3, e4, ef⟩ := HNL.out.bv.cells5
    have eq_ := HNL.out.bv.lt
    have l0 : w21.cell? ⟨gl, 0, none⟩ = some (.pointer none) := HNL.out.bl.cell 0
    have l1 : w21.cell? ⟨gl, 1, none⟩ = some (.pointer (some ⟨gE, 0, none⟩)) := HNL.out.bl.cell 1
    have lq := HNL.out.bl.lt
    go_wp2_with fail
    refine (GBehind_no (show NoW w21 (some ⟨gE, 0, none⟩) from (.inr ⟨gE, rfl, HNL.out.bE⟩)) a).mono ?_
    rintro e w22 ⟨rfl, ff⟩
    replace HNL := hide (HNL.out.no ff)
    replace HBy1 := hide (HBy1.out.fr ff fun h => h)
    clear ff e0 e1 e2 e3 e4 ef eq_ l0 l1 lq
    obtain ⟨e0, e1, e2, e3, e4, ef⟩ := HNL.out.bv.cells5
    have eq_ := HNL.out.bv.lt
    have l0 : w22.cell? ⟨gl, 0, none⟩ = some (.pointer none) := HNL.out.bl.cell 0
    have l1 : w22.cell? ⟨gl, 1, none⟩ = some (.pointer (some ⟨gE, 0, none⟩)) := HNL.out.bl.cell 1
    have lq := HNL.out.bl.lt
    go_wp2_with fail
    refine (GStop_no (show NoW w22 (some ⟨gE, 0, none⟩) from (.inr ⟨gE, rfl, HNL.out.bE⟩)) (.slice AL nl cl) (.slice AL nl cl)).mono ?_
    rintro e w23 ⟨rfl, ff⟩
    replace HNL := hide (HNL.out.no ff)
    replace HBy1 := hide (HBy1.out.fr ff fun h => h)
    clear ff e0 e1 e2 e3 e4 ef eq_ l0 l1 lq
    obtain ⟨e0, e1, e2, e3, e4, ef⟩ := HNL.out.bv.cells5
    have eq_ := HNL.out.bv.lt
    have l0 : w23.cell? ⟨gl, 0, none⟩ = some (.pointer none) := HNL.out.bl.cell 0
    have l1 : w23.cell? ⟨gl, 1, none⟩ = some (.pointer (some ⟨gE, 0, none⟩)) := HNL.out.bl.cell 1
    have lq := HNL.out.bl.lt
    obtain ⟨y0, y1, y2, y3, y4, yf⟩ := HBy1.out.cells5
    have yq := HBy1.out.lt
    go_wp2_with fail
    refine ((GCut_no (show NoW w23 (some ⟨gE, 0, none⟩) from (.inr ⟨gE, rfl, HNL.out.bE⟩)) a).mono (fun e w' h => (⟨h.1, by rw [h.2]; exact Fr.refl No _⟩ : _ ∧ Fr No w23 w'))).mono ?_
    rintro e w24 ⟨rfl, ff⟩
    replace HNL := hide (HNL.out.no ff)
    replace HBy1 := hide (HBy1.out.fr ff fun h => h)
    clear ff e0 e1 e2 e3 e4 ef eq_ l0 l1 lq
    clear y0 y1 y2 y3 y4 yf yq
    obtain ⟨e0, e1, e2, e3, e4, ef⟩ := HNL.out.bv.cells5
    have eq_ := HNL.out.bv.lt
    have l0 : w24.cell? ⟨gl, 0, none⟩ = some (.pointer none) := HNL.out.bl.cell 0
    have l1 : w24.cell? ⟨gl, 1, none⟩ = some (.pointer (some ⟨gE, 0, none⟩)) := HNL.out.bl.cell 1
    have lq := HNL.out.bl.lt
    obtain ⟨y0, y1, y2, y3, y4, yf⟩ := HBy1.out.cells5
    have yq := HBy1.out.lt
    go_wp2_with fail
    refine (Nothing_zero _).mono ?_
    rintro e w25 ⟨rfl, ff⟩
    replace HNL := hide (HNL.out.no ff)
    replace HBy1 := hide (HBy1.out.fr ff fun h => h)
    clear ff e0 e1 e2 e3 e4 ef eq_ l0 l1 lq
    clear y0 y1 y2 y3 y4 yf yq
    obtain ⟨e0, e1, e2, e3, e4, ef⟩ := HNL.out.bv.cells5
    have eq_ := HNL.out.bv.lt
    have l0 : w25.cell? ⟨gl, 0, none⟩ = some (.pointer none) := HNL.out.bl.cell 0
    have l1 : w25.cell? ⟨gl, 1, none⟩ = some (.pointer (some ⟨gE, 0, none⟩)) := HNL.out.bl.cell 1
    have lq := HNL.out.bl.lt
    obtain ⟨y0, y1, y2, y3, y4, yf⟩ := HBy1.out.cells5
    have yq := HBy1.out.lt
    go_wp2_with fail
    refine (walk_no (show NoW w25 (some ⟨gE, 0, none⟩) from (.inr ⟨gE, rfl, HNL.out.bE⟩))).mono ?_
    rintro e w26 ⟨rfl, ff⟩
    replace HNL := hide (HNL.out.no ff)
    replace HBy1 := hide (HBy1.out.fr ff fun h => h)
    clear ff e0 e1 e2 e3 e4 ef eq_ l0 l1 lq
    clear y0 y1 y2 y3 y4 yf yq
    obtain ⟨e0, e1, e2, e3, e4, ef⟩ := HNL.out.bv.cells5
    have eq_ := HNL.out.bv.lt
    have l0 : w26.cell? ⟨gl, 0, none⟩ = some (.pointer none) := HNL.out.bl.cell 0
    have l1 : w26.cell? ⟨gl, 1, none⟩ = some (.pointer (some ⟨gE, 0, none⟩)) := HNL.out.bl.cell 1
    have lq := HNL.out.bl.lt
    obtain ⟨y0, y1, y2, y3, y4, yf⟩ := HBy1.out.cells5
    have yq := HBy1.out.lt
    clear y0 y1 y2 y3 y4 yf yq
    clear HBy1
    go_wp2_with fail
    rw [rounds_succ]
    go_wp2_with fail
    refine (HAW.out w26).mono ?_
    rintro e wZ ⟨rfl, fZ⟩
    have HFZ := hide (HNL.out.fr.trans fZ)
    clear fZ
    go_wp2
    go_ret
    exact ⟨rfl, HFZ.out⟩

end Go.Proofs.YtlejelbefmkakaaGreat

/- Texts joined: Wg18, No12, H0. -/
import Derived.Test.YtlejelbefmkakaaGreatJn9
import Derived.BigQuiet
import Derived.Deep.Cut
import Derived.Test.YtlejelbefmkakaaGreatRows
import Derived.ProofKit
import Derived.OpenShut
import Derived.ChangeOld
/- Chapter 12: the calls whose answers the document fixes. -/
namespace Go.Proofs.YtlejelbefmkakaaGreat
open Go.RowKit

theorem get_lit {m : Wm} {l : List (Nat × Th)} (h : m.th = l) (i : Nat) {x : Nat × Th} (hi : l[i]? = some x) : m.get ((i : Int) + 1) = some x := by
  subst h
  have := (List.getElem?_eq_some_iff.1 hi).1
  unfold Wm.get Wm.at_
  rw [if_pos (by omega)]
  simpa using hi

theorem kind_lit {m : Wm} {r : Int} {x : Nat × Th} (h : m.get r = some x) : m.kind r = x.2.kind := by
  unfold Wm.kind
  rw [h]
  rfl

/-- A world of one side. -/
structure G1 (W : World) (m : Wm) (th : List (Nat × Th)) (k : Nat) (w : World) : Prop where
  th : m.th = th
  made : m.made = [k]
  ok : m.Ok W.heap.size w
  fr : Fr No W w

theorem G1.mono {W w w' : World} {m m' : Wm} {th : List (Nat × Th)} {k : Nat} (h : G1 W m th k w) (f : Fr m.B w w') : Fr No W w' := h.fr.trans' f fun i hi hb => by have := (h.ok.lt i hb).1; omega

theorem G1.cell {W w : World} {m : Wm} (h : G1 W m [] 0 w) :
    Calls Tryz.prog 85 #[.pointer (some ⟨m.wb, 0, none⟩), .agg #[.int .u8 1, .int .i64 0, .int .u8 0, .int .i64 0, .string ⟨#[]⟩, .slice none 0 0, .int .i64 0, .slice none 0 0, .int .i64 0, .int .i64 0, .int .i64 0, .int .i64 0, .int .u8 0, .bool false, .slice none 0 0, .slice none 0 0]] w fun e w' =>
      e = .returned (.tuple #[.int .i64 1, .int .i64 0]) ∧ ∃ m' g, m'.wb = m.wb ∧ G1 W m' [(g, ⟨1, 0, T.zero, 0, 0, 0, 0, 0, false⟩)] 1 w' := by
  have hs : 0 < m.made.length := by rw [h.made]; simp
  have h0 : m.made[0] = 0 := by simp [h.made]
  have hl : m.th.length = 0 := by rw [h.th]; rfl
  have hm := make1 h.ok h.fr.size 0 hs (by omega) (by omega)
  refine hm.mono ?_
  rintro e w' ⟨rfl, g, t', hv, -, -, hok, f⟩
  have hth : (m.add g ⟨1, (0 : Nat), t', 0, 0, 0, 0, 0, false⟩ 0).th = [(g, ⟨1, (0 : Nat), t', 0, 0, 0, 0, 0, false⟩)] := by simp [Wm.add, h.th]
  obtain rfl := zero_of (hok.vals (g, ⟨1, (0 : Nat), t', 0, 0, 0, 0, 0, false⟩) (by rw [hth]; simp)) (hv.trans T.zero_v)
  rw [hl]
  refine ⟨rfl, _, g, ?_, hth, by simp [Wm.add, h.made], hok, h.mono (m' := m) f⟩
  rfl

theorem G1.new {W w : World} {m : Wm} {th : List (Nat × Th)} {k : Nat} (h : G1 W m th k w) (hk : k + 2 ≤ 512) (hlen : th.length + 2 < 100000) {target : Int} {y : Nat × Th} (hy : m.get target = some y) :
    Calls Tryz.prog 29 #[.pointer (some ⟨m.wb, 0, none⟩), .int .i64 0, .int .i64 target] w fun e w' =>
      e = .returned (.tuple #[.int .i64 ((th.length : Int) + 1 + 1), .int .i64 ((th.length : Int) + 1), .int .i64 0]) ∧ ∃ m' g1 g2, m'.wb = m.wb ∧ G1 W m' (th ++ [(g1, ⟨13, 0, T.zero, 0, 0, (th.length : Int) + 1 + 1, 0, 0, false⟩), (g2, ⟨15, 0, T.zero, 0, 0, target, (th.length : Int) + 1, 0, false⟩)]) (k + 1 + 1) w' := by
  have hs : 0 < m.made.length := by rw [h.made]; simp
  have h0 : m.made[0] = k := by simp [h.made]
  have hl : m.th.length = th.length := by rw [h.th]
  have hm := GNew_ok h.ok h.fr.size 0 hs (by omega) (by omega) hy
  refine hm.mono ?_
  rintro e w' ⟨rfl, m', g1, g2, hwb, hth, hmd, hok, f⟩
  rw [hl] at hth ⊢
  refine ⟨rfl, m', g1, g2, hwb, ?_, ?_, hok, h.mono (m' := m) f⟩
  · rw [hth, h.th]
    rfl
  · rw [hmd, h.made]
    rfl

set_option maxRecDepth 100000 in
set_option maxHeartbeats 8000000 in
theorem awake12 (W : World) : Calls Tryz.prog 28 #[] W fun e w' => e = .returned (.bool true) ∧ Fr No W w' := by
  have HNew := hide (New_one W)
  go_enter Tryz.func28, Tryz.ntmps28
  go_wp2_with fail
  refine HNew.out.mono ?_
  rintro e w1 ⟨m0, rfl, hok, hth, hmd, f1⟩
  have S0 : G1 W m0 [] 0 w1 := ⟨hth, hmd, hok, f1⟩
  have C0 := hide S0.cell
  clear hok hth hmd f1 HNew S0
  go_wp2_with fail
  refine C0.out.mono ?_
  rintro e w2 ⟨rfl, m1, g1, hwb1, S1⟩
  have C1 := hide (S1.new (by omega) (by simp) (get_lit S1.th 0 rfl))
  rw [hwb1] at C1
  simp only [List.length_cons, List.length_nil] at C1
  clear S1 C0
  go_wp2_with fail
  refine C1.out.mono ?_
  rintro e w3 ⟨rfl, m3, g2, g3, hwb3, S3⟩
  have hwb : m3.wb = m0.wb := hwb3
  have C3 := hide (S3.new (by omega) (by simp) (get_lit S3.th 2 rfl))
  rw [hwb] at C3
  simp only [List.length_cons, List.length_nil, List.length_append] at C3
  clear S3 C1 hwb1 hwb3
  go_wp2_with fail
  refine C3.out.mono ?_
  rintro e w4 ⟨rfl, m5, g4, g5, hwb5, S5⟩
  have hwb' : m5.wb = m0.wb := hwb5
  have q1 : m5.get 1 = some (g1, ⟨1, 0, T.zero, 0, 0, 0, 0, 0, false⟩) := get_lit S5.th 0 rfl
  have q2 : m5.get 2 = some (g2, ⟨13, (0 : Nat), T.zero, 0, 0, 3, 0, 0, false⟩) := get_lit S5.th 1 rfl
  have q3 : m5.get 3 = some (g3, ⟨15, 0, T.zero, 0, 0, 1, 2, 0, false⟩) := get_lit S5.th 2 rfl
  have q4 : m5.get 4 = some (g4, ⟨13, 0, T.zero, 0, 0, 5, 0, 0, false⟩) := get_lit S5.th 3 rfl
  have q5 : m5.get 5 = some (g5, ⟨15, 0, T.zero, 0, 0, 3, 4, 0, false⟩) := get_lit S5.th 4 rfl
  have hs : 0 < m5.made.length := by rw [S5.made]; simp
  have way5 : Way m5 5 [5, 3, 1] := .wrap q5 (by simp) (.wrap q3 (by simp) (.base q1 (by simp)))
  have hg5 : m5.gatesOf [5, 3, 1] = [5, 3] := by simp [Wm.gatesOf, kind_lit q5, kind_lit q3, kind_lit q1]
  have hCG := Gates_w S5.ok way5 (by simp) (by rw [q5]; rfl)
  rw [hg5, hwb'] at hCG
  have CG := hide hCG
  have HS5 := hide S5
  have HQ := hide (And.intro q1 (And.intro q2 (And.intro q3 (And.intro q4 q5))))
  clear S5 C3 hwb5 hwb q1 q2 q3 q4 q5 way5 hg5 hCG
  go_wp2_with fail
  refine CG.out.mono ?_
  rintro e w5 ⟨v, rfl, hrow, f5⟩
  obtain ⟨gl, cl, hv, hgl0, hgl1⟩ := hrow.form (by simp)
  subst hv
  have e0 := World.ownsRow.cells hrow (g := gl) rfl 0 (.int .i64 5) rfl
  have e1 := World.ownsRow.cells hrow (g := gl) rfl 1 (.int .i64 3) rfl
  rw [add_at, Nat.zero_add] at e0 e1
  have hCC := GCut_w (HS5.out.ok.no f5) (by have := HS5.out.fr.size; have := f5.size; omega) HQ.out.2.1 hs
  rw [hwb'] at hCC
  have CC := hide hCC
  have E0 := hide e0
  have E1 := hide e1
  have HF5 := hide (HS5.out.fr.trans f5)
  have HG0 := hide (fun h : m5.B gl => by have := (HS5.out.ok.lt gl h).2; omega : ¬ m5.B gl)
  have HG1 := hide hgl1
  have HM5 := hide (HS5.out.mono (m' := m5) (w' := w5) f5.no)
  have HB5 := hide fun i (hi : m5.B i) => (HS5.out.ok.lt i hi).1
  have hth5 := HS5.out.th
  clear hCC e0 e1 f5 hgl0 hgl1 hrow CG HS5 hs
  simp only [List.length_cons, List.length_nil]
  go_wp2_with fail
  refine CC.out.mono ?_
  rintro e w6 ⟨rfl, hok6, f6⟩
  have hn1 : ((2 : Int) - 1).toNat = 1 := by decide
  rw [hn1] at hok6
  obtain ⟨m6, hm6⟩ : ∃ m6, m6 = m5.put 1 ⟨13, (0 : Nat), T.zero, 0, 0, 3, 0, 0, true⟩ := ⟨_, rfl⟩
  rw [← hm6] at hok6
  obtain ⟨q1, q2, q3, q4, q5⟩ := HQ.out
  have r1 : m6.get 1 = some (g1, ⟨1, 0, T.zero, 0, 0, 0, 0, 0, false⟩) := by rw [hm6, put_get_other (by decide)]; exact q1
  have r2 : m6.get 2 = some (g2, ⟨13, (0 : Nat), T.zero, 0, 0, 3, 0, 0, true⟩) := by rw [hm6]; exact put_get_same (i := 1) (get_at q2).1
  have r3 : m6.get 3 = some (g3, ⟨15, 0, T.zero, 0, 0, 1, 2, 0, false⟩) := by rw [hm6, put_get_other (by decide)]; exact q3
  have r4 : m6.get 4 = some (g4, ⟨13, 0, T.zero, 0, 0, 5, 0, 0, false⟩) := by rw [hm6, put_get_other (by decide)]; exact q4
  have r5 : m6.get 5 = some (g5, ⟨15, 0, T.zero, 0, 0, 3, 4, 0, false⟩) := by rw [hm6, put_get_other (by decide)]; exact q5
  have hwb6 : m6.wb = m0.wb := by rw [hm6]; exact hwb'
  have way6 : Way m6 5 [5, 3, 1] := .wrap r5 (by simp) (.wrap r3 (by simp) (.base r1 (by simp)))
  have way1 : Way m6 1 [1] := .base r1 (by simp)
  have hg6 : m6.gatesOf [5, 3, 1] = [5, 3] := by simp [Wm.gatesOf, kind_lit r5, kind_lit r3, kind_lit r1]
  have hg1 : m6.gatesOf [1] = [] := by simp [Wm.gatesOf, kind_lit r1]
  have hcut : ∀ x ∈ m6.gatesOf [5, 3, 1], ∀ W', m6.Ok W.heap.size W' → Calls Tryz.prog 100 #[.pointer (some ⟨m6.wb, 0, none⟩), .int .i64 x] W' fun e w' => e = .returned (.bool (decide (x = 3))) ∧ Fr No W' w' := by
    rw [hg6]
    intro x hx W' h
    simp only [List.mem_cons, List.not_mem_nil, or_false] at hx
    rcases hx with rfl | rfl
    · exact cut_w h r5 r4
    · exact cut_w h r3 r2
  have CF := hide fun w' (f : Fr No w6 w') => by
    have := First_w (hok6.no f) way6 (by simp) (fun x => decide (x = 3)) hcut
    rw [hg6, hwb6] at this
    exact this
  have CF1 := hide fun w' (f : Fr No w6 w') => by
    have := First_w (hok6.no f) way1 (by simp) (fun x => decide (x = 3)) (by rw [hg1]; simp)
    rw [hg1, hwb6] at this
    exact this
  have CD := hide fun w' (f : Fr No w6 w') => by
    have := GDo_w (hok6.no f) r2
    rw [hwb6] at this
    exact this
  have v1 : firstOf (fun x => decide (x = 3)) [5, 3] = .tuple #[.int .i64 3, .bool true] := by simp [firstOf]
  have v2 : firstOf (fun x => decide (x = 3)) [] = .tuple #[.int .i64 0, .bool false] := by simp [firstOf]
  rw [v1] at CF
  rw [v2] at CF1
  have HF6 := hide (HF5.out.trans' f6 fun i hi hb => by have := HB5.out i hb; omega)
  have e0 := hide ((f6.cell HG1.out HG0.out).trans E0.out)
  have e1 := hide ((f6.cell HG1.out HG0.out).trans E1.out)
  have hsz := HG1.out
  have HS6 := hide (Nat.lt_of_lt_of_le HG1.out f6.size)
  clear f6 hok6 q1 q2 q3 q4 q5 r1 r2 r3 r4 r5 hm6 hwb6 way6 way1 hg6 hg1 hcut v1 v2 CC E0 E1 hsz HQ HM5 HB5 hth5 hn1 hwb' HF5
  go_wp2_with fail
  refine (CF.out w6 (Fr.refl _ _)).mono ?_
  rintro e w7 ⟨rfl, f7⟩
  have HF7 := hide f7
  clear f7
  go_wp2_with fail
  refine (CF1.out w7 HF7.out).mono ?_
  rintro e w8 ⟨rfl, f8⟩
  have HF8 := hide (HF7.out.trans f8)
  clear f8
  go_wp2_with fail
  refine (CD.out w8 HF8.out).mono ?_
  rintro e w9 ⟨rfl, f9⟩
  have HF9 := hide (HF8.out.trans f9)
  have d0 := (HF9.out.cell HS6.out fun h => h).trans e0.out
  have d1 := (HF9.out.cell HS6.out fun h => h).trans e1.out
  have dq := Nat.lt_of_lt_of_le HS6.out HF9.out.size
  have HFE := hide (HF6.out.trans HF9.out)
  clear f9 CF CF1 CD HF7 HF8
  go_wp2_with fail
  go_ret
  refine ⟨rfl, ?_⟩
  have hz := HFE.out.size
  repeat (first | with_reducible exact HFE.out | with_reducible refine Fr.alloc ?_ _ | with_reducible refine Fr.setNew ?_ (by first | (simp; done) | (simp; omega)) _)

end Go.Proofs.YtlejelbefmkakaaGreat

/- posternlaw12.GateNone: a world that is not there. -/
namespace Go.Proofs.YtlejelbefmkakaaGreat
open Go.RowKit

/-- What the loop goes over. -/
structure NG (W : World) (gE gl : Nat) (k n : Int) (s : ByteArray) (A : Option Addr) (len cap : Nat) (r : Int) (w : World) : Prop where
  fr : Fr No W w
  bv : Blk w W.heap.size 28 #[.int .u8 k, .int .i64 n, .string s, .slice A len cap, .int .i64 r]
  bE : Blk w gE 38 #[.slice none 0 0, .slice none 0 0, .map none, .map none, .int .i64 0, .slice none 0 0]
  bl : Blk w gl 39 #[.pointer none, .pointer (some ⟨gE, 0, none⟩)]

theorem NG.no {W : World} {gE gl : Nat} {k n : Int} {s : ByteArray} {A : Option Addr} {len cap : Nat} {r : Int} {w w' : World} (h : NG W gE gl k n s A len cap r w) (f : Fr No w w') : NG W gE gl k n s A len cap r w' :=
  ⟨h.fr.trans f, h.bv.fr f fun h => h, h.bE.fr f fun h => h, h.bl.fr f fun h => h⟩

set_option maxRecDepth 100000 in
set_option maxHeartbeats 16000000 in
theorem gateNone_w (a home ab : Int) (t : T) (AL : Option Addr) (nl cl : Nat) (W : World) (ht : t.In W 0 W.heap.size) :
    Calls Tryz.prog 4 #[.int .i64 a, .int .i64 home, .int .u8 ab, t.val, .slice AL nl cl] W fun e w' => e = .returned (.bool true) ∧ Fr No W w' := by
  obtain ⟨k, n, s, A, cap, l, r⟩ := t
  have HG := hide (fun W' (f : Fr No W W') => Great_any (T.mk k n s A cap l r) W' 0 W.heap.size (ht.no f (Nat.le_refl _)) f.size)
  rw [T.val_mk] at HG ⊢
  generalize l.length = len at *
  have HAW := hide awake12
  have hb0 := Blk.new W 28 #[.int .u8 k, .int .i64 n, .string s, .slice A len cap, .int .i64 r]
  have hf0 := (Fr.refl No W).alloc (.cells #[.int .u8 k, .int .i64 n, .string s, .slice A len cap, .int .i64 r] 28)
  have HB0 := hide hb0
  have HF0 := hide hf0
  obtain ⟨e0, e1, e2, e3, e4, ef⟩ := hb0.cells5
  have eq_ := hb0.lt
  clear hb0 hf0 ht
  go_enter Tryz.func4, Tryz.ntmps4
  go_wp2_with fail
  generalize World.alloc W _ = W0 at *
  refine (HG.out W0 HF0.out).mono ?_
  rintro e w1 ⟨⟨q, rfl⟩, f1⟩
  have HF1 := hide (HF0.out.trans f1)
  have HB1 := hide (HB0.out.fr f1 fun h => h)
  clear f1 e0 e1 e2 e3 e4 ef eq_ HG HF0 HB0
  cases q with
  | true =>
    go_wp2_with fail
    refine (HAW.out w1).mono ?_
    rintro e w2 ⟨rfl, f2⟩
    have HF2 := hide (HF1.out.trans f2)
    clear f2
    go_wp2
    go_ret
    exact ⟨rfl, HF2.out⟩
  | false =>
    by_cases h3 : 300 < (nl : Int)
    · have hd : decide (300 < (nl : Int)) = true := by simpa using h3
      clear h3
      go_wp2_with fail
      refine (HAW.out w1).mono ?_
      rintro e w2 ⟨rfl, f2⟩
      have HF2 := hide (HF1.out.trans f2)
      clear f2
      go_wp2
      go_ret
      exact ⟨rfl, HF2.out⟩
    have hd : decide (300 < (nl : Int)) = false := by simpa using h3
    clear h3
    go_upto_region 4 with (fail)
    have HNL : Hid (NG W w1.heap.size (w1.heap.size + 1) k n s A len cap r ((w1.alloc (.cells #[.slice none 0 0, .slice none 0 0, .map none, .map none, .int .i64 0, .slice none 0 0] 38)).alloc (.cells #[.pointer none, .pointer (some ⟨w1.heap.size, 0, none⟩)] 39))) := hide
      ⟨(HF1.out.alloc _).alloc _, (HB1.out.alloc _).alloc _, (Blk.new w1 _ _).alloc _, Blk.new' (w1.alloc _) _ _ (by simp)⟩
    clear HF1 HB1
    generalize w1.heap.size = gE at *
    generalize hgl : gE + 1 = gl at *
    generalize World.alloc (World.alloc w1 _) _ = w2 at *
    go_wp2_with fail
    refine wp_loop_rounds 3 ?_
    rw [rounds_succ]
    obtain ⟨e0, e1, e2, e3, e4, ef⟩ := HNL.out.bv.cells5
    have eq_ := HNL.out.bv.lt
    have l0 : w2.cell? ⟨gl, 0, none⟩ = some (.pointer none) := HNL.out.bl.cell 0
    have l1 : w2.cell? ⟨gl, 1, none⟩ = some (.pointer (some ⟨gE, 0, none⟩)) := HNL.out.bl.cell 1
    have lq := HNL.out.bl.lt
    go_wp2_with fail
    refine ((GNew_no (show NoW w2 none from (.inl rfl)) home a).mono (fun e w' h => (⟨h.1, by rw [h.2]; exact Fr.refl No _⟩ : _ ∧ Fr No w2 w'))).mono ?_
    rintro e w3 ⟨rfl, ff⟩
    replace HNL := hide (HNL.out.no ff)
    clear ff e0 e1 e2 e3 e4 ef eq_ l0 l1 lq
    obtain ⟨e0, e1, e2, e3, e4, ef⟩ := HNL.out.bv.cells5
    have eq_ := HNL.out.bv.lt
    have l0 : w3.cell? ⟨gl, 0, none⟩ = some (.pointer none) := HNL.out.bl.cell 0
    have l1 : w3.cell? ⟨gl, 1, none⟩ = some (.pointer (some ⟨gE, 0, none⟩)) := HNL.out.bl.cell 1
    have lq := HNL.out.bl.lt
    go_wp2_with fail
    refine ((GIsCut_no (show NoW w3 none from (.inl rfl)) a).mono (fun e w' h => (⟨h.1, by rw [h.2]; exact Fr.refl No _⟩ : _ ∧ Fr No w3 w'))).mono ?_
    rintro e w4 ⟨rfl, ff⟩
    replace HNL := hide (HNL.out.no ff)
    clear ff e0 e1 e2 e3 e4 ef eq_ l0 l1 lq
    obtain ⟨e0, e1, e2, e3, e4, ef⟩ := HNL.out.bv.cells5
    have eq_ := HNL.out.bv.lt
    have l0 : w4.cell? ⟨gl, 0, none⟩ = some (.pointer none) := HNL.out.bl.cell 0
    have l1 : w4.cell? ⟨gl, 1, none⟩ = some (.pointer (some ⟨gE, 0, none⟩)) := HNL.out.bl.cell 1
    have lq := HNL.out.bl.lt
    go_wp2_with fail
    refine (GDo_no (show NoW w4 none from (.inl rfl)) a ab k n s A len cap r).mono ?_
    rintro e w5 ⟨rfl, ff⟩
    replace HNL := hide (HNL.out.no ff)
    clear ff e0 e1 e2 e3 e4 ef eq_ l0 l1 lq
    obtain ⟨e0, e1, e2, e3, e4, ef⟩ := HNL.out.bv.cells5
    have eq_ := HNL.out.bv.lt
    have l0 : w5.cell? ⟨gl, 0, none⟩ = some (.pointer none) := HNL.out.bl.cell 0
    have l1 : w5.cell? ⟨gl, 1, none⟩ = some (.pointer (some ⟨gE, 0, none⟩)) := HNL.out.bl.cell 1
    have lq := HNL.out.bl.lt
    go_upto_region 11 with (fail)
    have ff := (Fr.refl No w5).alloc (.cells #[.int .u8 0, .int .i64 0, .string ⟨#[]⟩, .slice none 0 0, .int .i64 0] 28)
    replace HNL := hide (HNL.out.no ff)
    have HBy0 := hide (Blk.new w5 28 #[.int .u8 0, .int .i64 0, .string ⟨#[]⟩, .slice none 0 0, .int .i64 0])
    clear ff e0 e1 e2 e3 e4 ef eq_ l0 l1 lq
    generalize hgy0 : w5.heap.size = gy0 at *
    generalize World.alloc w5 _ = w6 at *
    obtain ⟨e0, e1, e2, e3, e4, ef⟩ := HNL.out.bv.cells5
    have eq_ := HNL.out.bv.lt
    have l0 : w6.cell? ⟨gl, 0, none⟩ = some (.pointer none) := HNL.out.bl.cell 0
    have l1 : w6.cell? ⟨gl, 1, none⟩ = some (.pointer (some ⟨gE, 0, none⟩)) := HNL.out.bl.cell 1
    have lq := HNL.out.bl.lt
    go_wp2_with fail
    refine ((GOf_no (show NoW w6 none from (.inl rfl)) a).mono (fun e w' h => (⟨h.1, by rw [h.2]; exact Fr.refl No _⟩ : _ ∧ Fr No w6 w'))).mono ?_
    rintro e w7 ⟨rfl, ff⟩
    replace HNL := hide (HNL.out.no ff)
    replace HBy0 := hide (HBy0.out.fr ff fun h => h)
    clear ff e0 e1 e2 e3 e4 ef eq_ l0 l1 lq
    obtain ⟨e0, e1, e2, e3, e4, ef⟩ := HNL.out.bv.cells5
    have eq_ := HNL.out.bv.lt
    have l0 : w7.cell? ⟨gl, 0, none⟩ = some (.pointer none) := HNL.out.bl.cell 0
    have l1 : w7.cell? ⟨gl, 1, none⟩ = some (.pointer (some ⟨gE, 0, none⟩)) := HNL.out.bl.cell 1
    have lq := HNL.out.bl.lt
    go_wp2_with fail
    refine ((GGates_no (show NoW w7 none from (.inl rfl)) a).mono (fun e w' h => (⟨h.1, by rw [h.2]; exact Fr.refl No _⟩ : _ ∧ Fr No w7 w'))).mono ?_
    rintro e w8 ⟨rfl, ff⟩
    replace HNL := hide (HNL.out.no ff)
    replace HBy0 := hide (HBy0.out.fr ff fun h => h)
    clear ff e0 e1 e2 e3 e4 ef eq_ l0 l1 lq
    obtain ⟨e0, e1, e2, e3, e4, ef⟩ := HNL.out.bv.cells5
    have eq_ := HNL.out.bv.lt
    have l0 : w8.cell? ⟨gl, 0, none⟩ = some (.pointer none) := HNL.out.bl.cell 0
    have l1 : w8.cell? ⟨gl, 1, none⟩ = some (.pointer (some ⟨gE, 0, none⟩)) := HNL.out.bl.cell 1
    have lq := HNL.out.bl.lt
    go_wp2_with fail
    refine (GFirst_no (show NoW w8 none from (.inl rfl)) a).mono ?_
    rintro e w9 ⟨rfl, ff⟩
    replace HNL := hide (HNL.out.no ff)
    replace HBy0 := hide (HBy0.out.fr ff fun h => h)
    clear ff e0 e1 e2 e3 e4 ef eq_ l0 l1 lq
    obtain ⟨e0, e1, e2, e3, e4, ef⟩ := HNL.out.bv.cells5
    have eq_ := HNL.out.bv.lt
    have l0 : w9.cell? ⟨gl, 0, none⟩ = some (.pointer none) := HNL.out.bl.cell 0
    have l1 : w9.cell? ⟨gl, 1, none⟩ = some (.pointer (some ⟨gE, 0, none⟩)) := HNL.out.bl.cell 1
    have lq := HNL.out.bl.lt
    go_wp2_with fail
    refine (GBehind_no (show NoW w9 none from (.inl rfl)) a).mono ?_
    rintro e w10 ⟨rfl, ff⟩
    replace HNL := hide (HNL.out.no ff)
    replace HBy0 := hide (HBy0.out.fr ff fun h => h)
    clear ff e0 e1 e2 e3 e4 ef eq_ l0 l1 lq
    obtain ⟨e0, e1, e2, e3, e4, ef⟩ := HNL.out.bv.cells5
    have eq_ := HNL.out.bv.lt
    have l0 : w10.cell? ⟨gl, 0, none⟩ = some (.pointer none) := HNL.out.bl.cell 0
    have l1 : w10.cell? ⟨gl, 1, none⟩ = some (.pointer (some ⟨gE, 0, none⟩)) := HNL.out.bl.cell 1
    have lq := HNL.out.bl.lt
    go_wp2_with fail
    refine (GStop_no (show NoW w10 none from (.inl rfl)) (.slice AL nl cl) (.slice AL nl cl)).mono ?_
    rintro e w11 ⟨rfl, ff⟩
    replace HNL := hide (HNL.out.no ff)
    replace HBy0 := hide (HBy0.out.fr ff fun h => h)
    clear ff e0 e1 e2 e3 e4 ef eq_ l0 l1 lq
    obtain ⟨e0, e1, e2, e3, e4, ef⟩ := HNL.out.bv.cells5
    have eq_ := HNL.out.bv.lt
    have l0 : w11.cell? ⟨gl, 0, none⟩ = some (.pointer none) := HNL.out.bl.cell 0
    have l1 : w11.cell? ⟨gl, 1, none⟩ = some (.pointer (some ⟨gE, 0, none⟩)) := HNL.out.bl.cell 1
    have lq := HNL.out.bl.lt
    obtain ⟨y0, y1, y2, y3, y4, yf⟩ := HBy0.out.cells5
    have yq := HBy0.out.lt
    go_wp2_with fail
    refine ((GCut_no (show NoW w11 none from (.inl rfl)) a).mono (fun e w' h => (⟨h.1, by rw [h.2]; exact Fr.refl No _⟩ : _ ∧ Fr No w11 w'))).mono ?_
    rintro e w12 ⟨rfl, ff⟩
    replace HNL := hide (HNL.out.no ff)
    replace HBy0 := hide (HBy0.out.fr ff fun h => h)
    clear ff e0 e1 e2 e3 e4 ef eq_ l0 l1 lq
    clear y0 y1 y2 y3 y4 yf yq
    obtain ⟨e0, e1, e2, e3, e4, ef⟩ := HNL.out.bv.cells5
    have eq_ := HNL.out.bv.lt
    have l0 : w12.cell? ⟨gl, 0, none⟩ = some (.pointer none) := HNL.out.bl.cell 0
    have l1 : w12.cell? ⟨gl, 1, none⟩ = some (.pointer (some ⟨gE, 0, none⟩)) := HNL.out.bl.cell 1
    have lq := HNL.out.bl.lt
    obtain ⟨y0, y1, y2, y3, y4, yf⟩ := HBy0.out.cells5
    have yq := HBy0.out.lt
    go_wp2_with fail
    refine (Nothing_zero _).mono ?_
    rintro e w13 ⟨rfl, ff⟩
    replace HNL := hide (HNL.out.no ff)
    replace HBy0 := hide (HBy0.out.fr ff fun h => h)
    clear ff e0 e1 e2 e3 e4 ef eq_ l0 l1 lq
    clear y0 y1 y2 y3 y4 yf yq
    obtain ⟨e0, e1, e2, e3, e4, ef⟩ := HNL.out.bv.cells5
    have eq_ := HNL.out.bv.lt
    have l0 : w13.cell? ⟨gl, 0, none⟩ = some (.pointer none) := HNL.out.bl.cell 0
    have l1 : w13.cell? ⟨gl, 1, none⟩ = some (.pointer (some ⟨gE, 0, none⟩)) := HNL.out.bl.cell 1
    have lq := HNL.out.bl.lt
    obtain ⟨y0, y1, y2, y3, y4, yf⟩ := HBy0.out.cells5
    have yq := HBy0.out.lt
    go_wp2_with fail
    refine (walk_no (show NoW w13 none from (.inl rfl))).mono ?_
    rintro e w14 ⟨rfl, ff⟩
    replace HNL := hide (HNL.out.no ff)
    replace HBy0 := hide (HBy0.out.fr ff fun h => h)
    clear ff e0 e1 e2 e3 e4 ef eq_ l0 l1 lq
    clear y0 y1 y2 y3 y4 yf yq
    obtain ⟨e0, e1, e2, e3, e4, ef⟩ := HNL.out.bv.cells5
    have eq_ := HNL.out.bv.lt
    have l0 : w14.cell? ⟨gl, 0, none⟩ = some (.pointer none) := HNL.out.bl.cell 0
    have l1 : w14.cell? ⟨gl, 1, none⟩ = some (.pointer (some ⟨gE, 0, none⟩)) := HNL.out.bl.cell 1
    have lq := HNL.out.bl.lt
    obtain ⟨y0, y1, y2, y3, y4, yf⟩ := HBy0.out.cells5
    have yq := HBy0.out.lt
    clear y0 y1 y2 y3 y4 yf yq
    clear HBy0
    go_wp2_with fail
    rw [rounds_succ]
    go_wp2_with fail
    refine ((GNew_no (show NoW w14 (some ⟨gE, 0, none⟩) from (.inr ⟨gE, rfl, HNL.out.bE⟩)) home a).mono (fun e w' h => (⟨h.1, by rw [h.2]; exact Fr.refl No _⟩ : _ ∧ Fr No w14 w'))).mono ?_
    rintro e w15 ⟨rfl, ff⟩
    replace HNL := hide (HNL.out.no ff)
    clear ff e0 e1 e2 e3 e4 ef eq_ l0 l1 lq
    obtain ⟨e0, e1, e2, e3, e4, ef⟩ := HNL.out.bv.cells5
    have eq_ := HNL.out.bv.lt
    have l0 : w15.cell? ⟨gl, 0, none⟩ = some (.pointer none) := HNL.out.bl.cell 0
    have l1 : w15.cell? ⟨gl, 1, none⟩ = some (.pointer (some ⟨gE, 0, none⟩)) := HNL.out.bl.cell 1
    have lq := HNL.out.bl.lt
    go_wp2_with fail
    refine ((GIsCut_no (show NoW w15 (some ⟨gE, 0, none⟩) from (.inr ⟨gE, rfl, HNL.out.bE⟩)) a).mono (fun e w' h => (⟨h.1, by rw [h.2]; exact Fr.refl No _⟩ : _ ∧ Fr No w15 w'))).mono ?_
    rintro e w16 ⟨rfl, ff⟩
    replace HNL := hide (HNL.out.no ff)
    clear ff e0 e1 e2 e3 e4 ef eq_ l0 l1 lq
    obtain ⟨e0, e1, e2, e3, e4, ef⟩ := HNL.out.bv.cells5
    have eq_ := HNL.out.bv.lt
    have l0 : w16.cell? ⟨gl, 0, none⟩ = some (.pointer none) := HNL.out.bl.cell 0
    have l1 : w16.cell? ⟨gl, 1, none⟩ = some (.pointer (some ⟨gE, 0, none⟩)) := HNL.out.bl.cell 1
    have lq := HNL.out.bl.lt
    go_wp2_with fail
    refine (GDo_no (show NoW w16 (some ⟨gE, 0, none⟩) from (.inr ⟨gE, rfl, HNL.out.bE⟩)) a ab k n s A len cap r).mono ?_
    rintro e w17 ⟨rfl, ff⟩
    replace HNL := hide (HNL.out.no ff)
    clear ff e0 e1 e2 e3 e4 ef eq_ l0 l1 lq
    obtain ⟨e0, e1, e2, e3, e4, ef⟩ := HNL.out.bv.cells5
    have eq_ := HNL.out.bv.lt
    have l0 : w17.cell? ⟨gl, 0, none⟩ = some (.pointer none) := HNL.out.bl.cell 0
    have l1 : w17.cell? ⟨gl, 1, none⟩ = some (.pointer (some ⟨gE, 0, none⟩)) := HNL.out.bl.cell 1
    have lq := HNL.out.bl.lt
    go_upto_region 11 with (fail)
    have ff := (Fr.refl No w17).alloc (.cells #[.int .u8 0, .int .i64 0, .string ⟨#[]⟩, .slice none 0 0, .int .i64 0] 28)
    replace HNL := hide (HNL.out.no ff)
    have HBy1 := hide (Blk.new w17 28 #[.int .u8 0, .int .i64 0, .string ⟨#[]⟩, .slice none 0 0, .int .i64 0])
    clear ff e0 e1 e2 e3 e4 ef eq_ l0 l1 lq
    generalize hgy1 : w17.heap.size = gy1 at *
    generalize World.alloc w17 _ = w18 at *
    obtain ⟨e0, e1, e2, e3, e4, ef⟩ := HNL.out.bv.cells5
    have eq_ := HNL.out.bv.lt
    have l0 : w18.cell? ⟨gl, 0, none⟩ = some (.pointer none) := HNL.out.bl.cell 0
    have l1 : w18.cell? ⟨gl, 1, none⟩ = some (.pointer (some ⟨gE, 0, none⟩)) := HNL.out.bl.cell 1
    have lq := HNL.out.bl.lt
    go_wp2_with fail
    refine ((GOf_no (show NoW w18 (some ⟨gE, 0, none⟩) from (.inr ⟨gE, rfl, HNL.out.bE⟩)) a).mono (fun e w' h => (⟨h.1, by rw [h.2]; exact Fr.refl No _⟩ : _ ∧ Fr No w18 w'))).mono ?_
    rintro e w19 ⟨rfl, ff⟩
    replace HNL := hide (HNL.out.no ff)
    replace HBy1 := hide (HBy1.out.fr ff fun h => h)
    clear ff e0 e1 e2 e3 e4 ef eq_ l0 l1 lq
    obtain ⟨e0, e1, e2, e3, e4, ef⟩ := HNL.out.bv.cells5
    have eq_ := HNL.out.bv.lt
    have l0 : w19.cell? ⟨gl, 0, none⟩ = some (.pointer none) := HNL.out.bl.cell 0
    have l1 : w19.cell? ⟨gl, 1, none⟩ = some (.pointer (some ⟨gE, 0, none⟩)) := HNL.out.bl.cell 1
    have lq := HNL.out.bl.lt
    go_wp2_with fail
    refine ((GGates_no (show NoW w19 (some ⟨gE, 0, none⟩) from (.inr ⟨gE, rfl, HNL.out.bE⟩)) a).mono (fun e w' h => (⟨h.1, by rw [h.2]; exact Fr.refl No _⟩ : _ ∧ Fr No w19 w'))).mono ?_
    rintro e w20 ⟨rfl, ff⟩
    replace HNL := hide (HNL.out.no ff)
    replace HBy1 := hide (HBy1.out.fr ff fun h => h)
    clear ff e0 e1 e2 e3 e4 ef eq_ l0 l1 lq
    obtain ⟨e0, e1, e2, e3, e4, ef⟩ := HNL.out.bv.cells5
    have eq_ := HNL.out.bv.lt
    have l0 : w20.cell? ⟨gl, 0, none⟩ = some (.pointer none) := HNL.out.bl.cell 0
    have l1 : w20.cell? ⟨gl, 1, none⟩ = some (.pointer (some ⟨gE, 0, none⟩)) := HNL.out.bl.cell 1
    have lq := HNL.out.bl.lt
    go_wp2_with fail
    refine (GFirst_no (show NoW w20 (some ⟨gE, 0, none⟩) from (.inr ⟨gE, rfl, HNL.out.bE⟩)) a).mono ?_
    rintro e w21 ⟨rfl, ff⟩
    replace HNL := hide (HNL.out.no ff)
    replace HBy1 := hide (HBy1.out.fr ff fun h => h)
    clear ff e0 e1 e2 e3 e4 ef eq_ l0 l1 lq
    obtain ⟨e0, e1, e2, e3, e4, ef⟩ := HNL.out.bv.cells5
    have eq_ := HNL.out.bv.lt
    have l0 : w21.cell? ⟨gl, 0, none⟩ = some (.pointer none) := HNL.out.bl.cell 0
    have l1 : w21.cell? ⟨gl, 1, none⟩ = some (.pointer (some ⟨gE, 0, none⟩)) := HNL.out.bl.cell 1
    have lq := HNL.out.bl.lt
    go_wp2_with fail
    refine (GBehind_no (show NoW w21 (some ⟨gE, 0, none⟩) from (.inr ⟨gE, rfl, HNL.out.bE⟩)) a).mono ?_
    rintro e w22 ⟨rfl, ff⟩
    replace HNL := hide (HNL.out.no ff)
    replace HBy1 := hide (HBy1.out.fr ff fun h => h)
    clear ff e0 e1 e2 e3 e4 ef eq_ l0 l1 lq
    obtain ⟨e0, e1, e2, e3, e4, ef⟩ := HNL.out.bv.cells5
    have eq_ := HNL.out.bv.lt
    have l0 : w22.cell? ⟨gl, 0, none⟩ = some (.pointer none) := HNL.out.bl.cell 0
    have l1 : w22.cell? ⟨gl, 1, none⟩ = some (.pointer (some ⟨gE, 0, none⟩)) := HNL.out.bl.cell 1
    have lq := HNL.out.bl.lt
    go_wp2_with fail
    refine (GStop_no (show NoW w22 (some ⟨gE, 0, none⟩) from (.inr ⟨gE, rfl, HNL.out.bE⟩)) (.slice AL nl cl) (.slice AL nl cl)).mono ?_
    rintro e w23 ⟨rfl, ff⟩
    replace HNL := hide (HNL.out.no ff)
    replace HBy1 := hide (HBy1.out.fr ff fun h => h)
    clear ff e0 e1 e2 e3 e4 ef eq_ l0 l1 lq
    obtain ⟨e0, e1, e2, e3, e4, ef⟩ := HNL.out.bv.cells5
    have eq_ := HNL.out.bv.lt
    have l0 : w23.cell? ⟨gl, 0, none⟩ = some (.pointer none) := HNL.out.bl.cell 0
    have l1 : w23.cell? ⟨gl, 1, none⟩ = some (.pointer (some ⟨gE, 0, none⟩)) := HNL.out.bl.cell 1
    have lq := HNL.out.bl.lt
    obtain ⟨y0, y1, y2, y3, y4, yf⟩ := HBy1.out.cells5
    have yq := HBy1.out.lt
    go_wp2_with fail
    refine ((GCut_no (show NoW w23 (some ⟨gE, 0, none⟩) from (.inr ⟨gE, rfl, HNL.out.bE⟩)) a).mono (fun e w' h => (⟨h.1, by rw [h.2]; exact Fr.refl No _⟩ : _ ∧ Fr No w23 w'))).mono ?_
    rintro e w24 ⟨rfl, ff⟩
    replace HNL := hide (HNL.out.no ff)
    replace HBy1 := hide (HBy1.out.fr ff fun h => h)
    clear ff e0 e1 e2 e3 e4 ef eq_ l0 l1 lq
    clear y0 y1 y2 y3 y4 yf yq
    obtain ⟨e0, e1, e2, e3, e4, ef⟩ := HNL.out.bv.cells5
    have eq_ := HNL.out.bv.lt
    have l0 : w24.cell? ⟨gl, 0, none⟩ = some (.pointer none) := HNL.out.bl.cell 0
    have l1 : w24.cell? ⟨gl, 1, none⟩ = some (.pointer (some ⟨gE, 0, none⟩)) := HNL.out.bl.cell 1
    have lq := HNL.out.bl.lt
    obtain ⟨y0, y1, y2, y3, y4, yf⟩ := HBy1.out.cells5
    have yq := HBy1.out.lt
    go_wp2_with fail
    refine (Nothing_zero _).mono ?_
    rintro e w25 ⟨rfl, ff⟩
    replace HNL := hide (HNL.out.no ff)
    replace HBy1 := hide (HBy1.out.fr ff fun h => h)
    clear ff e0 e1 e2 e3 e4 ef eq_ l0 l1 lq
    clear y0 y1 y2 y3 y4 yf yq
    obtain ⟨e0, e1, e2, e3, e4, ef⟩ := HNL.out.bv.cells5
    have eq_ := HNL.out.bv.lt
    have l0 : w25.cell? ⟨gl, 0, none⟩ = some (.pointer none) := HNL.out.bl.cell 0
    have l1 : w25.cell? ⟨gl, 1, none⟩ = some (.pointer (some ⟨gE, 0, none⟩)) := HNL.out.bl.cell 1
    have lq := HNL.out.bl.lt
    obtain ⟨y0, y1, y2, y3, y4, yf⟩ := HBy1.out.cells5
    have yq := HBy1.out.lt
    go_wp2_with fail
    refine (walk_no (show NoW w25 (some ⟨gE, 0, none⟩) from (.inr ⟨gE, rfl, HNL.out.bE⟩))).mono ?_
    rintro e w26 ⟨rfl, ff⟩
    replace HNL := hide (HNL.out.no ff)
    replace HBy1 := hide (HBy1.out.fr ff fun h => h)
    clear ff e0 e1 e2 e3 e4 ef eq_ l0 l1 lq
    clear y0 y1 y2 y3 y4 yf yq
    obtain ⟨e0, e1, e2, e3, e4, ef⟩ := HNL.out.bv.cells5
    have eq_ := HNL.out.bv.lt
    have l0 : w26.cell? ⟨gl, 0, none⟩ = some (.pointer none) := HNL.out.bl.cell 0
    have l1 : w26.cell? ⟨gl, 1, none⟩ = some (.pointer (some ⟨gE, 0, none⟩)) := HNL.out.bl.cell 1
    have lq := HNL.out.bl.lt
    obtain ⟨y0, y1, y2, y3, y4, yf⟩ := HBy1.out.cells5
    have yq := HBy1.out.lt
    clear y0 y1 y2 y3 y4 yf yq
    clear HBy1
    go_wp2_with fail
    rw [rounds_succ]
    go_wp2_with fail
    refine (HAW.out w26).mono ?_
    rintro e wZ ⟨rfl, fZ⟩
    have HFZ := hide (HNL.out.fr.trans fZ)
    clear fZ
    go_wp2
    go_ret
    exact ⟨rfl, HFZ.out⟩

end Go.Proofs.YtlejelbefmkakaaGreat

/- Two closed facts for the lifts. -/
namespace Go.Proofs.YtlejelbefmkakaaGreat
theorem knob0 : ownKnob Tryz.prog.godebug = none := by kernel_rfl
theorem laidOut0 : laidOutB Tryz.prog = true := by kernel_rfl
end Go.Proofs.YtlejelbefmkakaaGreat

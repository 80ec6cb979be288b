/- Texts joined: Wg18. -/
import Derived.Test.YtlejelbefmkakaaGreatJn25
/- Chapter 12: the calls whose answers the document fixes. -/
namespace Go.Proofs.YtlejelbefmkakaaGreat
open Go.RowKit

theorem get_lit {m : Wm} {l : List (Nat × Th)} (h : m.th = l) (i : Nat) {x : Nat × Th} (hi : l[i]? = some x) : m.get ((i : Int) + 1) = some x := by
  subst h
  have := (List.getElem?_eq_some_iff.1 hi).1
  unfold Wm.get Wm.at_
  rw [if_pos (by omega)]
  simpa using hi

theorem kind_lit {m : Wm} {r : Int} {x : Nat × Th} (h : m.get r = some x) : m.kind r = x.2.kind := by
  unfold Wm.kind
  rw [h]
  rfl

/-- A world of one side. -/
structure G1 (W : World) (m : Wm) (th : List (Nat × Th)) (k : Nat) (w : World) : Prop where
  th : m.th = th
  made : m.made = [k]
  ok : m.Ok W.heap.size w
  fr : Fr No W w

theorem G1.mono {W w w' : World} {m m' : Wm} {th : List (Nat × Th)} {k : Nat} (h : G1 W m th k w) (f : Fr m.B w w') : Fr No W w' := h.fr.trans' f fun i hi hb => by have := (h.ok.lt i hb).1; omega

theorem G1.cell {W w : World} {m : Wm} (h : G1 W m [] 0 w) :
    Calls Tryz.prog 85 #[.pointer (some ⟨m.wb, 0, none⟩), .agg #[.int .u8 1, .int .i64 0, .int .u8 0, .int .i64 0, .string ⟨#[]⟩, .slice none 0 0, .int .i64 0, .slice none 0 0, .int .i64 0, .int .i64 0, .int .i64 0, .int .i64 0, .int .u8 0, .bool false, .slice none 0 0, .slice none 0 0]] w fun e w' =>
      e = .returned (.tuple #[.int .i64 1, .int .i64 0]) ∧ ∃ m' g, m'.wb = m.wb ∧ G1 W m' [(g, ⟨1, 0, T.zero, 0, 0, 0, 0, 0, false⟩)] 1 w' := by
  have hs : 0 < m.made.length := by rw [h.made]; simp
  have h0 : m.made[0] = 0 := by simp [h.made]
  have hl : m.th.length = 0 := by rw [h.th]; rfl
  have hm := make1 h.ok h.fr.size 0 hs (by omega) (by omega)
  refine hm.mono ?_
  rintro e w' ⟨rfl, g, t', hv, -, -, hok, f⟩
  have hth : (m.add g ⟨1, (0 : Nat), t', 0, 0, 0, 0, 0, false⟩ 0).th = [(g, ⟨1, (0 : Nat), t', 0, 0, 0, 0, 0, false⟩)] := by simp [Wm.add, h.th]
  obtain rfl := zero_of (hok.vals (g, ⟨1, (0 : Nat), t', 0, 0, 0, 0, 0, false⟩) (by rw [hth]; simp)) (hv.trans T.zero_v)
  rw [hl]
  refine ⟨rfl, _, g, ?_, hth, by simp [Wm.add, h.made], hok, h.mono (m' := m) f⟩
  rfl

theorem G1.new {W w : World} {m : Wm} {th : List (Nat × Th)} {k : Nat} (h : G1 W m th k w) (hk : k + 2 ≤ 512) (hlen : th.length + 2 < 100000) {target : Int} {y : Nat × Th} (hy : m.get target = some y) :
    Calls Tryz.prog 29 #[.pointer (some ⟨m.wb, 0, none⟩), .int .i64 0, .int .i64 target] w fun e w' =>
      e = .returned (.tuple #[.int .i64 ((th.length : Int) + 1 + 1), .int .i64 ((th.length : Int) + 1), .int .i64 0]) ∧ ∃ m' g1 g2, m'.wb = m.wb ∧ G1 W m' (th ++ [(g1, ⟨13, 0, T.zero, 0, 0, (th.length : Int) + 1 + 1, 0, 0, false⟩), (g2, ⟨15, 0, T.zero, 0, 0, target, (th.length : Int) + 1, 0, false⟩)]) (k + 1 + 1) w' := by
  have hs : 0 < m.made.length := by rw [h.made]; simp
  have h0 : m.made[0] = k := by simp [h.made]
  have hl : m.th.length = th.length := by rw [h.th]
  have hm := GNew_ok h.ok h.fr.size 0 hs (by omega) (by omega) hy
  refine hm.mono ?_
  rintro e w' ⟨rfl, m', g1, g2, hwb, hth, hmd, hok, f⟩
  rw [hl] at hth ⊢
  refine ⟨rfl, m', g1, g2, hwb, ?_, ?_, hok, h.mono (m' := m) f⟩
  · rw [hth, h.th]
    rfl
  · rw [hmd, h.made]
    rfl

set_option maxRecDepth 100000 in
set_option maxHeartbeats 8000000 in
theorem awake12 (W : World) : Calls Tryz.prog 28 #[] W fun e w' => e = .returned (.bool true) ∧ Fr No W w' := by
  have HNew := hide (New_one W)
  go_enter Tryz.func28, Tryz.ntmps28
  go_wp2_with fail
  refine HNew.out.mono ?_
  rintro e w1 ⟨m0, rfl, hok, hth, hmd, f1⟩
  have S0 : G1 W m0 [] 0 w1 := ⟨hth, hmd, hok, f1⟩
  have C0 := hide S0.cell
  clear hok hth hmd f1 HNew S0
  go_wp2_with fail
  refine C0.out.mono ?_
  rintro e w2 ⟨rfl, m1, g1, hwb1, S1⟩
  have C1 := hide (S1.new (by omega) (by simp) (get_lit S1.th 0 rfl))
  rw [hwb1] at C1
  simp only [List.length_cons, List.length_nil] at C1
  clear S1 C0
  go_wp2_with fail
  refine C1.out.mono ?_
  rintro e w3 ⟨rfl, m3, g2, g3, hwb3, S3⟩
  have hwb : m3.wb = m0.wb := hwb3
  have C3 := hide (S3.new (by omega) (by simp) (get_lit S3.th 2 rfl))
  rw [hwb] at C3
  simp only [List.length_cons, List.length_nil, List.length_append] at C3
  clear S3 C1 hwb1 hwb3
  go_wp2_with fail
  refine C3.out.mono ?_
  rintro e w4 ⟨rfl, m5, g4, g5, hwb5, S5⟩
  have hwb' : m5.wb = m0.wb := hwb5
  have q1 : m5.get 1 = some (g1, ⟨1, 0, T.zero, 0, 0, 0, 0, 0, false⟩) := get_lit S5.th 0 rfl
  have q2 : m5.get 2 = some (g2, ⟨13, (0 : Nat), T.zero, 0, 0, 3, 0, 0, false⟩) := get_lit S5.th 1 rfl
  have q3 : m5.get 3 = some (g3, ⟨15, 0, T.zero, 0, 0, 1, 2, 0, false⟩) := get_lit S5.th 2 rfl
  have q4 : m5.get 4 = some (g4, ⟨13, 0, T.zero, 0, 0, 5, 0, 0, false⟩) := get_lit S5.th 3 rfl
  have q5 : m5.get 5 = some (g5, ⟨15, 0, T.zero, 0, 0, 3, 4, 0, false⟩) := get_lit S5.th 4 rfl
  have hs : 0 < m5.made.length := by rw [S5.made]; simp
  have way5 : Way m5 5 [5, 3, 1] := .wrap q5 (by simp) (.wrap q3 (by simp) (.base q1 (by simp)))
  have hg5 : m5.gatesOf [5, 3, 1] = [5, 3] := by simp [Wm.gatesOf, kind_lit q5, kind_lit q3, kind_lit q1]
  have hCG := Gates_w S5.ok way5 (by simp) (by rw [q5]; rfl)
  rw [hg5, hwb'] at hCG
  have CG := hide hCG
  have HS5 := hide S5
  have HQ := hide (And.intro q1 (And.intro q2 (And.intro q3 (And.intro q4 q5))))
  clear S5 C3 hwb5 hwb q1 q2 q3 q4 q5 way5 hg5 hCG
  go_wp2_with fail
  refine CG.out.mono ?_
  rintro e w5 ⟨v, rfl, hrow, f5⟩
  obtain ⟨gl, cl, hv, hgl0, hgl1⟩ := hrow.form (by simp)
  subst hv
  have e0 := World.ownsRow.cells hrow (g := gl) rfl 0 (.int .i64 5) rfl
  have e1 := World.ownsRow.cells hrow (g := gl) rfl 1 (.int .i64 3) rfl
  rw [add_at, Nat.zero_add] at e0 e1
  have hCC := GCut_w (HS5.out.ok.no f5) (by have := HS5.out.fr.size; have := f5.size; omega) HQ.out.2.1 hs
  rw [hwb'] at hCC
  have CC := hide hCC
  have E0 := hide e0
  have E1 := hide e1
  have HF5 := hide (HS5.out.fr.trans f5)
  have HG0 := hide (fun h : m5.B gl => by have := (HS5.out.ok.lt gl h).2; omega : ¬ m5.B gl)
  have HG1 := hide hgl1
  have HM5 := hide (HS5.out.mono (m' := m5) (w' := w5) f5.no)
  have HB5 := hide fun i (hi : m5.B i) => (HS5.out.ok.lt i hi).1
  have hth5 := HS5.out.th
  clear hCC e0 e1 f5 hgl0 hgl1 hrow CG HS5 hs
  simp only [List.length_cons, List.length_nil]
  go_wp2_with fail
  refine CC.out.mono ?_
  rintro e w6 ⟨rfl, hok6, f6⟩
  have hn1 : ((2 : Int) - 1).toNat = 1 := by decide
  rw [hn1] at hok6
  obtain ⟨m6, hm6⟩ : ∃ m6, m6 = m5.put 1 ⟨13, (0 : Nat), T.zero, 0, 0, 3, 0, 0, true⟩ := ⟨_, rfl⟩
  rw [← hm6] at hok6
  obtain ⟨q1, q2, q3, q4, q5⟩ := HQ.out
  have r1 : m6.get 1 = some (g1, ⟨1, 0, T.zero, 0, 0, 0, 0, 0, false⟩) := by rw [hm6, put_get_other (by decide)]; exact q1
  have r2 : m6.get 2 = some (g2, ⟨13, (0 : Nat), T.zero, 0, 0, 3, 0, 0, true⟩) := by rw [hm6]; exact put_get_same (i := 1) (get_at q2).1
  have r3 : m6.get 3 = some (g3, ⟨15, 0, T.zero, 0, 0, 1, 2, 0, false⟩) := by rw [hm6, put_get_other (by decide)]; exact q3
  have r4 : m6.get 4 = some (g4, ⟨13, 0, T.zero, 0, 0, 5, 0, 0, false⟩) := by rw [hm6, put_get_other (by decide)]; exact q4
  have r5 : m6.get 5 = some (g5, ⟨15, 0, T.zero, 0, 0, 3, 4, 0, false⟩) := by rw [hm6, put_get_other (by decide)]; exact q5
  have hwb6 : m6.wb = m0.wb := by rw [hm6]; exact hwb'
  have way6 : Way m6 5 [5, 3, 1] := .wrap r5 (by simp) (.wrap r3 (by simp) (.base r1 (by simp)))
  have way1 : Way m6 1 [1] := .base r1 (by simp)
  have hg6 : m6.gatesOf [5, 3, 1] = [5, 3] := by simp [Wm.gatesOf, kind_lit r5, kind_lit r3, kind_lit r1]
  have hg1 : m6.gatesOf [1] = [] := by simp [Wm.gatesOf, kind_lit r1]
  have hcut : ∀ x ∈ m6.gatesOf [5, 3, 1], ∀ W', m6.Ok W.heap.size W' → Calls Tryz.prog 100 #[.pointer (some ⟨m6.wb, 0, none⟩), .int .i64 x] W' fun e w' => e = .returned (.bool (decide (x = 3))) ∧ Fr No W' w' := by
    rw [hg6]
    intro x hx W' h
    simp only [List.mem_cons, List.not_mem_nil, or_false] at hx
    rcases hx with rfl | rfl
    · exact cut_w h r5 r4
    · exact cut_w h r3 r2
  have CF := hide fun w' (f : Fr No w6 w') => by
    have := First_w (hok6.no f) way6 (by simp) (fun x => decide (x = 3)) hcut
    rw [hg6, hwb6] at this
    exact this
  have CF1 := hide fun w' (f : Fr No w6 w') => by
    have := First_w (hok6.no f) way1 (by simp) (fun x => decide (x = 3)) (by rw [hg1]; simp)
    rw [hg1, hwb6] at this
    exact this
  have CD := hide fun w' (f : Fr No w6 w') => by
    have := GDo_w (hok6.no f) r2
    rw [hwb6] at this
    exact this
  have v1 : firstOf (fun x => decide (x = 3)) [5, 3] = .tuple #[.int .i64 3, .bool true] := by simp [firstOf]
  have v2 : firstOf (fun x => decide (x = 3)) [] = .tuple #[.int .i64 0, .bool false] := by simp [firstOf]
  rw [v1] at CF
  rw [v2] at CF1
  have HF6 := hide (HF5.out.trans' f6 fun i hi hb => by have := HB5.out i hb; omega)
  have e0 := hide ((f6.cell HG1.out HG0.out).trans E0.out)
  have e1 := hide ((f6.cell HG1.out HG0.out).trans E1.out)
  have hsz := HG1.out
  have HS6 := hide (Nat.lt_of_lt_of_le HG1.out f6.size)
  clear f6 hok6 q1 q2 q3 q4 q5 r1 r2 r3 r4 r5 hm6 hwb6 way6 way1 hg6 hg1 hcut v1 v2 CC E0 E1 hsz HQ HM5 HB5 hth5 hn1 hwb' HF5
  go_wp2_with fail
  refine (CF.out w6 (Fr.refl _ _)).mono ?_
  rintro e w7 ⟨rfl, f7⟩
  have HF7 := hide f7
  clear f7
  go_wp2_with fail
  refine (CF1.out w7 HF7.out).mono ?_
  rintro e w8 ⟨rfl, f8⟩
  have HF8 := hide (HF7.out.trans f8)
  clear f8
  go_wp2_with fail
  refine (CD.out w8 HF8.out).mono ?_
  rintro e w9 ⟨rfl, f9⟩
  have HF9 := hide (HF8.out.trans f9)
  have d0 := (HF9.out.cell HS6.out fun h => h).trans e0.out
  have d1 := (HF9.out.cell HS6.out fun h => h).trans e1.out
  have dq := Nat.lt_of_lt_of_le HS6.out HF9.out.size
  have HFE := hide (HF6.out.trans HF9.out)
  clear f9 CF CF1 CD HF7 HF8
  go_wp2_with fail
  go_ret
  refine ⟨rfl, ?_⟩
  have hz := HFE.out.size
  repeat (first | with_reducible exact HFE.out | with_reducible refine Fr.alloc ?_ _ | with_reducible refine Fr.setNew ?_ (by first | (simp; done) | (simp; omega)) _)

end Go.Proofs.YtlejelbefmkakaaGreat

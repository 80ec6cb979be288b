/- Texts joined: Gf12, No11. -/
import Derived.Test.YtlejelbefmkakaaGreatJn21
import Derived.Deep.Cut
import Derived.Deep.CutRange
/- Chapter 11: the calls whose answers the document fixes. -/
namespace Go.Proofs.YtlejelbefmkakaaGreat
open Go.RowKit

/-- A world with one log, as one of whatever things. -/
def lgW (wb M F gc : Nat) (D : Option Addr) (dc g : Nat) : Gm := ⟨wb, M, F, none, 0, [], some ⟨gc, 0, none⟩, 1, [false], D, dc, [1], 1, [(1, g, Tg.z 2 0 0 0 0 0 0 false)], []⟩

section
variable (wb M F gc : Nat) (D : Option Addr) (dc g g2 g3 : Nat)

theorem lg1 : (lgW wb M F gc D dc g).get 1 = some (g, Tg.z 2 0 0 0 0 0 0 false) := rfl
theorem lg1_zs : (lgW wb M F gc D dc g).Zs := fun x hx => by
  simp only [lgW, List.mem_singleton] at hx
  subst hx
  exact ⟨_, _, _, _, _, _, _, _, rfl⟩
theorem lg1_room : (lgW wb M F gc D dc g).Room := ⟨by simp [lgW], by simp [lgW], by simp [lgW], by simp [lgW]⟩
theorem lg1_abl : (lgW wb M F gc D dc g).Abl 1 9 := .base (lg1 wb M F gc D dc g) (by simp [Tg.z])

/-- The world with a facet. -/
abbrev lg2 : Gm := (lgW wb M F gc D dc g).addF g2 1 1
theorem lg2_at1 : (lg2 wb M F gc D dc g g2).get 1 = some (g, Tg.z 2 0 0 0 0 0 0 false) := rfl
theorem lg2_at2 : (lg2 wb M F gc D dc g g2).get 2 = some (g2, Tg.fac 1 1) := rfl
theorem lg2_zs : (lg2 wb M F gc D dc g g2).Zs := (lg1_zs wb M F gc D dc g).addF _ _ _
theorem lg2_room : (lg2 wb M F gc D dc g g2).Room := ⟨by simp [lgW, Gm.addF], by simp [lgW, Gm.addF], by simp [lgW, Gm.addF], by simp [lgW, Gm.addF]⟩
theorem lg2_abl1 : (lg2 wb M F gc D dc g g2).Abl 1 9 := .base (lg2_at1 wb M F gc D dc g g2) (by simp [Tg.z])
theorem lg2_abl2 : (lg2 wb M F gc D dc g g2).Abl 2 1 := .facet (s := 1) (a := 9) (lg2_at2 wb M F gc D dc g g2) rfl rfl (lg2_abl1 wb M F gc D dc g g2)
theorem lg2_root : (lg2 wb M F gc D dc g g2).root 2 = 1 := rfl

/-- With two. -/
abbrev lg3 : Gm := (lg2 wb M F gc D dc g g2).addF g3 1 0
theorem lg3_at1 : (lg3 wb M F gc D dc g g2 g3).get 1 = some (g, Tg.z 2 0 0 0 0 0 0 false) := rfl
theorem lg3_at3 : (lg3 wb M F gc D dc g g2 g3).get 3 = some (g3, Tg.fac 1 0) := rfl
theorem lg3_zs : (lg3 wb M F gc D dc g g2 g3).Zs := (lg2_zs wb M F gc D dc g g2).addF _ _ _
theorem lg3_room : (lg3 wb M F gc D dc g g2 g3).Room := ⟨by simp [lgW, Gm.addF], by simp [lgW, Gm.addF], by simp [lgW, Gm.addF], by simp [lgW, Gm.addF]⟩
theorem lg3_abl1 : (lg3 wb M F gc D dc g g2 g3).Abl 1 9 := .base (lg3_at1 wb M F gc D dc g g2 g3) (by simp [Tg.z])
theorem lg3_abl3 : (lg3 wb M F gc D dc g g2 g3).Abl 3 0 := .facet (s := 0) (a := 9) (lg3_at3 wb M F gc D dc g g2 g3) rfl rfl (lg3_abl1 wb M F gc D dc g g2 g3)

theorem nar1 : (lgW wb M F gc D dc g).nar g2 ((lgW wb M F gc D dc g).root 1) (1 &&& 9) 9 = (2, lg2 wb M F gc D dc g g2) := rfl
theorem nar2 : (lg2 wb M F gc D dc g g2).nar g3 ((lg2 wb M F gc D dc g g2).root 2) (8 &&& 1) 9 = (3, lg3 wb M F gc D dc g g2 g3) := rfl
theorem nar3 (g4 : Nat) : (lg3 wb M F gc D dc g g2 g3).nar g4 ((lg3 wb M F gc D dc g g2 g3).root 1) (63 &&& 9) 9 = (1, lg3 wb M F gc D dc g g2 g3) := rfl
end

set_option maxRecDepth 100000 in
set_option maxHeartbeats 8000000 in
theorem awake11 (W : World) : Calls Tryz.prog 68 #[] W fun e w' => e = .returned (.bool true) ∧ Fr No W w' := by
  have HNew := hide (New_one2 W)
  go_enter Tryz.func68, Tryz.ntmps68
  go_wp2_with fail
  refine HNew.out.mono ?_
  rintro e w1 ⟨m, rfl, hok, hth, hmd, hfac, hP, hpn, hpc, ⟨gc, hC, hcn, hcc, hbc, hgc⟩, f1⟩
  have hs0 : 0 < m.made.length := by rw [hmd]; simp
  have hm0 : m.made[0] = 0 := by simp [hmd]
  have hl0 : m.th.length = 0 := by rw [hth]; rfl
  have hmk := make2 hok f1.size 0 hs0 (by omega) (by omega)
  have hgcB : ¬ m.B gc := by
    obtain ⟨es, cl, hm, -⟩ := hok.things
    obtain ⟨ef, cf, hff, -⟩ := hok.facets
    rintro (rfl | rfl | rfl | hi | ⟨x, hx, -⟩)
    · exact Blk.ne_ hbc hok.blk (by decide) rfl
    · exact map_ne_blk hm hbc rfl
    · exact map_ne_blk hff hbc rfl
    · obtain ⟨cs, hb⟩ := owns_typed hok.made hi
      exact Blk.ne_ hb hbc (by decide) rfl
    · rw [hth] at hx
      cases hx
  have HMK : Hid (Calls Tryz.prog 85 #[.pointer (some ⟨m.wb, 0, none⟩), .agg #[.int .u8 2, .int .i64 0, .int .u8 0, .int .i64 0, .string ⟨#[]⟩, .slice none 0 0, .int .i64 0, .slice none 0 0, .int .i64 0, .int .i64 0, .int .i64 0, .int .i64 0, .int .u8 0, .bool false, .slice none 0 0, .slice none 0 0]] w1 fun e w' => e = .returned (.tuple #[.int .i64 1, .int .i64 0]) ∧ ∃ M F D dc g, (lgW m.wb M F gc D dc g).Ok W.heap.size w' ∧ Fr No W w') := hide (by
    refine hmk.mono ?_
    rintro e w' ⟨rfl, g, t', hv, -, -, hok2, f2⟩
    have hth2 : (m.add g ⟨2, (0 : Nat), t', 0, 0, 0, 0, 0, false⟩ 0).th = [(g, ⟨2, (0 : Nat), t', 0, 0, 0, 0, 0, false⟩)] := by simp [Wm.add, hth]
    obtain rfl := zero_of (hok2.vals (g, ⟨2, (0 : Nat), t', 0, 0, 0, 0, 0, false⟩) (by rw [hth2]; simp)) (hv.trans T.zero_v)
    rw [hl0]
    refine ⟨rfl, m.M, m.F, m.D, m.dc, g, ?_, f1.trans' f2 fun i hi hb => by have := (hok.lt i hb).1; omega⟩
    exact gm_of (m := m.add g ⟨2, (0 : Nat), T.zero, 0, 0, 0, 0, 0, false⟩ 0) hok2 hth2 hfac (by simp [Wm.add, hmd]) hP hpn hpc hC hcn hcc (hbc.fr f2 hgcB) hgc
      ⟨by simp [Tg.z], by simp [Tg.z], by simp [Tg.z], by simp [Tg.z], by simp [Tg.z], by simp [Tg.z], by simp [Tg.z]⟩)
  clear hmk hgcB hok hth hmd hfac hP hpn hpc hC hcn hcc hbc hgc f1 HNew hs0 hm0 hl0
  go_wp2_with fail
  refine HMK.out.mono ?_
  rintro e w2 ⟨rfl, M, F, D, dc, g, hok2, f2⟩
  have hn1 := Narrow_g hok2 f2.size ((lg1_zs m.wb M F gc D dc g).what _) (lg1_room m.wb M F gc D dc g) (lg1 m.wb M F gc D dc g) (lg1 m.wb M F gc D dc g) (by simp [Tg.z]) (by show (-9223372036854775808 : Int) ≤ 1 ∧ (1 : Int) ≤ 9223372036854775807; omega) (s := 1) (lg1_abl m.wb M F gc D dc g) (lg1_abl m.wb M F gc D dc g) rfl (by decide)
  have HN1 : Hid (Calls Tryz.prog 69 #[.pointer (some ⟨m.wb, 0, none⟩), .int .i64 1, .int .u8 1] w2 fun e w' => ∃ g2, e = .returned (.tuple #[.int .i64 2, .int .i64 0]) ∧ (lg2 m.wb M F gc D dc g g2).Ok W.heap.size w' ∧ Fr No W w') := hide (by
    refine hn1.mono ?_
    rintro e w' ⟨g2, rfl, hok3, f3⟩
    rw [nar1] at hok3 ⊢
    exact ⟨g2, rfl, hok3, f2.trans' f3 fun i hi hb => by have := (hok2.lt i hb).1; omega⟩)
  clear hn1 hok2 f2 HMK
  go_wp2_with fail
  refine HN1.out.mono ?_
  rintro e w3 ⟨g2, rfl, hok3, f3⟩
  have hn2 := Narrow_g hok3 f3.size ((lg2_zs m.wb M F gc D dc g g2).what _) (lg2_room m.wb M F gc D dc g g2) (lg2_at2 m.wb M F gc D dc g g2) (lg2_at1 m.wb M F gc D dc g g2) (by simp [Tg.z]) (by show (-9223372036854775808 : Int) ≤ 1 ∧ (1 : Int) ≤ 9223372036854775807; omega) (s := 8) (lg2_abl1 m.wb M F gc D dc g g2) (lg2_abl2 m.wb M F gc D dc g g2) rfl (by decide)
  have HN2 : Hid (Calls Tryz.prog 69 #[.pointer (some ⟨m.wb, 0, none⟩), .int .i64 2, .int .u8 8] w3 fun e w' => ∃ g3, e = .returned (.tuple #[.int .i64 3, .int .i64 0]) ∧ (lg3 m.wb M F gc D dc g g2 g3).Ok W.heap.size w' ∧ Fr No W w') := hide (by
    refine hn2.mono ?_
    rintro e w' ⟨g3, rfl, hok4, f4⟩
    rw [nar2] at hok4 ⊢
    exact ⟨g3, rfl, hok4, f3.trans' f4 fun i hi hb => by have := (hok3.lt i hb).1; omega⟩)
  clear hn2 hok3 f3 HN1
  go_wp2_with fail
  refine HN2.out.mono ?_
  rintro e w4 ⟨g3, rfl, hok4, f4⟩
  have hn3 := Narrow_g hok4 f4.size ((lg3_zs m.wb M F gc D dc g g2 g3).what _) (lg3_room m.wb M F gc D dc g g2 g3) (lg3_at1 m.wb M F gc D dc g g2 g3) (lg3_at1 m.wb M F gc D dc g g2 g3) (by simp [Tg.z]) (by show (-9223372036854775808 : Int) ≤ 1 ∧ (1 : Int) ≤ 9223372036854775807; omega) (s := 63) (lg3_abl1 m.wb M F gc D dc g g2 g3) (lg3_abl1 m.wb M F gc D dc g g2 g3) rfl (by decide)
  have HN3 : Hid (Calls Tryz.prog 69 #[.pointer (some ⟨m.wb, 0, none⟩), .int .i64 1, .int .u8 63] w4 fun e w' => e = .returned (.tuple #[.int .i64 1, .int .i64 0]) ∧ (lg3 m.wb M F gc D dc g g2 g3).Ok W.heap.size w' ∧ Fr No W w') := hide (by
    refine hn3.mono ?_
    rintro e w' ⟨g4, rfl, hok5, f5⟩
    rw [nar3] at hok5 ⊢
    exact ⟨rfl, hok5, f4.trans' f5 fun i hi hb => by have := (hok4.lt i hb).1; omega⟩)
  clear hn3 hok4 f4 HN2
  go_wp2_with fail
  refine HN3.out.mono ?_
  rintro e w5 ⟨rfl, hok5, f5⟩
  have ha := Able_w hok5 (lg3_abl3 m.wb M F gc D dc g g2 g3)
  have HA : Hid (Calls Tryz.prog 79 #[.pointer (some ⟨m.wb, 0, none⟩), .int .i64 3] w5 fun e w' => e = .returned (.int .u8 0) ∧ Fr No w5 w') := hide ha
  have HF5 := hide f5
  clear ha hok5 f5 HN3
  go_wp2_with fail
  refine HA.out.mono ?_
  rintro e w6 ⟨rfl, f6⟩
  have HF6 := hide (HF5.out.trans f6)
  clear f6
  go_wp2
  go_ret
  exact ⟨rfl, HF6.out⟩

end Go.Proofs.YtlejelbefmkakaaGreat

/- posternlaw11.FacetNil: a world that is not there. -/
namespace Go.Proofs.YtlejelbefmkakaaGreat
open Go.RowKit

set_option maxRecDepth 100000 in
set_option maxHeartbeats 8000000 in
theorem facetNil_w (r q s : Int) (t : T) (W : World) (ht : t.In W 0 W.heap.size) :
    Calls Tryz.prog 14 #[.int .i64 r, .int .i64 q, .int .u8 s, t.val] W fun e w' => e = .returned (.bool true) ∧ Fr No W w' := by
  obtain ⟨k, n, sb, A, cap, l, r0⟩ := t
  have HG := hide (fun W' (f : Fr No W W') => ffits_any (T.mk k n sb A cap l r0) W' 0 W.heap.size (ht.no f (Nat.le_refl _)) f.size)
  rw [T.val_mk] at HG ⊢
  generalize l.length = len at *
  have HAW := hide awake11
  have hb0 := Blk.new W 28 #[.int .u8 k, .int .i64 n, .string sb, .slice A len cap, .int .i64 r0]
  have hf0 := (Fr.refl No W).alloc (.cells #[.int .u8 k, .int .i64 n, .string sb, .slice A len cap, .int .i64 r0] 28)
  have HB0 := hide hb0
  have HF0 := hide hf0
  obtain ⟨e0, e1, e2, e3, e4, ef⟩ := hb0.cells5
  have eq_ := hb0.lt
  clear hb0 hf0 ht
  go_enter Tryz.func14, Tryz.ntmps14
  go_wp2_with fail
  generalize World.alloc W _ = W0 at *
  refine (HG.out W0 HF0.out).mono ?_
  rintro e w1 ⟨⟨b, rfl⟩, f1⟩
  have HF1 := hide (HF0.out.trans f1)
  have HB1 := hide (HB0.out.fr f1 fun h => h)
  clear f1 e0 e1 e2 e3 e4 ef eq_ HG HF0 HB0
  cases b with
  | false =>
    go_wp2_with fail
    refine (HAW.out w1).mono ?_
    rintro e w2 ⟨rfl, f2⟩
    have HF2 := hide (HF1.out.trans f2)
    clear f2
    go_wp2
    go_ret
    exact ⟨rfl, HF2.out⟩
  | true =>
    go_wp2_with fail
    refine (Narrow_no r s w1).mono ?_
    rintro e w2 ⟨rfl, ff⟩
    have HF2 := hide (HF1.out.trans ff)
    have HB2 := hide (HB1.out.fr ff fun h => h)
    clear ff HF1 HB1
    go_wp2_with fail
    refine (Stack_no r _ _).mono ?_
    rintro e w3 ⟨rfl, ff⟩
    have HF3 := hide ((HF2.out.alloc (.cells #[.int .u8 s, .int .u8 s] 24)).trans ff)
    have HB3 := hide ((HB2.out.alloc (.cells #[.int .u8 s, .int .u8 s] 24)).fr ff fun h => h)
    clear ff HF2 HB2
    go_wp2_with fail
    refine (Root_no r w3).mono ?_
    rintro e w4 ⟨rfl, ff⟩
    have HF4 := hide (HF3.out.trans ff)
    have HB4 := hide (HB3.out.fr ff fun h => h)
    clear ff HF3 HB3
    go_wp2_with fail
    refine (Meet_no r q w4).mono ?_
    rintro e w5 ⟨rfl, ff⟩
    have HF5 := hide (HF4.out.trans ff)
    have HB5 := hide (HB4.out.fr ff fun h => h)
    clear ff HF4 HB4
    go_wp2_with fail
    refine (Find_no r s w5).mono ?_
    rintro e w6 ⟨rfl, ff⟩
    have HF6 := hide (HF5.out.trans ff)
    have HB6 := hide (HB5.out.fr ff fun h => h)
    clear ff HF5 HB5
    go_wp2_with fail
    refine (Less_no r q w6).mono ?_
    rintro e w7 ⟨rfl, ff⟩
    have HF7 := hide (HF6.out.trans ff)
    have HB7 := hide (HB6.out.fr ff fun h => h)
    clear ff HF6 HB6
    go_wp2_with fail
    refine (fOf_no r w7).mono ?_
    rintro e w8 ⟨rfl, ff⟩
    have HF8 := hide (HF7.out.trans ff)
    have HB8 := hide (HB7.out.fr ff fun h => h)
    clear ff HF7 HB7
    obtain ⟨e0, e1, e2, e3, e4, ef⟩ := HB8.out.cells5
    have eq_ := HB8.out.lt
    go_wp2_with fail
    refine (Only_no k n sb A len cap r0 s w8).mono ?_
    rintro e w9 ⟨rfl, ff⟩
    have HF9 := hide (HF8.out.trans ff)
    clear ff HF8 HB8 e0 e1 e2 e3 e4 ef eq_
    go_upto_region 13 with (fail)
    have hb := Blk.new w9 28 #[.int .u8 0, .int .i64 0, .string ⟨#[]⟩, .slice none 0 0, .int .i64 0]
    have HFa := hide (HF9.out.alloc (.cells #[.int .u8 0, .int .i64 0, .string ⟨#[]⟩, .slice none 0 0, .int .i64 0] 28))
    obtain ⟨e0, e1, e2, e3, e4, ef⟩ := hb.cells5
    have eq_ := hb.lt
    clear hb HF9
    generalize World.alloc w9 _ = wa at *
    go_wp2_with fail
    refine (HAW.out wa).mono ?_
    rintro e wZ ⟨rfl, fZ⟩
    have HFZ := hide (HFa.out.trans fZ)
    clear fZ e0 e1 e2 e3 e4 ef eq_
    go_wp2
    go_ret
    exact ⟨rfl, HFZ.out⟩

end Go.Proofs.YtlejelbefmkakaaGreat

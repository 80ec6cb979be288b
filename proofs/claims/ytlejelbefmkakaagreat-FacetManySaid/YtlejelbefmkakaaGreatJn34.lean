/- Texts joined: Wg8, Gf12, Hf5. -/
import Derived.Test.YtlejelbefmkakaaGreatJn7
import Derived.Test.YtlejelbefmkakaaGreatJn30
import Derived.Test.YtlejelbefmkakaaGreatJn32
import Derived.Test.YtlejelbefmkakaaGreatJn33
namespace Go.Proofs.YtlejelbefmkakaaGreat
open Go.RowKit
set_option maxRecDepth 100000 in
set_option maxHeartbeats 8000000 in
theorem make2 {m : Wm} {lo : Nat} {W : World} (h : m.Ok lo W) (hlo : lo ≤ W.heap.size) (home : Nat) (hs : home < m.made.length) (h512 : m.made[home] < 512) (hlen : m.th.length < 100000) :
 Calls Tryz.prog 85 #[.pointer (some ⟨m.wb, 0, none⟩), .agg (th16 2 (home : Int) 0 0 ⟨#[]⟩ none 0 0 0 0 0 0 0 0 false)] W (MakeRes m 2 home T.zero.v 0 0 0 0 0 false home lo W) := by
 have ht := fun W' : World => (T.zero_ow W' 0 W'.heap.size).inn
 have hzv : T.zero.v.may = true := by rw [T.zero_v, zero_may]
 have hF := fun W' (f : Fr No W W') => form2 (h.no f) home hs
 have hN := fun W' (f : Fr No W W') => names_w (h.no f) 2 (home : Int) 0 0 ⟨#[]⟩ none 0 [] 0 0 0 0 0 0 false W'.heap.size (ht W') (Nat.le_refl _) (by show T.zero.v.refs.length ≤ _; rw [T.zero_v, zero_refs]; simp)
 have hO := fun W' (f : Fr No W W') => ownWhat_w 2 (home : Int) 0 0 ⟨#[]⟩ none 0 [] 0 0 0 0 0 0 false W' W'.heap.size (ht W') (Nat.le_refl _) hzv
 have hz0 : m.are (T.mk 0 0 ⟨#[]⟩ none 0 [] 0).v.refs = true := by show m.are T.zero.v.refs = true; rw [T.zero_v, zero_refs]; rfl
 rw [hz0] at hN
 simp only [List.length_nil] at hN hO
 have hT := fun W' (_ : Fr No W W') => fits2 (W := W') (home : Int) 0 0 ⟨#[]⟩ none 0 0 0 0 0 0 0 false m.wb
 have hb0 := Blk.new W 138 (th16 2 (home : Int) 0 0 ⟨#[]⟩ none 0 0 0 0 0 0 0 0 false)
 have hf0 := (Fr.refl No W).alloc (.cells (th16 2 (home : Int) 0 0 ⟨#[]⟩ none 0 0 0 0 0 0 0 0 false) 138)
 have HOK := hide h
 have HF := hide hF
 have HN := hide hN
 have HO := hide hO
 have HT := hide hT
 have HB := hide hb0
 have HF0 := hide hf0
 unfold th16 at HF HN HO HT HB HF0 hb0 ⊢
 obtain ⟨d0, d1, d2, d3, d4, d5, d6, d7, d8, d9, d10, d11, d12, d13, d14, d15⟩ := hb0.cells16
 have dq := hb0.lt
 clear hF hN hO hT hb0 hf0 h ht hzv hz0
 go_enter Tryz.func85, Tryz.ntmps85
 go_wp2_with fail
 generalize World.alloc W _ = W0 at *
 refine (none_w (HOK.out.no HF0.out)).mono ?_
 rintro e w' ⟨rfl, rfl⟩
 go_wp2_with fail
 refine (HF.out w' HF0.out).mono ?_
 rintro e w1 ⟨rfl, ff⟩
 have hb := HB.out.fr ff fun h => h
 replace HB := hide hb
 replace HF0 := hide (HF0.out.trans ff)
 clear d0 d1 d2 d3 d4 d5 d6 d7 d8 d9 d10 d11 d12 d13 d14 d15 dq ff
 obtain ⟨d0, d1, d2, d3, d4, d5, d6, d7, d8, d9, d10, d11, d12, d13, d14, d15⟩ := hb.cells16
 have dq := hb.lt
 clear hb
 go_wp2_with fail
 refine (HN.out w1 HF0.out).mono ?_
 rintro e w2 ⟨rfl, ff⟩
 have hb := HB.out.fr ff fun h => h
 replace HB := hide hb
 replace HF0 := hide (HF0.out.trans ff)
 clear d0 d1 d2 d3 d4 d5 d6 d7 d8 d9 d10 d11 d12 d13 d14 d15 dq ff
 obtain ⟨d0, d1, d2, d3, d4, d5, d6, d7, d8, d9, d10, d11, d12, d13, d14, d15⟩ := hb.cells16
 have dq := hb.lt
 clear hb
 go_wp2_with fail
 refine (asks2 w2).mono ?_
 rintro e w3 ⟨rfl, rfl⟩
 go_wp2_with fail
 refine (by2 w3).mono ?_
 rintro e w5 ⟨rfl, rfl⟩
 go_wp2_with fail
 refine (HT.out w5 HF0.out).mono ?_
 rintro e w6 ⟨rfl, ff⟩
 have hb := HB.out.fr ff fun h => h
 replace HB := hide hb
 replace HF0 := hide (HF0.out.trans ff)
 clear d0 d1 d2 d3 d4 d5 d6 d7 d8 d9 d10 d11 d12 d13 d14 d15 dq ff
 obtain ⟨d0, d1, d2, d3, d4, d5, d6, d7, d8, d9, d10, d11, d12, d13, d14, d15⟩ := hb.cells16
 have dq := hb.lt
 clear hb
 go_wp2_with fail
 have hok6 := HOK.out.no HF0.out
 have hz : 0 < m.made.length := by omega
 obtain ⟨gD, c, hA2, hg0, hg1⟩ := hok6.made.form hz
 simp only [Value.slice.injEq, true_and] at hA2
 have hcell : w6.cell? ⟨gD, home, none⟩ = some (.int .i64 (m.made[home] : Int)) := by
  have := World.ownsRow.cells hok6.made (g := gD) (by rw [hA2.1]; rfl) home (.int .i64 (m.made[home] : Int)) (by simp [hs])
  rwa [add_at, Nat.zero_add] at this
 have x5 : w6.cell? ⟨m.wb, 5, none⟩ = some (.slice m.D m.made.length m.dc) := by
  have := hok6.blk.cell 5
  simpa [Wm.cells] using this
 rw [hA2.1] at x5
 have xq := hok6.blk.lt
 have hlt5 : decide ((m.made[home] : Int) ≥ 512) = false := by simp; omega
 generalize hmd : m.made[home] = mv at *
 clear hok6 hz hA2
 go_region
 all_goals
  go_simp
  go_wp2_with fail
  have HF7 := hide HF0.out.drew
  refine (HO.out w6.drew HF7.out).mono ?_
  rintro e w8 ⟨⟨k9, n9, s9, A9, cap9, l9, r9⟩, rfl, hv9, hsh9, f9⟩
  have hb := HB.out.fr (((Fr.refl No w6).drew).trans f9) fun h => h
  have hz6 := HF0.out.size
  have hly := lay_w ((HOK.out.no HF7.out).no f9) (by have := f9.size; have := HF7.out.size; omega) 2 k9 n9 s9 A9 cap9 l9 r9 0 0 0 0 0 false home hs (by rw [hmd]; exact h512) (by decide) hlen (hsh9.more (by have := HF7.out.size; omega) (Nat.le_refl _))
  have hval : (Th.val ⟨2, (home : Int), T.mk k9 n9 s9 A9 cap9 l9 r9, 0, 0, 0, 0, 0, false⟩) = .agg (th16 2 (home : Int) k9 n9 s9 A9 l9.length cap9 r9 0 0 0 0 0 false) := rfl
  rw [hval]
  have hbl : ∀ b ∈ (T.mk k9 n9 s9 A9 cap9 l9 r9).blocks, W.heap.size ≤ b := fun b hb => by have := (T.In.blocks _ hsh9.inn b hb).1; have := HF7.out.size; omega
  have HLY := hide hly
  have HV9 := hide hv9
  have HBL := hide hbl
  have HF9 := hide (HF7.out.trans f9)
  have hd0 : w8.cell? ⟨W.heap.size, 0, none⟩ = some (.int .u8 2) := hb.cell 0
  have HB8 := hide hb
  unfold th16 at HLY ⊢
  clear d0 d1 d2 d3 d4 d5 d6 d7 d8 d9 d10 d11 d12 d13 d14 d15 dq hcell x5 xq hlt5 hv9 hsh9 f9 hly hval hbl hb hz6 hd0
  go_wp2_with fail
  refine HLY.out.mono ?_
  rintro e w9 ⟨rfl, hok9, f10⟩
  have hnb : ¬ m.B W.heap.size := fun hb => by have := (HOK.out.lt _ hb).2; omega
  have hb9 := HB8.out.fr f10 hnb
  have hd0 : w9.cell? ⟨W.heap.size, 0, none⟩ = some (.int .u8 2) := hb9.cell 0
  have hq0 := hb9.lt
  have HOK9 := hide hok9
  have HF10 := hide (HF9.out.no.trans f10)
  have hg8 := HF9.out.size
  have HG8 := hide hg8
  clear hok9 f10 hnb hb9 hg8
  go_wp2_with fail
  go_ret2
  exact ⟨rfl, _, _, HV9.out, HG8.out, HBL.out, HOK9.out, HF10.out⟩
end Go.Proofs.YtlejelbefmkakaaGreat

namespace Go.Proofs.YtlejelbefmkakaaGreat
open Go.RowKit
def lgW (wb M F gc : Nat) (D : Option Addr) (dc g : Nat) : Gm := ⟨wb, M, F, none, 0, [], some ⟨gc, 0, none⟩, 1, [false], D, dc, [1], 1, [(1, g, Tg.z 2 0 0 0 0 0 0 false)], []⟩
section
variable (wb M F gc : Nat) (D : Option Addr) (dc g g2 g3 : Nat)
theorem lg1 : (lgW wb M F gc D dc g).get 1 = some (g, Tg.z 2 0 0 0 0 0 0 false) := rfl
theorem lg1_zs : (lgW wb M F gc D dc g).Zs := fun x hx => by
 simp only [lgW, List.mem_singleton] at hx
 subst hx
 exact ⟨_, _, _, _, _, _, _, _, rfl⟩
theorem lg1_room : (lgW wb M F gc D dc g).Room := ⟨by simp [lgW], by simp [lgW], by simp [lgW], by simp [lgW]⟩
theorem lg1_abl : (lgW wb M F gc D dc g).Abl 1 9 := .base (lg1 wb M F gc D dc g) (by simp [Tg.z])
abbrev lg2 : Gm := (lgW wb M F gc D dc g).addF g2 1 1
theorem lg2_at1 : (lg2 wb M F gc D dc g g2).get 1 = some (g, Tg.z 2 0 0 0 0 0 0 false) := rfl
theorem lg2_at2 : (lg2 wb M F gc D dc g g2).get 2 = some (g2, Tg.fac 1 1) := rfl
theorem lg2_zs : (lg2 wb M F gc D dc g g2).Zs := (lg1_zs wb M F gc D dc g).addF _ _ _
theorem lg2_room : (lg2 wb M F gc D dc g g2).Room := ⟨by simp [lgW, Gm.addF], by simp [lgW, Gm.addF], by simp [lgW, Gm.addF], by simp [lgW, Gm.addF]⟩
theorem lg2_abl1 : (lg2 wb M F gc D dc g g2).Abl 1 9 := .base (lg2_at1 wb M F gc D dc g g2) (by simp [Tg.z])
theorem lg2_abl2 : (lg2 wb M F gc D dc g g2).Abl 2 1 := .facet (s := 1) (a := 9) (lg2_at2 wb M F gc D dc g g2) rfl rfl (lg2_abl1 wb M F gc D dc g g2)
abbrev lg3 : Gm := (lg2 wb M F gc D dc g g2).addF g3 1 0
theorem lg3_at1 : (lg3 wb M F gc D dc g g2 g3).get 1 = some (g, Tg.z 2 0 0 0 0 0 0 false) := rfl
theorem lg3_at3 : (lg3 wb M F gc D dc g g2 g3).get 3 = some (g3, Tg.fac 1 0) := rfl
theorem lg3_zs : (lg3 wb M F gc D dc g g2 g3).Zs := (lg2_zs wb M F gc D dc g g2).addF _ _ _
theorem lg3_room : (lg3 wb M F gc D dc g g2 g3).Room := ⟨by simp [lgW, Gm.addF], by simp [lgW, Gm.addF], by simp [lgW, Gm.addF], by simp [lgW, Gm.addF]⟩
theorem lg3_abl1 : (lg3 wb M F gc D dc g g2 g3).Abl 1 9 := .base (lg3_at1 wb M F gc D dc g g2 g3) (by simp [Tg.z])
theorem lg3_abl3 : (lg3 wb M F gc D dc g g2 g3).Abl 3 0 := .facet (s := 0) (a := 9) (lg3_at3 wb M F gc D dc g g2 g3) rfl rfl (lg3_abl1 wb M F gc D dc g g2 g3)
theorem nar1 : (lgW wb M F gc D dc g).nar g2 ((lgW wb M F gc D dc g).root 1) (1 &&& 9) 9 = (2, lg2 wb M F gc D dc g g2) := rfl
theorem nar2 : (lg2 wb M F gc D dc g g2).nar g3 ((lg2 wb M F gc D dc g g2).root 2) (8 &&& 1) 9 = (3, lg3 wb M F gc D dc g g2 g3) := rfl
theorem nar3 (g4 : Nat) : (lg3 wb M F gc D dc g g2 g3).nar g4 ((lg3 wb M F gc D dc g g2 g3).root 1) (63 &&& 9) 9 = (1, lg3 wb M F gc D dc g g2 g3) := rfl
end
set_option maxRecDepth 100000 in
set_option maxHeartbeats 8000000 in
theorem awake11 (W : World) : Calls Tryz.prog 68 #[] W fun e w' => e = .returned (.bool true) ∧ Fr No W w' := by
 have HNew := hide (New_one2 W)
 go_enter Tryz.func68, Tryz.ntmps68
 go_wp2_with fail
 refine HNew.out.mono ?_
 rintro e w1 ⟨m, rfl, hok, hth, hmd, hfac, hP, hpn, hpc, ⟨gc, hC, hcn, hcc, hbc, hgc⟩, f1⟩
 have hs0 : 0 < m.made.length := by rw [hmd]; simp
 have hm0 : m.made[0] = 0 := by simp [hmd]
 have hl0 : m.th.length = 0 := by rw [hth]; rfl
 have hmk := make2 hok f1.size 0 hs0 (by omega) (by omega)
 have hgcB : ¬ m.B gc := by
  obtain ⟨es, cl, hm, -⟩ := hok.things
  obtain ⟨ef, cf, hff, -⟩ := hok.facets
  rintro (rfl | rfl | rfl | hi | ⟨x, hx, -⟩)
  · exact Blk.ne_ hbc hok.blk (by decide) rfl
  · exact map_ne_blk hm hbc rfl
  · exact map_ne_blk hff hbc rfl
  · obtain ⟨cs, hb⟩ := owns_typed hok.made hi
    exact Blk.ne_ hb hbc (by decide) rfl
  · rw [hth] at hx
    cases hx
 have HMK : Hid (Calls Tryz.prog 85 #[.pointer (some ⟨m.wb, 0, none⟩), .agg #[.int .u8 2, .int .i64 0, .int .u8 0, .int .i64 0, .string ⟨#[]⟩, .slice none 0 0, .int .i64 0, .slice none 0 0, .int .i64 0, .int .i64 0, .int .i64 0, .int .i64 0, .int .u8 0, .bool false, .slice none 0 0, .slice none 0 0]] w1 fun e w' => e = .returned (.tuple #[.int .i64 1, .int .i64 0]) ∧ ∃ M F D dc g, (lgW m.wb M F gc D dc g).Ok W.heap.size w' ∧ Fr No W w') := hide (by
  refine hmk.mono ?_
  rintro e w' ⟨rfl, g, t', hv, -, -, hok2, f2⟩
  have hth2 : (m.add g ⟨2, (0 : Nat), t', 0, 0, 0, 0, 0, false⟩ 0).th = [(g, ⟨2, (0 : Nat), t', 0, 0, 0, 0, 0, false⟩)] := by simp [Wm.add, hth]
  obtain rfl := zero_of (hok2.vals (g, ⟨2, (0 : Nat), t', 0, 0, 0, 0, 0, false⟩) (by rw [hth2]; simp)) (hv.trans T.zero_v)
  rw [hl0]
  refine ⟨rfl, m.M, m.F, m.D, m.dc, g, ?_, f1.trans' f2 fun i hi hb => by have := (hok.lt i hb).1; omega⟩
  exact gm_of (m := m.add g ⟨2, (0 : Nat), T.zero, 0, 0, 0, 0, 0, false⟩ 0) hok2 hth2 hfac (by simp [Wm.add, hmd]) hP hpn hpc hC hcn hcc (hbc.fr f2 hgcB) hgc
   ⟨by simp [Tg.z], by simp [Tg.z], by simp [Tg.z], by simp [Tg.z], by simp [Tg.z], by simp [Tg.z], by simp [Tg.z]⟩)
 clear hmk hgcB hok hth hmd hfac hP hpn hpc hC hcn hcc hbc hgc f1 HNew hs0 hm0 hl0
 go_wp2_with fail
 refine HMK.out.mono ?_
 rintro e w2 ⟨rfl, M, F, D, dc, g, hok2, f2⟩
 have hn1 := Narrow_g hok2 f2.size ((lg1_zs m.wb M F gc D dc g).what _) (lg1_room m.wb M F gc D dc g) (lg1 m.wb M F gc D dc g) (lg1 m.wb M F gc D dc g) (by simp [Tg.z]) (by show (-9223372036854775808 : Int) ≤ 1 ∧ (1 : Int) ≤ 9223372036854775807; omega) (s := 1) (lg1_abl m.wb M F gc D dc g) (lg1_abl m.wb M F gc D dc g) rfl (by decide)
 have HN1 : Hid (Calls Tryz.prog 69 #[.pointer (some ⟨m.wb, 0, none⟩), .int .i64 1, .int .u8 1] w2 fun e w' => ∃ g2, e = .returned (.tuple #[.int .i64 2, .int .i64 0]) ∧ (lg2 m.wb M F gc D dc g g2).Ok W.heap.size w' ∧ Fr No W w') := hide (by
  refine hn1.mono ?_
  rintro e w' ⟨g2, rfl, hok3, f3⟩
  rw [nar1] at hok3 ⊢
  exact ⟨g2, rfl, hok3, f2.trans' f3 fun i hi hb => by have := (hok2.lt i hb).1; omega⟩)
 clear hn1 hok2 f2 HMK
 go_wp2_with fail
 refine HN1.out.mono ?_
 rintro e w3 ⟨g2, rfl, hok3, f3⟩
 have hn2 := Narrow_g hok3 f3.size ((lg2_zs m.wb M F gc D dc g g2).what _) (lg2_room m.wb M F gc D dc g g2) (lg2_at2 m.wb M F gc D dc g g2) (lg2_at1 m.wb M F gc D dc g g2) (by simp [Tg.z]) (by show (-9223372036854775808 : Int) ≤ 1 ∧ (1 : Int) ≤ 9223372036854775807; omega) (s := 8) (lg2_abl1 m.wb M F gc D dc g g2) (lg2_abl2 m.wb M F gc D dc g g2) rfl (by decide)
 have HN2 : Hid (Calls Tryz.prog 69 #[.pointer (some ⟨m.wb, 0, none⟩), .int .i64 2, .int .u8 8] w3 fun e w' => ∃ g3, e = .returned (.tuple #[.int .i64 3, .int .i64 0]) ∧ (lg3 m.wb M F gc D dc g g2 g3).Ok W.heap.size w' ∧ Fr No W w') := hide (by
  refine hn2.mono ?_
  rintro e w' ⟨g3, rfl, hok4, f4⟩
  rw [nar2] at hok4 ⊢
  exact ⟨g3, rfl, hok4, f3.trans' f4 fun i hi hb => by have := (hok3.lt i hb).1; omega⟩)
 clear hn2 hok3 f3 HN1
 go_wp2_with fail
 refine HN2.out.mono ?_
 rintro e w4 ⟨g3, rfl, hok4, f4⟩
 have hn3 := Narrow_g hok4 f4.size ((lg3_zs m.wb M F gc D dc g g2 g3).what _) (lg3_room m.wb M F gc D dc g g2 g3) (lg3_at1 m.wb M F gc D dc g g2 g3) (lg3_at1 m.wb M F gc D dc g g2 g3) (by simp [Tg.z]) (by show (-9223372036854775808 : Int) ≤ 1 ∧ (1 : Int) ≤ 9223372036854775807; omega) (s := 63) (lg3_abl1 m.wb M F gc D dc g g2 g3) (lg3_abl1 m.wb M F gc D dc g g2 g3) rfl (by decide)
 have HN3 : Hid (Calls Tryz.prog 69 #[.pointer (some ⟨m.wb, 0, none⟩), .int .i64 1, .int .u8 63] w4 fun e w' => e = .returned (.tuple #[.int .i64 1, .int .i64 0]) ∧ (lg3 m.wb M F gc D dc g g2 g3).Ok W.heap.size w' ∧ Fr No W w') := hide (by
  refine hn3.mono ?_
  rintro e w' ⟨g4, rfl, hok5, f5⟩
  rw [nar3] at hok5 ⊢
  exact ⟨rfl, hok5, f4.trans' f5 fun i hi hb => by have := (hok4.lt i hb).1; omega⟩)
 clear hn3 hok4 f4 HN2
 go_wp2_with fail
 refine HN3.out.mono ?_
 rintro e w5 ⟨rfl, hok5, f5⟩
 have ha := Able_w hok5 (lg3_abl3 m.wb M F gc D dc g g2 g3)
 have HA : Hid (Calls Tryz.prog 79 #[.pointer (some ⟨m.wb, 0, none⟩), .int .i64 3] w5 fun e w' => e = .returned (.int .u8 0) ∧ Fr No w5 w') := hide ha
 have HF5 := hide f5
 clear ha hok5 f5 HN3
 go_wp2_with fail
 refine HA.out.mono ?_
 rintro e w6 ⟨rfl, f6⟩
 have HF6 := hide (HF5.out.trans f6)
 clear f6
 go_wp2
 go_ret
 exact ⟨rfl, HF6.out⟩
end Go.Proofs.YtlejelbefmkakaaGreat

namespace Go.Proofs.YtlejelbefmkakaaGreat
open Go.RowKit
structure Is1 (m : Gm) (q t : Int) (c : Nat) : Prop where
 is : ∃ y, m.get q = some y
 root : m.root q = t
 abl : m.Abl q c
structure FX (W0 : World) (wb : Nat) (m : Gm) (n : Nat) (W : World) : Prop where
 fw : FW m W0.heap.size n W
 wb : m.wb = wb
 fr : Fr No W0 W
section
variable {m m' : Gm} {n wb : Nat} {W0 W W' : World} {r q p t : Int} {a b c s : Nat}
theorem Is1.ext (h : Is1 m q t c) (e : m.Ext m') : Is1 m' q t c := by
 obtain ⟨y, hy⟩ := h.is
 exact ⟨⟨y, e.2.2 _ _ hy⟩, by rw [e.root hy]; exact h.root, h.abl.ext e⟩
theorem Is1.one (h : FX W0 wb m n W) (hp : Is1 m p t c) (hq : Is1 m q t c) : p = q := by
 obtain ⟨x, hx⟩ := hp.is
 obtain ⟨y, hy⟩ := hq.is
 exact h.fw.fs.one h.fw.ok.fkeys hx hy (by rw [hp.root, hq.root]) hp.abl hq.abl
theorem FX.no (h : FX W0 wb m n W) (f : Fr No W W') : FX W0 wb m n W' := ⟨h.fw.no f, h.wb, h.fr.trans f⟩
def NarX (W0 : World) (wb : Nat) (m : Gm) (n : Nat) (t : Int) (c : Nat) (e : Ending) (w' : World) : Prop :=
 ∃ (q : Int) (m' : Gm), e = .returned (.tuple #[.int .i64 q, .int .i64 0]) ∧ m.Ext m' ∧ FX W0 wb m' (n + 1) w' ∧ Is1 m' q t c
def KeepRef (W w' : World) : Prop := ∀ (lo n : Nat) (v : Value) (xs : List Value), W.ownsRow lo 22 1 v n xs → w'.ownsRow lo 22 1 v n xs
theorem Is_x (h : FX W0 wb m n W) (r : Int) : Calls Tryz.prog 58 #[.pointer (some ⟨wb, 0, none⟩), .int .i64 r] W fun e w' => e = .returned (.bool (m.get r).isSome) ∧ w' = W := by
 have := gIs_w h.fw.ok r
 rw [h.wb] at this
 exact this
def OutX (W0 : World) (wb : Nat) (m : Gm) (n : Nat) (r : Int) (s : Nat) (e : Ending) (w' : World) : Prop :=
 ((64 ≤ s ∨ m.get r = none) ∧ (e = .returned (.tuple #[.int .i64 0, .int .i64 2]) ∨ e = .returned (.tuple #[.int .i64 0, .int .i64 5])) ∧ FX W0 wb m n w') ∨
 ((s < 64 ∧ m.get r ≠ none) ∧ ∃ (q : Int) (m' : Gm), e = .returned (.tuple #[.int .i64 q, .int .i64 0]) ∧ m.Ext m' ∧ FX W0 wb m' (n + 1) w')
end
end Go.Proofs.YtlejelbefmkakaaGreat

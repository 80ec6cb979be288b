/- Texts joined: Wg9, Wg10, H1, H2, Wg14, Wg15. -/
import Derived.Test.YtlejelbefmkakaaGreatJn20
import Derived.RangeFuncNested
import Derived.OrdersIn
import Derived.RangeFuncLeaves
import Derived.CallsIn
import Derived.RangeFuncBound
import Derived.RangeFuncCalls
import Derived.OwnWalkIn
import Derived.TacticsInMore
import Derived.LoopNIn
import Derived.LoopIn
import Derived.RangeFuncOwn
import Derived.LoopN
/- Worlds: Make, of a gate: its switch turns to it. -/
namespace Go.Proofs.YtlejelbefmkakaaGreat
open Go.RowKit

/-- What Make leaves of a gate. -/
def GateRes (m : Wm) (home ofr byr : Int) (xs : Th) (s lo : Nat) (W : World) (e : Ending) (w' : World) : Prop :=
  e = .returned (.tuple #[.int .i64 ((m.th.length : Int) + 1), .int .i64 0]) ∧ ∃ (g : Nat) (t' : T), t'.v = T.zero.v ∧ W.heap.size ≤ g ∧ (∀ b ∈ t'.blocks, W.heap.size ≤ b) ∧
    ((m.add g ⟨15, home, t', 0, 0, ofr, byr, 0, false⟩ s).put (byr - 1).toNat { xs with ofr := (m.th.length : Int) + 1 }).Ok lo w' ∧ Fr m.B W w'

theorem gate_fin {m : Wm} {lo : Nat} {W w9 : World} {g s : Nat} {z : Th} {byr : Int} {x : Nat × Th} (h9 : (m.add g z s).Ok lo w9) (h : m.Ok lo W) (hg : m.get byr = some x) (f : Fr m.B W w9) :
    ((m.add g z s).put (byr - 1).toNat { x.2 with ofr := (m.th.length : Int) + 1 }).Ok lo (w9.setCell ⟨x.1, 10, none⟩ (.int .i64 ((m.th.length : Int) + 1))) ∧ Fr m.B W (w9.setCell ⟨x.1, 10, none⟩ (.int .i64 ((m.th.length : Int) + 1))) := by
  have hx := Wm.get_mem hg
  have hx9 := Wm.get_mem (add_get_old (g := g) (s := s) (x := z) hg)
  have hbx := h9.box _ hx9
  have f1 : Fr (fun j => j = x.1) w9 (w9.setCell ⟨x.1, 10, none⟩ (.int .i64 ((m.th.length : Int) + 1))) := (Fr.refl (fun j => j = x.1) w9).set (fun _ => rfl) _
  refine ⟨?_, f.trans' f1 fun i _ hi => ?_⟩
  · refine ok_put (g := x.1) (x := x.2) h9 (get_at (add_get_old hg)).1 f1 ?_ ?_
    · have := hbx.set_ 10 (.int .i64 ((m.th.length : Int) + 1))
      have hc : x.2.cells.toArray.setIfInBounds 10 (.int .i64 ((m.th.length : Int) + 1)) = ({ x.2 with ofr := (m.th.length : Int) + 1 } : Th).cells.toArray := by
        obtain ⟨xb, kind, hm, ⟨k, n, s, A, cap, l, r⟩, n1, lost, ofr, b, set, full⟩ := x
        rfl
      rwa [hc] at this
    · have hs := h9.vals _ hx9
      exact (hs.fr f1 fun b hb hh => by
        obtain ⟨cs', hb'⟩ := T.Sp.typed _ hs.sp b hb
        exact Blk.ne_ hb' hbx (by decide) hh).more (Nat.le_refl _) f1.size
  · have hi' : i = x.1 := hi
    exact .inr (.inr (.inr (.inr ⟨x, hx, .inl hi'⟩)))

set_option maxRecDepth 100000 in
set_option maxHeartbeats 8000000 in
theorem make15 {m : Wm} {lo : Nat} {W : World} (h : m.Ok lo W) (hlo : lo ≤ W.heap.size) (home : Nat) (hs : home < m.made.length) (h512 : m.made[home] < 512) (hlen : m.th.length < 100000) (ofr byr : Int) {x y : Nat × Th} (hg : m.get byr = some x) (hk5 : x.2.kind = 13) (hxh : x.2.home = (home : Int)) (hxo : x.2.ofr = 0) (hy : m.get ofr = some y) :
    Calls Tryz.prog 85 #[.pointer (some ⟨m.wb, 0, none⟩), .agg (th16 15 (home : Int) 0 0 ⟨#[]⟩ none 0 0 0 0 0 ofr byr 0 false)] W (GateRes m (home : Int) ofr byr x.2 home lo W) := by
  have ht := fun W' : World => (T.zero_ow W' 0 W'.heap.size).inn
  have hzv : T.zero.v.may = true := by rw [T.zero_v, zero_may]
  have hF := fun W' (f : Fr No W W') => form15 (h.no f) home ofr byr hs
  have hN := fun W' (f : Fr No W W') => names_w (h.no f) 15 (home : Int) 0 0 ⟨#[]⟩ none 0 [] 0 0 0 ofr byr 0 false W'.heap.size (ht W') (Nat.le_refl _) (by show T.zero.v.refs.length ≤ _; rw [T.zero_v, zero_refs]; simp)
  have hO := fun W' (f : Fr No W W') => ownWhat_w 15 (home : Int) 0 0 ⟨#[]⟩ none 0 [] 0 0 0 ofr byr 0 false W' W'.heap.size (ht W') (Nat.le_refl _) hzv
  have hz0 : m.are (T.mk 0 0 ⟨#[]⟩ none 0 [] 0).v.refs = true := by show m.are T.zero.v.refs = true; rw [T.zero_v, zero_refs]; rfl
  rw [hz0] at hN
  simp only [List.length_nil] at hN hO
  have hT := fun W' (f : Fr No W W') => fits15 (h.no f) (home : Int) 0 0 ⟨#[]⟩ none 0 0 0 0 0 ofr byr 0 false hg hk5 hxh hxo hy
  have hI := fun W' (f : Fr No W W') => Is_w (h.no f) ofr
  have hgi : (m.get ofr).isSome = true := by rw [hy]; rfl
  rw [hgi] at hI
  have hI2 := fun W' (f : Fr No W W') => Is_w (h.no f) byr
  have hgi2 : (m.get byr).isSome = true := by rw [hg]; rfl
  rw [hgi2] at hI2
  have HI2 := hide hI2
  have HG := hide hg
  have hb0 := Blk.new W 138 (th16 15 (home : Int) 0 0 ⟨#[]⟩ none 0 0 0 0 0 ofr byr 0 false)
  have hf0 := (Fr.refl No W).alloc (.cells (th16 15 (home : Int) 0 0 ⟨#[]⟩ none 0 0 0 0 0 ofr byr 0 false) 138)
  have HOK := hide h
  have HF := hide hF
  have HN := hide hN
  have HO := hide hO
  have HT := hide hT
  have HI := hide hI
  have HB := hide hb0
  have HF0 := hide hf0
  unfold th16 at HF HN HO HT HB HF0 hb0 ⊢
  obtain ⟨d0, d1, d2, d3, d4, d5, d6, d7, d8, d9, d10, d11, d12, d13, d14, d15⟩ := hb0.cells16
  have dq := hb0.lt
  clear hF hN hO hT hb0 hf0 h hI hgi hI2 hgi2 hg hk5 hxh hxo hy ht hzv hz0
  go_enter Tryz.func85, Tryz.ntmps85
  go_wp2_with fail
  generalize World.alloc W _ = W0 at *
  refine (none_w (HOK.out.no HF0.out)).mono ?_
  rintro e w' ⟨rfl, rfl⟩
  go_wp2_with fail
  refine (HF.out w' HF0.out).mono ?_
  rintro e w1 ⟨rfl, ff⟩
  have hb := HB.out.fr ff fun h => h
  replace HB := hide hb
  replace HF0 := hide (HF0.out.trans ff)
  clear d0 d1 d2 d3 d4 d5 d6 d7 d8 d9 d10 d11 d12 d13 d14 d15 dq ff
  obtain ⟨d0, d1, d2, d3, d4, d5, d6, d7, d8, d9, d10, d11, d12, d13, d14, d15⟩ := hb.cells16
  have dq := hb.lt
  clear hb
  go_wp2_with fail
  refine (HN.out w1 HF0.out).mono ?_
  rintro e w2 ⟨rfl, ff⟩
  have hb := HB.out.fr ff fun h => h
  replace HB := hide hb
  replace HF0 := hide (HF0.out.trans ff)
  clear d0 d1 d2 d3 d4 d5 d6 d7 d8 d9 d10 d11 d12 d13 d14 d15 dq ff
  obtain ⟨d0, d1, d2, d3, d4, d5, d6, d7, d8, d9, d10, d11, d12, d13, d14, d15⟩ := hb.cells16
  have dq := hb.lt
  clear hb
  go_wp2_with fail
  refine (asks15 w2).mono ?_
  rintro e w3 ⟨rfl, rfl⟩
  go_wp2_with fail
  refine (HI.out w3 HF0.out).mono ?_
  rintro e w4 ⟨rfl, rfl⟩
  go_wp2_with fail
  refine (by15 w4).mono ?_
  rintro e w5 ⟨rfl, rfl⟩
  go_wp2_with fail
  refine (HI2.out w5 HF0.out).mono ?_
  rintro e w5 ⟨rfl, rfl⟩
  go_wp2_with fail
  refine (HT.out w5 HF0.out).mono ?_
  rintro e w6 ⟨rfl, ff⟩
  have hb := HB.out.fr ff fun h => h
  replace HB := hide hb
  replace HF0 := hide (HF0.out.trans ff)
  clear d0 d1 d2 d3 d4 d5 d6 d7 d8 d9 d10 d11 d12 d13 d14 d15 dq ff
  obtain ⟨d0, d1, d2, d3, d4, d5, d6, d7, d8, d9, d10, d11, d12, d13, d14, d15⟩ := hb.cells16
  have dq := hb.lt
  clear hb
  go_wp2_with fail
  have hok6 := HOK.out.no HF0.out
  have hz : 0 < m.made.length := by omega
  obtain ⟨gD, c, hA2, hg0, hg1⟩ := hok6.made.form hz
  simp only [Value.slice.injEq, true_and] at hA2
  have hcell : w6.cell? ⟨gD, home, none⟩ = some (.int .i64 (m.made[home] : Int)) := by
    have := World.ownsRow.cells hok6.made (g := gD) (by rw [hA2.1]; rfl) home (.int .i64 (m.made[home] : Int)) (by simp [hs])
    rwa [add_at, Nat.zero_add] at this
  have x5 : w6.cell? ⟨m.wb, 5, none⟩ = some (.slice m.D m.made.length m.dc) := by
    have := hok6.blk.cell 5
    simpa [Wm.cells] using this
  rw [hA2.1] at x5
  have xq := hok6.blk.lt
  have hlt5 : decide ((m.made[home] : Int) ≥ 512) = false := by simp; omega
  generalize hmd : m.made[home] = mv at *
  clear hok6 hz hA2
  go_region
  all_goals
    go_simp
    go_wp2_with fail
    have HF7 := hide HF0.out.drew
    refine (HO.out w6.drew HF7.out).mono ?_
    rintro e w8 ⟨⟨k9, n9, s9, A9, cap9, l9, r9⟩, rfl, hv9, hsh9, f9⟩
    have hb := HB.out.fr (((Fr.refl No w6).drew).trans f9) fun h => h
    have hz6 := HF0.out.size
    have hly := lay_w ((HOK.out.no HF7.out).no f9) (by have := f9.size; have := HF7.out.size; omega) 15 k9 n9 s9 A9 cap9 l9 r9 0 0 ofr byr 0 false home hs (by rw [hmd]; exact h512) (by decide) hlen (hsh9.more (by have := HF7.out.size; omega) (Nat.le_refl _))
    have hval : (Th.val ⟨15, (home : Int), T.mk k9 n9 s9 A9 cap9 l9 r9, 0, 0, ofr, byr, 0, false⟩) = .agg (th16 15 (home : Int) k9 n9 s9 A9 l9.length cap9 r9 0 0 ofr byr 0 false) := rfl
    rw [hval]
    have hbl : ∀ b ∈ (T.mk k9 n9 s9 A9 cap9 l9 r9).blocks, W.heap.size ≤ b := fun b hb => by have := (T.In.blocks _ hsh9.inn b hb).1; have := HF7.out.size; omega
    have HLY := hide hly
    have HV9 := hide hv9
    have HBL := hide hbl
    have HF9 := hide (HF7.out.trans f9)
    have hd0 : w8.cell? ⟨W.heap.size, 0, none⟩ = some (.int .u8 15) := hb.cell 0
    have HB8 := hide hb
    unfold th16 at HLY ⊢
    clear d0 d1 d2 d3 d4 d5 d6 d7 d8 d9 d10 d11 d12 d13 d14 d15 dq hcell x5 xq hlt5 hv9 hsh9 f9 hly hval hbl hb hz6 hd0
    go_wp2_with fail
    refine HLY.out.mono ?_
    rintro e w9 ⟨rfl, hok9, f10⟩
    have hnb : ¬ m.B W.heap.size := fun hb => by have := (HOK.out.lt _ hb).2; omega
    have hb9 := HB8.out.fr f10 hnb
    have hd0 : w9.cell? ⟨W.heap.size, 0, none⟩ = some (.int .u8 15) := hb9.cell 0
    have hd11 : w9.cell? ⟨W.heap.size, 11, none⟩ = some (.int .i64 byr) := hb9.cell 11
    have hq0 := hb9.lt
    have hl9 := look_thing (hok9.no ((Fr.refl No w9).drew)) byr
    rw [add_get_old HG.out] at hl9
    simp only [Option.map_some] at hl9
    have hbx9 := hok9.box _ (Wm.get_mem (add_get_old HG.out))
    have xfz := hbx9.frozen 10
    have x10 := box_ofr hbx9
    have xq9 := hbx9.lt
    have x2 := map_cell hok9
    change w9.cell? ⟨m.wb, 2, none⟩ = some (.map (some m.M)) at x2
    have xw := hok9.blk.lt
    change m.wb < w9.heap.size at xw
    change (Instr.lookup 34 (.map (some m.M)) (.int .i64 byr) false).run Tryz.prog w9.drew = _ at hl9
    have HOK9 := hide hok9
    have HF10 := hide (HF9.out.no.trans f10)
    have hg8 := HF9.out.size
    have HG8 := hide hg8
    have hfin := gate_fin HOK9.out HOK.out HG.out HF10.out
    have HFIN := hide hfin
    clear hok9 f10 hnb hb9 hg8 hbx9 hfin
    go_upto_region 13 with (fail)
    go_region
    all_goals
      go_simp
      go_wp2_with fail
      go_ret2
      exact ⟨rfl, _, _, HV9.out, HG8.out, HBL.out, HFIN.out.1.no (Fr.refl No _).drew, HFIN.out.2.drew⟩

end Go.Proofs.YtlejelbefmkakaaGreat

/- Layer 12: there, New. -/
namespace Go.Proofs.YtlejelbefmkakaaGreat
open Go.RowKit

section
variable {m : Wm} {lo : Nat} {W : World}

theorem gath_w (h : m.Ok lo W) : Calls Tryz.prog 99 #[.pointer (some ⟨m.wb, 0, none⟩)] W fun e w' => e = .returned (.bool true) ∧ w' = W := by
  have hS := Sides_w h
  have h1 : decide (0 < m.made.length) = true := by have := h.sides; simp; omega
  clear h
  go_enter Tryz.func99, Tryz.ntmps99
  go_wp2_with fail
  refine hS.mono ?_
  rintro e w' ⟨rfl, rfl⟩
  go_wp2
  go_ret
  exact ⟨rfl, rfl⟩

/-- What New leaves. -/
def NewRes (m : Wm) (target : Int) (home lo : Nat) (W : World) (e : Ending) (w' : World) : Prop :=
  e = .returned (.tuple #[.int .i64 ((m.th.length : Int) + 1 + 1), .int .i64 ((m.th.length : Int) + 1), .int .i64 0]) ∧ ∃ (m' : Wm) (g1 g2 : Nat),
    m'.wb = m.wb ∧ m'.th = m.th ++ [(g1, ⟨13, home, T.zero, 0, 0, (m.th.length : Int) + 1 + 1, 0, 0, false⟩), (g2, ⟨15, home, T.zero, 0, 0, target, (m.th.length : Int) + 1, 0, false⟩)] ∧
    m'.made = m.made.set home (m.made.getD home 0 + 1 + 1) ∧ m'.Ok lo w' ∧ Fr m.B W w'

theorem new_th (m : Wm) (g1 g2 s : Nat) (x1 x2 x3 : Th) : (((m.add g1 x1 s).add g2 x2 s).put m.th.length x3).th = m.th ++ [(g1, x3), (g2, x2)] := by
  simp [Wm.put, Wm.add, List.getD_eq_getElem?_getD]

theorem new_made (m : Wm) (g1 g2 s i : Nat) (x1 x2 x3 : Th) (hs : s < m.made.length) : (((m.add g1 x1 s).add g2 x2 s).put i x3).made = m.made.set s (m.made.getD s 0 + 1 + 1) := by
  simp [Wm.put, Wm.add, List.getD_eq_getElem?_getD, hs]

set_option maxRecDepth 100000 in
set_option maxHeartbeats 4000000 in
theorem GNew_ok (h : m.Ok lo W) (hlo : lo ≤ W.heap.size) (home : Nat) (hs : home < m.made.length) (h512 : m.made[home] + 2 ≤ 512) (hlen : m.th.length + 2 < 100000) {target : Int} {y : Nat × Th} (hy : m.get target = some y) :
    Calls Tryz.prog 29 #[.pointer (some ⟨m.wb, 0, none⟩), .int .i64 (home : Int), .int .i64 target] W (NewRes m target home lo W) := by
  have HTh := hide (gath_w h)
  have HS := hide (Sides_w h)
  have HM := hide (Made_w h hs)
  have hI := Is_w h target
  rw [hy] at hI
  have HI := hide hI
  have hmk := make13 h hlo home hs (by omega) (by omega)
  unfold th16 at hmk
  have HMK := hide hmk
  have h0 : decide ((home : Int) < 0) = false := by simp
  have h1 : decide ((home : Int) ≥ (m.made.length : Int)) = false := by simp; omega
  have hw : IntKind.i64.wrap ((m.made[home] : Int) + 2) = (m.made[home] : Int) + 2 := IntWalk.i64_in _ (by omega)
  have h2 : decide (512 < (m.made[home] : Int) + 2) = false := by simp; omega
  clear hmk hI
  go_enter Tryz.func29, Tryz.ntmps29
  go_wp2_with fail
  refine HTh.out.mono ?_
  rintro e w' ⟨rfl, rfl⟩
  go_wp2_with fail
  refine HS.out.mono ?_
  rintro e w' ⟨rfl, rfl⟩
  go_wp2_with fail
  refine HI.out.mono ?_
  rintro e w' ⟨rfl, rfl⟩
  go_wp2_with fail
  refine HM.out.mono ?_
  rintro e w' ⟨rfl, rfl⟩
  go_wp2_with fail
  refine HMK.out.mono ?_
  rintro e w1 ⟨rfl, g1, t1, hv1, hg1, hb1, hok1, f1⟩
  have hmk2 := make15 hok1 (Nat.le_trans hlo f1.size) home (by rw [add_made]; exact hs) (by rw [add_at_made hs]; omega) (by rw [add_len]; omega) target ((m.th.length : Int) + 1) (add_get_new _ _ _) rfl rfl rfl (add_get_old hy)
  have hwb : (m.add g1 ⟨13, home, t1, 0, 0, 0, 0, 0, false⟩ home).wb = m.wb := rfl
  rw [hwb] at hmk2
  unfold th16 GateRes at hmk2
  rw [add_len] at hmk2
  have HMK2 := hide hmk2
  clear hmk2 h0 h1 h2 hw HMK HM HS HTh HI
  go_wp2_with fail
  refine HMK2.out.mono ?_
  rintro e w2 ⟨rfl, g2, t2, hv2, hg2, hb2, hok2, f2⟩
  have hfr : Fr m.B w' w2 := f1.trans' f2 fun i hi hb => add_old hg1 hb1 hb hi
  have hn : ((m.th.length : Int) + 1 - 1).toNat = m.th.length := by omega
  have hcast : ((m.th.length + 1 : Nat) : Int) + 1 = (m.th.length : Int) + 1 + 1 := by omega
  rw [hn, hcast] at hok2
  have hth := new_th m g1 g2 home ⟨13, home, t1, 0, 0, 0, 0, 0, false⟩ ⟨15, home, t2, 0, 0, target, (m.th.length : Int) + 1, 0, false⟩ ⟨13, home, t1, 0, 0, (m.th.length : Int) + 1 + 1, 0, 0, false⟩
  obtain rfl := zero_of (hok2.vals (g1, ⟨13, home, t1, 0, 0, (m.th.length : Int) + 1 + 1, 0, 0, false⟩) (by rw [hth]; simp)) (hv1.trans T.zero_v)
  obtain rfl := zero_of (hok2.vals (g2, ⟨15, home, t2, 0, 0, target, (m.th.length : Int) + 1, 0, false⟩) (by rw [hth]; simp)) (hv2.trans T.zero_v)
  have HFR := hide hfr
  have HOK2 := hide hok2
  clear hfr hok2 hg1 hb1 hg2 hb2 hok1 f1 f2 hwb hth hv1 hv2
  go_wp2_with fail
  refine bodyPost_ret (v := .tuple #[.int .i64 ((m.th.length : Int) + 1 + 1), .int .i64 ((m.th.length : Int) + 1), .int .i64 0]) (by simp [results, Tryz.results29, go_sem, *]) rfl ?_
  refine ⟨rfl, _, g1, g2, ?_, new_th _ _ _ _ _ _ _, new_made _ _ _ _ _ _ _ _ hs, HOK2.out, HFR.out⟩
  rfl
end

end Go.Proofs.YtlejelbefmkakaaGreat

/- A region that draws its order inside the wide fence, by what holds whichever operations have come up; a round among its operations. -/
namespace Go.Proofs.YtlejelbefmkakaaGreat
open Go.RowKit

section
variable {P : Program} {ops : Array Oper} {Q : Exit → Act → World → Prop} {n : Nat}

theorem upon_wide {o : Oper} {a : Act} {K : Act → World → Prop} {r : Result Next} (h : o.upon P a K Q r) : o.uponIn Fence.wide n P a K Q r := by
  have hd : ∀ p : Prop, (Fence.wide.depth.isSome = true → p) := fun p h => by simp [Fence.wide] at h
  cases r with
  | ok x w' =>
    cases x with
    | value v => exact h
    | skip => exact h
    | defer d => exact h
    | enter f args => exact ⟨hd _, callsIn_wide.2 h⟩
    | row row args => exact ⟨hd _, fun c cs _ => let ⟨v, w', r, s⟩ := h c cs; ⟨v, w', r, stepsIn_wide.2 s⟩⟩
    | _ => exact h.elim
  | halt x w' =>
    cases x with
    | panic v => exact h
    | _ => exact h.elim

theorem wpIn_of_wp {o : Oper} {a : Act} {w : World} {K : Act → World → Prop} (h : o.wp P a w K Q) : o.wpIn Fence.wide n P a w K Q :=
  ⟨fun _ _ => trivial, upon_wide h⟩

theorem wpAnyIn_inv (I : (Nat → Bool) → Act → World → Prop) (hfw : (List.range ops.size).all (fun i => ((ops[i]?).map fun o => o.after.all fun e => !Region.binds .any e || decide (e.on < i)).getD true) = true)
    (hstep : ∀ (i : Nat) (o : Oper) (f : Nat → Bool) (a : Act) (w : World), ops[i]? = some o → f i = false → (∀ e ∈ o.after, Region.binds .any e = true → f e.on = true) → I f a w →
      ∀ K' : Act → World → Prop, Shut (∀ a w, I (upd f i) a w → K' a w) → if Region.wanted o (yielded ops a.tmps) = true then Oper.wpIn Fence.wide n P o a w K' Q else K' (a.put o.dst undef) w)
    (hend : ∀ (f : Nat → Bool) (a : Act) (w : World), (∀ i, i < ops.size → f i = true) → I f a w → Q .normal a w) :
    ∀ (fuel : Nat) (listed : Array Bool) (a : Act) (w : World), listed.size = ops.size → unl listed.toList ≤ fuel → I (fun j => listed.getD j false) a w → wpAnyIn Fence.wide n P .any ops Q fuel listed a w := by
  have hfin : ∀ (listed : Array Bool) (a : Act) (w : World), listed.size = ops.size → I (fun j => listed.getD j false) a w → Region.ready .any ops listed = [] → Q .normal a w := fun listed a w hs hI hr =>
    hend _ a w (ready_all hfw hr hs) hI
  intro fuel
  induction fuel with
  | zero =>
    intro listed a w hs hu hI
    have hr : Region.ready .any ops listed = [] := by
      refine List.eq_nil_iff_forall_not_mem.2 fun j hj => ?_
      obtain ⟨h1, o, ho, -⟩ := mem_ready.1 hj
      have hj2 := (Array.getElem?_eq_some_iff.1 ho).1
      refine unl_zero listed.toList j (by omega) ?_
      have hj3 : j < listed.size := by omega
      simp only [Array.getD, hj3, dif_pos] at h1
      rw [Array.getElem?_toList, Array.getElem?_eq_getElem hj3]
      exact congrArg some h1
    exact ⟨hr, hfin listed a w hs hI hr⟩
  | succ fuel ih =>
    intro listed a w hs hu hI
    refine ⟨hfin listed a w hs hI, fun i hi => ?_⟩
    obtain ⟨h1, o, ho, hd⟩ := mem_ready.1 hi
    have hi2 := (Array.getElem?_eq_some_iff.1 ho).1
    have hi3 : i < listed.size := by omega
    have hfalse : listed[i]? = some false := by
      simp only [Array.getD, hi3, dif_pos] at h1
      rw [Array.getElem?_eq_getElem hi3]
      exact congrArg some h1
    have hf : listed.getD i false = false := by
      simp only [Array.getD, hi3, dif_pos] at h1 ⊢
      exact h1
    have hnext : ∀ a' w', I (upd (fun j => listed.getD j false) i) a' w' → wpAnyIn Fence.wide n P .any ops Q fuel (listed.setIfInBounds i true) a' w' := fun a' w' hI' => by
      refine ih (listed.setIfInBounds i true) a' w' (by simpa using hs) ?_ ?_
      · have := unl_set listed.toList i (by rw [Array.getElem?_toList]; exact hfalse)
        rw [Array.toList_setIfInBounds]
        omega
      · have he : (fun j => (listed.setIfInBounds i true).getD j false) = upd (fun j => listed.getD j false) i := by
          funext j
          simp only [upd, Array.getD_eq_getD_getElem?, Array.getElem?_setIfInBounds]
          by_cases hij : i = j
          · subst hij; simp [hi3]
          · have : ¬ j = i := fun h => hij h.symm
            simp [hij, this]
        rw [he]
        exact hI'
    have hs' := hstep i o _ a w ho hf (fun e he hb => hd e he hb) hI (wpAnyIn Fence.wide n P .any ops Q fuel (listed.setIfInBounds i true)) hnext
    unfold wpOpIn
    rw [ho]
    show if Region.wanted o (yielded ops a.tmps) = true then _ else _
    split
    · rename_i hw; rw [if_pos hw] at hs'; exact hs'
    · rename_i hw; rw [if_neg hw] at hs'; exact ⟨fun _ _ => trivial, hs'⟩

/-- The region. -/
theorem wpIn_region_inv {id : Nat} {a0 : Act} {w0 : World} (I : Act → (Nat → Bool) → Act → World → Prop) (hm : P.follows .mixedOrders = true) (hfw : (List.range ops.size).all (fun i => ((ops[i]?).map fun o => o.after.all fun e => !Region.binds .any e || decide (e.on < i)).getD true) = true)
    (hst : I a0 (fun _ => false) a0 w0.drew)
    (hstep : ∀ (i : Nat) (o : Oper) (f : Nat → Bool) (a : Act) (w : World), ops[i]? = some o → f i = false → (∀ e ∈ o.after, Region.binds .any e = true → f e.on = true) → I a0 f a w →
      ∀ K' : Act → World → Prop, Shut (∀ a w, I a0 (upd f i) a w → K' a w) → if Region.wanted o (yielded ops a.tmps) = true then Oper.wpIn Fence.wide n P o a w K' Q else K' (a.put o.dst undef) w)
    (hend : ∀ (f : Nat → Bool) (a : Act) (w : World), (∀ i, i < ops.size → f i = true) → I a0 f a w → Q .normal a w) : (Code.region id ops true).wpIn Fence.wide n P Q a0 w0 := by
  refine wpIn_region_any hm (wpAnyIn_inv (I a0) hfw hstep hend _ _ _ _ (by simp) ?_ ?_)
  · have : ∀ n, unl (List.replicate n false) = n := fun n => by
      induction n with
      | zero => rfl
      | succ n ih => simp only [unl, List.replicate_succ] at ih ⊢; simp
    rw [Array.toList_replicate, this]
    exact Nat.le_refl _
  · have he : (fun j => (Array.replicate ops.size false).getD j false) = fun _ => false := by
      funext j
      simp only [Array.getD_eq_getD_getElem?, Array.getElem?_replicate]
      split <;> rfl
    rw [he]
    exact hst
end

end Go.Proofs.YtlejelbefmkakaaGreat

/- A range over a function whose rounds are handed what lies in memory: the caller's law. -/
namespace Go.Proofs.YtlejelbefmkakaaGreat
open Go.RowKit

theorem fr_putObjH (W : World) (l : Nat) (o : Obj) : Fr (fun i => i = l) W (W.putObj l o) :=
  (Fr.refl _ W).grown (grownBy_putObj' W l o) (fun k hk _ => by cases hk; rfl)

/-- What a round leaves of the book-keeping: the loop's own record as it was, and of what there was M and B alone may have turned. -/
structure RK (l : Nat) (M B : Nat → Prop) (W1 W2 W' : World) : Prop where
  rec_ : W'.heap[l]? = W2.heap[l]?
  fr : Fr (fun i => M i ∨ B i ∨ i = l) W1 W'

/-- How the body of a round may be left. -/
def rpost {α : Type} (l : Nat) (I : List α → (Nat → Prop) → World → Prop) (Ix : Code → List α → (Nat → Prop) → World → Prop) (xs : List α) (M B : Nat → Prop) (W1 W2 : World) : Exit → Act → World → Prop
  | .normal, _, W' => RK l M B W1 W2 W' ∧ ∃ M', (∀ i, M' i → i < W1.heap.size → M i) ∧ I xs M' W'
  | .ret, _, W' => RK l M B W1 W2 W' ∧ ∃ M', (∀ i, M' i → i < W1.heap.size → M i) ∧ Ix .ret xs M' W'
  | .exit id, _, W' => RK l M B W1 W2 W' ∧ ∃ M', (∀ i, M' i → i < W1.heap.size → M i) ∧ Ix (.exit id) xs M' W'
  | .goto t, _, W' => RK l M B W1 W2 W' ∧ ∃ M', (∀ i, M' i → i < W1.heap.size → M i) ∧ Ix (.goto t) xs M' W'
  | .panic _, _, _ => False
  | .outgrown, _, _ => False

/-- What an iterator does: over whatever holds between two rounds. -/
def Iter {α : Type} (P : Program) (gf : Nat) (lb : Array Value) (Ok : α → Array Value → (Nat → Prop) → World → Prop) (xs : List α) (Av : Nat → Prop) (w : World) : Prop :=
  ∀ (l : Nat) (J Jx : List α → (Nat → Prop) → World → Prop) (W : World) (M : Nat → Prop), Fr No w W → (∀ pre M W W', J pre M W → Fr No W W' → J pre M W') → (∀ pre M W, J pre M W → ∀ i, M i → i < W.heap.size) →
    (∀ pre M W1 x args B, J pre M W1 → pre ++ [x] <+: xs → Ok x args B W1 → (∀ i, B i → W.heap.size ≤ i ∧ i < W1.heap.size ∧ ¬ M i) → YieldAt Fence.wide 2 P l args W1 fun e W' =>
      ∃ M' : Nat → Prop, Fr (fun i => M i ∨ B i) W1 W' ∧ (∀ i, M' i → i < W1.heap.size → M i) ∧ ((e = .returned (.bool true) ∧ J (pre ++ [x]) M' W') ∨ (e = .returned (.bool false) ∧ Jx (pre ++ [x]) M' W'))) →
    (∀ i, M i → i < w.heap.size → ¬ Av i) → J [] M W →
    Calls P gf (#[.func (.yield l) #[] #[]] ++ lb) W fun e W' => (∃ v, e = .returned v) ∧ ∃ M' : Nat → Prop, Fr M W W' ∧ (∀ i, M' i → i < W.heap.size → M i) ∧ (J xs M' W' ∨ ∃ q, q <+: xs ∧ Jx q M' W')

theorem wp_rangeFunc_seq {α : Type} {P : Program} {g : Operand} {ps : Array Tmp} {assign body : Code} {Q : Exit → Act → World → Prop} {a : Act} {w : World} {gf : Nat} {lb : Array Value} (hg : a.eval g = .func (.func gf) #[] lb)
    (eg : ∀ args w, (callFunc gf args).run P w = .ok (.enter gf args) w) {xs : List α} {Ok : α → Array Value → (Nat → Prop) → World → Prop} (hps : ∀ x args B W, Ok x args B W → args.size = ps.size) {Av : Nat → Prop} (hiter : Iter P gf lb Ok xs Av w)
    (I : List α → (Nat → Prop) → World → Prop) (Ix : Code → List α → (Nat → Prop) → World → Prop)
    (hI : ∀ pre M W W' S, I pre M W → Fr S W W' → (∀ i, i < W.heap.size → S i → w.heap.size ≤ i ∧ ¬ M i) → I pre M W')
    (hIx : ∀ c pre M W W' S, Ix c pre M W → Fr S W W' → (∀ i, i < W.heap.size → S i → w.heap.size ≤ i ∧ ¬ M i) → Ix c pre M W')
    (hIlt : ∀ pre M W, I pre M W → ∀ i, M i → i < W.heap.size) (M0 : Nat → Prop) (h0 : I [] M0 w) (hM0 : ∀ i, M0 i → i < w.heap.size ∧ ¬ Av i)
    (Ax : α → Array Value → World → Act → World → Prop)
    (hassign : ∀ l x args B W1, Ok x args B W1 → ∀ K : Act → World → Prop, (∀ a' Wa, Fr No W1 Wa → Ax x args W1 a' Wa → K a' Wa) →
      assign.wpIn (Fence.wide.inRound l) 2 P (Exit.then K (fun _ _ _ => False)) { tmps := (ps.zip args).foldl (fun t (p, v) => t.setIfInBounds p v) a.tmps, defers := [] } W1)
    (hbody : ∀ l pre x args B M W1 a' Wa W2, I pre M W1 → pre ++ [x] <+: xs → Ok x args B W1 → (∀ i, B i → w.heap.size ≤ i ∧ i < W1.heap.size ∧ ¬ M i) → Fr No W1 Wa → Ax x args W1 a' Wa → l < W1.heap.size → ¬ M l → ¬ B l → w.heap.size ≤ l →
      Fr (fun i => i = l) Wa W2 → body.wpIn (Fence.wide.inRound l) 2 P (rpost l I Ix (pre ++ [x]) M B W1 W2) a' W2)
    (hdone : ∀ D W M', I xs M' W → Fr M0 w W → (∀ i, M' i → i < w.heap.size → M0 i) → w.heap.size ≤ D → W.heap[D]? = some (.deferred (some [])) → Q .normal { a with defers := { target := .collected D, args := #[] } :: a.defers } W)
    (hstop : ∀ D c q W M', q <+: xs → Ix c q M' W → Fr M0 w W → (∀ i, M' i → i < w.heap.size → M0 i) → w.heap.size ≤ D → W.heap[D]? = some (.deferred (some [])) → c.wp P Q { a with defers := { target := .collected D, args := #[] } :: a.defers } W) :
    (Code.rangeFunc g ps assign body).wp P Q a w := by
  refine (wpIn_wide (n := 3)).1 ?_
  refine wpIn_rangeFunc ?_
  intro fn hfn
  obtain ⟨rec, hrec⟩ : ∃ rec : LoopState → Option Code → Loop, rec = fun st pe => { state := st, pending := pe, fn, tmps := a.tmps, params := ps, assign, body, defers := w.heap.size } := ⟨_, rfl⟩
  obtain ⟨W1, hW1⟩ : ∃ W1, (w.alloc (.deferred (some []))).alloc (.loop (rec .ready none)) = W1 := ⟨_, rfl⟩
  have hL1 : W1.heap[w.heap.size + 1]? = some (.loop (rec .ready none)) := by
    rw [← hW1]; have := World.alloc_heap_new (w.alloc (.deferred (some []))) (.loop (rec .ready none)); rwa [World.size_alloc] at this
  have hK1 : W1.heap[w.heap.size]? = some (.deferred (some [])) := by
    rw [← hW1]; exact (Below.heap_alloc _ _ _ (by simp)).trans (World.alloc_heap_new w _)
  have hb1 : Fr No w W1 := by rw [← hW1]; exact ((Fr.refl No w).alloc _).alloc _
  have hz1 : W1.heap.size = w.heap.size + 1 + 1 := by rw [← hW1]; simp
  refine ⟨w.heap.size + 1, [{ target := .collected w.heap.size, args := #[] }], W1, { target := .fn (.func gf) lb, args := #[.func (.yield (w.heap.size + 1)) #[] #[]] }, W1, gf,
    #[.func (.yield (w.heap.size + 1)) #[] #[]] ++ lb, W1, ?_, ?_, ?_, ?_, (fun h => by cases h), ?_⟩
  · rw [← hW1, hrec]; exact run_enterLoop_outer _ _ _ _ _
  · simp only [resolve, hg]
    simp [go_sem]
  · intro f' _; trivial
  · simp [invoke, go_sem, eg]
  · obtain ⟨l, hl⟩ : ∃ l, w.heap.size + 1 = l := ⟨_, rfl⟩
    rw [hl] at hL1 ⊢
    have hJ0 : ∀ i, (M0 i ∨ i = l) → i < w.heap.size → ¬ Av i := fun i h hlt => by
      rcases h with h | h
      · exact (hM0 i h).2
      · omega
    have hcall := hiter l
      (fun pre Mj W => ∃ M : Nat → Prop, I pre M W ∧ (∀ i, Mj i ↔ (M i ∨ i = l)) ∧ ¬ M l ∧ ¬ M w.heap.size ∧ W.heap[l]? = some (.loop (rec .ready none)) ∧ W.heap[w.heap.size]? = some (.deferred (some [])))
      (fun pre Mj W => ∃ (M : Nat → Prop) (c : Code), Ix c pre M W ∧ (∀ i, Mj i ↔ (M i ∨ i = l)) ∧ ¬ M l ∧ ¬ M w.heap.size ∧ W.heap[l]? = some (.loop (rec .done (some c))) ∧ W.heap[w.heap.size]? = some (.deferred (some [])))
      W1 (fun i => M0 i ∨ i = l) hb1 ?hno ?hlt ?hround hJ0 ?h0
    case hno =>
      rintro pre Mj W W' ⟨M, hi, hm, hn1, hn2, hl1, hk1⟩ f
      exact ⟨M, hI _ _ _ _ No hi f (fun _ _ h => h.elim), hm, hn1, hn2, (f.block l (Array.getElem?_eq_some_iff.1 hl1).1 (fun h => h)).trans hl1, (f.block _ (Array.getElem?_eq_some_iff.1 hk1).1 (fun h => h)).trans hk1⟩
    case hlt =>
      rintro pre Mj W ⟨M, hi, hm, hn1, hn2, hl1, hk1⟩ i hji
      rcases (hm i).1 hji with h | rfl
      · exact hIlt _ _ _ hi i h
      · exact (Array.getElem?_eq_some_iff.1 hl1).1
    case h0 => exact ⟨M0, hI _ _ _ _ No h0 hb1 (fun _ _ h => h.elim), fun i => Iff.rfl, fun h => by have := (hM0 _ h).1; omega, fun h => by have := (hM0 _ h).1; omega, hL1, hK1⟩
    case hround =>
      rintro pre Mj W x args B ⟨M, hi, hm, hn1, hn2, hl1, hk1⟩ hlen hok hB
      have hll : l < W.heap.size := (Array.getElem?_eq_some_iff.1 hl1).1
      have hkl : w.heap.size < W.heap.size := (Array.getElem?_eq_some_iff.1 hk1).1
      have hBl : ¬ B l := fun h => (hB l h).2.2 ((hm l).2 (.inr rfl))
      have hBk : ¬ B w.heap.size := fun h => by have := (hB _ h).1; omega
      have hy := run_yield (P := P) (args := args) hl1 (by rw [hrec]; exact hps x args B W hok)
      rw [hrec] at hy
      refine ⟨fn, _, assign, body, hy, roundIn_of_wpIn hfn (hassign l x args B W hok _ ?_)⟩
      clear hy
      intro a' Wa fa hax
      have hla : Wa.heap[l]? = some (.loop (rec .ready none)) := (fa.block l hll (fun h => h)).trans hl1
      have hka : Wa.heap[w.heap.size]? = some (.deferred (some [])) := (fa.block _ hkl (fun h => h)).trans hk1
      have hlta : l < Wa.heap.size := (Array.getElem?_eq_some_iff.1 hla).1
      refine ⟨_, run_beginRound hla (by rw [hrec]), ?_⟩
      have hl2 : (Wa.putObj l (.loop { rec .ready none with state := .busy })).heap[l]? = some (.loop { rec .ready none with state := .busy }) := World.putObj_heap_same hlta
      refine wpIn_mono (hbody l pre x args B M W a' Wa _ hi hlen hok (fun i h => ⟨by have := (hB i h).1; omega, (hB i h).2.1, fun h' => (hB i h).2.2 ((hm i).2 (.inl h'))⟩) fa hax hll hn1 hBl (by omega) (fr_putObjH Wa l _)) ?_
      have fin : ∀ (jump : Option Code) (W3 : World), RK l M B W (Wa.putObj l (.loop { rec .ready none with state := .busy })) W3 →
          (Instr.endRound l jump).run P W3 = .ok (.bool jump.isNone) (W3.putObj l (.loop (rec (if jump.isNone then .ready else .done) jump))) ∧
          (W3.putObj l (.loop (rec (if jump.isNone then .ready else .done) jump))).heap[l]? = some (.loop (rec (if jump.isNone then .ready else .done) jump)) ∧
          (W3.putObj l (.loop (rec (if jump.isNone then .ready else .done) jump))).heap[w.heap.size]? = some (.deferred (some [])) ∧
          Fr (fun i => Mj i ∨ B i) W (W3.putObj l (.loop (rec (if jump.isNone then .ready else .done) jump))) := fun jump W3 hk3 => by
        have hl3 := hk3.rec_.trans hl2
        have hd3 : W3.heap[w.heap.size]? = some (.deferred (some [])) := (hk3.fr.block _ hkl (fun h => by rcases h with h | h | h; exact hn2 h; exact hBk h; omega)).trans hk1
        have := run_endRound (P := P) jump hl3
        rw [hrec] at this ⊢
        refine ⟨this, World.putObj_heap_same (Array.getElem?_eq_some_iff.1 hl3).1, (World.putObj_heap_other (by omega)).trans hd3, ?_⟩
        refine (hk3.fr.mono (S' := fun i => Mj i ∨ B i) fun i _ h => ?_).trans' (fr_putObjH W3 l _) fun i _ h => .inl ((hm i).2 (.inr h))
        rcases h with h | h | h
        · exact .inl ((hm i).2 (.inl h))
        · exact .inr h
        · exact .inl ((hm i).2 (.inr h))
      have hM' : ∀ M' : Nat → Prop, (∀ i, M' i → i < W.heap.size → M i) → ¬ M' l ∧ ¬ M' w.heap.size ∧ (∀ i, (M' i ∨ i = l) → i < W.heap.size → Mj i) := fun M' h =>
        ⟨fun h' => hn1 (h l h' hll), fun h' => hn2 (h _ h' hkl), fun i h' hlt => (hm i).2 (h'.imp (fun q => h i q hlt) id)⟩
      have hst : ∀ (M' : Nat → Prop) (W3 : World) (o : Obj), ¬ M' l → ∀ i, i < W3.heap.size → i = l → w.heap.size ≤ i ∧ ¬ M' i := fun M' W3 o h i _ e => by subst e; exact ⟨by omega, h⟩
      rintro e a3 W3 hp
      cases e with
      | normal =>
        obtain ⟨hk3, M', hsub, hi3⟩ := hp
        obtain ⟨hr, hl4, hk4, f4⟩ := fin none W3 hk3
        obtain ⟨q1, q2, q3⟩ := hM' M' hsub
        exact ⟨_, _, hr, fun i => M' i ∨ i = l, f4, q3, .inl ⟨rfl, M', hI _ _ _ _ _ hi3 (fr_putObjH W3 l _) (hst M' W3 (.deferred none) q1), fun i => Iff.rfl, q1, q2, hl4, hk4⟩⟩
      | ret =>
        obtain ⟨hk3, M', hsub, hi3⟩ := hp
        obtain ⟨hr, hl4, hk4, f4⟩ := fin (some .ret) W3 hk3
        obtain ⟨q1, q2, q3⟩ := hM' M' hsub
        exact ⟨_, _, hr, fun i => M' i ∨ i = l, f4, q3, .inr ⟨rfl, M', .ret, hIx _ _ _ _ _ _ hi3 (fr_putObjH W3 l _) (hst M' W3 (.deferred none) q1), fun i => Iff.rfl, q1, q2, hl4, hk4⟩⟩
      | exit id =>
        obtain ⟨hk3, M', hsub, hi3⟩ := hp
        obtain ⟨hr, hl4, hk4, f4⟩ := fin (some (.exit id)) W3 hk3
        obtain ⟨q1, q2, q3⟩ := hM' M' hsub
        exact ⟨_, _, hr, fun i => M' i ∨ i = l, f4, q3, .inr ⟨rfl, M', .exit id, hIx _ _ _ _ _ _ hi3 (fr_putObjH W3 l _) (hst M' W3 (.deferred none) q1), fun i => Iff.rfl, q1, q2, hl4, hk4⟩⟩
      | goto t =>
        obtain ⟨hk3, M', hsub, hi3⟩ := hp
        obtain ⟨hr, hl4, hk4, f4⟩ := fin (some (.goto t)) W3 hk3
        obtain ⟨q1, q2, q3⟩ := hM' M' hsub
        exact ⟨_, _, hr, fun i => M' i ∨ i = l, f4, q3, .inr ⟨rfl, M', .goto t, hIx _ _ _ _ _ _ hi3 (fr_putObjH W3 l _) (hst M' W3 (.deferred none) q1), fun i => Iff.rfl, q1, q2, hl4, hk4⟩⟩
      | panic ch => exact hp.elim
      | outgrown => exact hp.elim
    refine (callsIn_wide.2 hcall).mono ?_
    rintro e W2 ⟨⟨v, rfl⟩, Mj', f2, hsub, hJ⟩
    have hfin : ∀ o : Obj, Fr M0 w (W2.putObj l o) := fun o => by
      refine (hb1.no.trans' f2 fun i hi h => ?_).trans' (fr_putObjH W2 l o) fun i hi h => ?_
      · rcases h with h | h
        · exact h
        · omega
      · have h' : i = l := h; omega
    rcases hJ with ⟨M, hi, hm, hn1, hn2, hl2, hk2⟩ | ⟨q, hq, M, c, hi, hm, hn1, hn2, hl2, hk2⟩
    · refine ⟨none, _, by have := run_endLoop (P := P) hl2 (by rw [hrec]; simp); rw [hrec] at this; exact this, ?_⟩
      refine hdone _ _ M (hI _ _ _ _ _ hi (fr_putObjH W2 l _) (fun i _ e => by have e' : i = l := e; subst e'; exact ⟨by omega, hn1⟩)) (hfin _) (fun i h hlt => ?_) (Nat.le_refl _) ((World.putObj_heap_other (by omega)).trans hk2)
      rcases hsub i ((hm i).2 (.inl h)) (by omega) with h' | h'
      · exact h'
      · omega
    · refine ⟨some c, _, by have := run_endLoop (P := P) hl2 (by rw [hrec]; simp); rw [hrec] at this; exact this, ?_⟩
      refine wpIn_wide.2 (hstop _ _ q _ M hq (hIx _ _ _ _ _ _ hi (fr_putObjH W2 l _) (fun i _ e => by have e' : i = l := e; subst e'; exact ⟨by omega, hn1⟩)) (hfin _) (fun i h hlt => ?_) (Nat.le_refl _) ((World.putObj_heap_other (by omega)).trans hk2))
      rcases hsub i ((hm i).2 (.inl h)) (by omega) with h' | h'
      · exact h'
      · omega

end Go.Proofs.YtlejelbefmkakaaGreat

/- Layer 12: the gates of a thing, gone over. -/
namespace Go.Proofs.YtlejelbefmkakaaGreat
open Go.RowKit
attribute [local go_sem] Oper.semAt_some

/-- What a round is handed: a number. -/
def OkR (x : Int) (args : Array Value) (_ : Nat → Prop) (_ : World) : Prop := args = #[.int .i64 x]

/-- The gates on a way. -/
def Wm.gatesOf (m : Wm) (L : List Int) : List Int := L.filter fun x => decide (m.kind x = 15)

theorem each_fn (p : Option Addr) (r : Int) (w : World) : Calls Tryz.prog 102 #[.pointer p, .int .i64 r] w fun e w' => e = .returned (.func (.func 170) #[] #[.pointer (some ⟨w.heap.size, 0, none⟩), .pointer (some ⟨w.heap.size + 1, 0, none⟩)]) ∧
    Blk w' w.heap.size 31 #[.pointer p] ∧ Blk w' (w.heap.size + 1) 22 #[.int .i64 r] ∧ Fr No w w' := by
  go_enter Tryz.func102, Tryz.ntmps102
  go_wp2
  go_ret
  exact ⟨rfl, (Blk.new w _ _).alloc _, Blk.new' (w.alloc _) _ _ (by simp), ((Fr.refl No w).alloc _).alloc _⟩

/-- Between two numbers. -/
structure AJ (J : List Int → (Nat → Prop) → World → Prop) (m : Wm) (L : List Int) (M : Nat → Prop) (Wc : World) (j : Nat) (Mj : Nat → Prop) (wr : World) : Prop where
  j : J (m.gatesOf (L.take j)) Mj wr
  fr : Fr M Wc wr
  sub : ∀ i, Mj i → i < Wc.heap.size → M i

theorem gates_take {m : Wm} {L : List Int} {j : Nat} (h : j < L.length) : m.gatesOf (L.take (j + 1)) = m.gatesOf (L.take j) ++ if m.kind L[j] = 15 then [L[j]] else [] := by
  unfold Wm.gatesOf
  rw [List.take_succ_eq_append_getElem h, List.filter_append]
  congr 1
  by_cases hk : m.kind L[j] = 15 <;> simp [hk]

set_option maxRecDepth 100000 in
set_option maxHeartbeats 4000000 in
theorem iter_each {m : Wm} {lo : Nat} {w : World} (h : m.Ok lo w) {b1 b2 : Nat} (hb1 : Blk w b1 31 #[.pointer (some ⟨m.wb, 0, none⟩)]) {r : Int} (hb2 : Blk w b2 22 #[.int .i64 r]) {L : List Int} (hw : Way m r L) (hL : L.length ≤ 100000) :
    Iter Tryz.prog 170 #[.pointer (some ⟨b1, 0, none⟩), .pointer (some ⟨b2, 0, none⟩)] OkR (m.gatesOf L) (fun i => m.B i ∨ i = b1 ∨ i = b2) w := by
  intro lp J Jx W M hf hno hlt hround hAv hJ
  have hMlt := hlt _ _ _ hJ
  have hbW := hb1.fr hf fun h => h
  have hcW := hb2.fr hf fun h => h
  have hC := Way_w (h.no hf) hw hL
  have t0 := hbW.cell 0
  have s0 := hcW.cell 0
  simp only [List.getElem?_toArray, List.getElem?_cons_zero] at t0 s0
  have t1 := hbW.lt
  have s1 := hcW.lt
  have hBW : ∀ i, m.B i → ¬ M i := fun i hi hM => hAv i hM (h.lt i hi).2 (.inl hi)
  have hb1M : ¬ M b1 := fun hM => hAv b1 hM hb1.lt (.inr (.inl rfl))
  have HC := hide hC
  have HJ := hide hJ
  have HR := hide hround
  have HNO := hide hno
  have HML := hide hMlt
  have HBW := hide hBW
  have HBM := hide hb1M
  have HOK := hide (h.no hf)
  have HB1 := hide hbW
  have HL := hide hL
  clear hC hJ hround hno hlt hMlt hbW hcW hb1 hb2 hw hf hAv h hBW hb1M hL
  go_enter Tryz.func170, Tryz.ntmps170
  refine (wpIn_wide (n := 3)).1 ?_
  gi_wp2_with fail
  refine ⟨trivial, (callsIn_wide.2 HC.out).mono ?_⟩
  rintro e Wc ⟨v, rfl, hrow, fc⟩
  obtain ⟨A1, c1, rfl⟩ := owns_form hrow
  have hLL := HL.out
  have hA0 : AJ J m L M Wc 0 M Wc := ⟨by simpa [Wm.gatesOf] using HNO.out _ _ _ _ HJ.out fc, Fr.refl _ _, fun _ h _ => h⟩
  have HROW := hide hrow
  have HFC := hide fc
  have HA0 := hide hA0
  have hfs := fc.size
  clear hrow fc hA0 t0 s0 t1 s1 HC HJ
  gi_wp2_with fail
  gi_loopw [10] (fun sv wr => ∃ (j : Nat) (Mj : Nat → Prop), sv = .int .i64 j ∧ j ≤ L.length ∧ AJ J m L M Wc j Mj wr) (fun sv _ => L.length - (intOf sv).toNat)
  case atStart => exact ⟨0, M, rfl, Nat.zero_le _, HA0.out⟩
  case round =>
    obtain ⟨j, Mj, rfl, hj, inv⟩ := hrel
    have hfin : Fr M W wr := (HFC.out.no).trans' inv.fr fun i _ h => h
    by_cases hlt : j < L.length
    · have hrw : wr.ownsRow W.heap.size 22 1 (.slice A1 L.length c1) L.length (L.map fun r => Value.int .i64 r) := owns_fr HROW.out inv.fr fun i hi hM => by
        have h1 := (owns_lt HROW.out i hi).1
        have h2 := HML.out i hM
        omega
      obtain ⟨g, rfl, hg1, e0⟩ := row_at hrw hlt
      have hok := HOK.out.fr hfin HBW.out
      have hK := Kind_w hok L[j]
      have hb := HB1.out.fr hfin HBM.out
      have t0 := hb.cell 0
      simp only [List.getElem?_toArray, List.getElem?_cons_zero] at t0
      have t1 := hb.lt
      have htk := gates_take (m := m) hlt
      have HK := hide hK
      have HT := hide htk
      have HI := hide inv
      have HFIN := hide hfin
      by_cases hk : m.kind L[j] = 15
      · have hpre : m.gatesOf (L.take j) ++ [L[j]] <+: m.gatesOf L := by
          have := htk
          rw [if_pos hk] at this
          rw [← this]
          exact ⟨(L.drop (j + 1)).filter fun x => decide (m.kind x = 15), by unfold Wm.gatesOf; rw [← List.filter_append, List.take_append_drop]⟩
        obtain ⟨fn, tmps, assign, body, hy, hR⟩ := HR.out _ Mj wr L[j] #[.int .i64 L[j]] (fun _ => False) inv.j hpre rfl (fun i h => h.elim)
        have HRR := hide hR
        have HPRE := hide hpre
        rw [hk] at HK
        rw [if_pos hk] at HT
        generalize hu : L[j] = u at *
        clear hk hpre hR htk hK inv hok hrw hfin hb hu
        gi_wp2_with fail
        refine ⟨trivial, (callsIn_wide.2 HK.out).mono ?_⟩
        rintro e w2 ⟨rfl, rfl⟩
        gi_wp2_with fail
        refine HRR.out.mono ?_
        rintro e w4 ⟨M', f4, hsub, hres⟩
        have hs2 := HI.out.fr.size
        have fr4 : Fr M Wc w4 := HI.out.fr.trans' f4 fun i hi h => by
          rcases h with h | h
          · exact HI.out.sub i h hi
          · exact h.elim
        have sub4 : ∀ i, M' i → i < Wc.heap.size → M i := fun i h hi => HI.out.sub i (hsub i h (by omega)) hi
        have HF4 := hide fr4
        have HS4 := hide sub4
        rcases hres with ⟨rfl, hj'⟩ | ⟨rfl, hj'⟩
        · have hn : AJ J m L M Wc (j + 1) M' w4 := ⟨by rw [HT.out]; exact hj', HF4.out, HS4.out⟩
          have HN := hide hn
          clear f4 hsub fr4 sub4 hj' hn
          gi_wp2_with fail
          refine ⟨⟨j + 1, M', by go_num, by omega, HN.out⟩, by simp [intOf]; omega⟩
        · have HJX := hide hj'
          clear f4 hsub fr4 sub4 hj'
          gi_wp2_with fail
          refine bodyPost_ret (results_none rfl _ _ _) rfl ?_
          exact ⟨⟨_, rfl⟩, M', (HFC.out.no).trans' HF4.out fun i _ h => h, fun i h1 h2 => HS4.out i h1 (by omega), .inr ⟨_, HPRE.out, HJX.out⟩⟩
      · have hn : AJ J m L M Wc (j + 1) Mj wr := ⟨by rw [htk, if_neg hk, List.append_nil]; exact inv.j, inv.fr, inv.sub⟩
        have HN := hide hn
        have hkf : (m.kind L[j] == 15) = false := by simpa using hk
        have hkd : decide (m.kind L[j] = 15) = false := by simpa using hk
        generalize m.kind L[j] = kk at *
        generalize L[j] = u at *
        clear hk htk hK inv hok hrw hfin hb hn
        gi_wp2_with fail
        refine ⟨trivial, (callsIn_wide.2 HK.out).mono ?_⟩
        rintro e w2 ⟨rfl, rfl⟩
        gi_wp2_with fail
        refine ⟨fun f h => (nomatch h), ?_⟩
        gi_wp2_with fail
        refine ⟨⟨j + 1, Mj, by go_num, by omega, HN.out⟩, by simp [intOf]; omega⟩
    · obtain rfl : j = L.length := by omega
      have HI := hide inv
      have HFIN := hide hfin
      clear inv hfin
      gi_wp2_with fail
      go_end0
      refine ⟨⟨_, rfl⟩, Mj, HFIN.out, fun i h1 h2 => HI.out.sub i h1 (by omega), .inl ?_⟩
      have := HI.out.j
      rwa [List.take_of_length_le (Nat.le_refl _)] at this

end Go.Proofs.YtlejelbefmkakaaGreat

/- slices.AppendSeq, Collect, of numbers gone over; layer 12: Gates. -/
namespace Go.Proofs.YtlejelbefmkakaaGreat
open Go.RowKit
attribute [local go_sem] Oper.semAt_some

theorem wpListIn_append_lies {F : Fence} {n : Nat} {P : Program} (w : World) {ops : Array Oper} {rest : List Oper} {o : Oper} {a : Act} {Q : Exit → Act → World → Prop}
    (hg : o.guard = none) (s x : Operand) (t : TypeId) (hop : o.op = Op.call { callee := Callee.builtin Builtin.append, args := #[s, x], argTypes := #[t, t] })
    (base : Nat) (e : TypeId) (i : TypeInfo) (z : Value) (size bytes : Nat) (h1 : P.underlying t = some (.slice e)) (h2 : P.info? e = some i) (h3 : i.zero = some z) (h4 : i.size = size) (h5 : i.bytes = bytes) (h6 : z.cells.size = size) (h7 : 0 < size)
    (v : Value) (k : Nat) (xs : List Value) (hs : a.eval s = v) (hown : w.ownsRow base e size v k xs) (ad : Addr) (m c : Nat) (news : List Value) (hx : a.eval x = .slice (some ad) m c) (hn : news.length = m * size)
    (hc : ∀ j u, news[j]? = some u → w.cell? (ad.add j) = some u) (h1c : ∀ u ∈ news, u.oneCell' = true) (hm : 0 < m) (b1 : k + m ≤ maxLen) (b2 : (k + m) * bytes ≤ 140737488355328) (b3 : base ≤ w.heap.size) (H : Nat) (hH : w.heap.size = H)
    (hK : ∀ g cap w', w'.ownsRow base e size (.slice (some ⟨g, 0, none⟩) (k + m) cap) (k + m) (xs ++ news) → w.grownBy w' v.ownBlock → (v.ownBlock = some g ∨ g = H) → g < w'.heap.size → wpListIn F n P ops Q rest (a.put o.dst (.slice (some ⟨g, 0, none⟩) (k + m) cap)) w') :
    wpListIn F n P ops Q (o :: rest) a w := by
  refine wpListIn_plain hg fun K hK' => ?_
  obtain ⟨g, cap, w', hrun, r1, r2, r3, r4⟩ := run_append_lies (P := P) w t o.type base e i z size bytes h1 h2 h3 h4 h5 h6 h7 v k xs hown ad m c news hn hc h1c hm b1 b2 b3 H hH
  unfold Oper.wpIn
  refine ⟨?_, ?_⟩
  · simp [Oper.about, hop, resolve, Target.leads, Sem.run_pure]
  · rw [Oper.semAt_plain F _ _ (by rw [hop]; intro c hc'; cases hc')]
    simp [execOp, hop, resolve, invoke, builtin, hs, hx, hrun, Result.andThen]
    exact hK' _ _ (hK g cap w' r1 r2 r3 r4)

/-- A function that goes over some numbers. -/
structure Goes (gf : Nat) (lb : Array Value) (xs : List Int) (Av : Nat → Prop) (w : World) : Prop where
  enters : ∀ args w, (callFunc gf args).run Tryz.prog w = .ok (.enter gf args) w
  iter : ∀ w', Fr No w w' → Iter Tryz.prog gf lb OkR xs Av w'
  av : ∀ i, Av i → i < w.heap.size

/-- What has been collected. -/
def CJ (g base : Nat) (pre : List Int) (M : Nat → Prop) (W : World) : Prop :=
  g < base ∧ base ≤ W.heap.size ∧ ∃ v, Blk W g 54 #[v] ∧ W.ownsRow base 22 1 v pre.length (pre.map fun r => Value.int .i64 r) ∧ ∀ i, M i ↔ (i = g ∨ v.ownBlock = some i)

theorem CJ.stay {g base : Nat} {pre : List Int} {M : Nat → Prop} {W W' : World} {S : Nat → Prop} (h : CJ g base pre M W) (hf : Fr S W W') (hs : ∀ i, i < W.heap.size → S i → ¬ M i) : CJ g base pre M W' := by
  obtain ⟨h0, h1, v, hb, ho, hM⟩ := h
  exact ⟨h0, Nat.le_trans h1 hf.size, v, hb.fr hf (fun h => hs g hb.lt h ((hM g).2 (.inl rfl))), owns_fr ho hf (fun i hi h => hs i (owns_lt ho i hi).2 h ((hM i).2 (.inr hi))), hM⟩

theorem CJ.lt {g base : Nat} {pre : List Int} {M : Nat → Prop} {W : World} (h : CJ g base pre M W) : ∀ i, M i → i < W.heap.size := by
  obtain ⟨h0, h1, v, hb, ho, hM⟩ := h
  intro i hi
  rcases (hM i).1 hi with rfl | h
  · exact hb.lt
  · exact (owns_lt ho i h).2

theorem CJ.push {g base : Nat} {pre : List Int} {M : Nat → Prop} {W w1 : World} {v : Value} {x : Int} {g2 cap2 : Nat} (h0 : g < base) (h1 : base ≤ W.heap.size) (hb : Blk W g 54 #[v]) (ho : W.ownsRow base 22 1 v pre.length (pre.map fun r => Value.int .i64 r)) (hM : ∀ i, M i ↔ (i = g ∨ v.ownBlock = some i))
    (hown : w1.ownsRow base 22 1 (.slice (some ⟨g2, 0, none⟩) (pre.length + 1) cap2) (pre.length + 1) ((pre.map fun r => Value.int .i64 r) ++ [.int .i64 x])) (hgrow : (W.alloc (.cells #[.int .i64 x] 22)).grownBy w1 v.ownBlock) (hat : v.ownBlock = some g2 ∨ g2 = W.heap.size + 1) :
    Fr M W (w1.setCell ⟨g, 0, none⟩ (.slice (some ⟨g2, 0, none⟩) (pre.length + 1) cap2)) ∧ ∃ M' : Nat → Prop, (∀ i, M' i → i < W.heap.size → M i) ∧ CJ g base (pre ++ [x]) M' (w1.setCell ⟨g, 0, none⟩ (.slice (some ⟨g2, 0, none⟩) (pre.length + 1) cap2)) := by
  have fA : Fr M W (W.alloc (.cells #[.int .i64 x] 22)) := ((Fr.refl No W).alloc _).no
  have fB : Fr M W w1 := fA.grown hgrow fun i hi hlt => (hM i).2 (.inr hi)
  have fC : Fr M W (w1.setCell ⟨g, 0, none⟩ (.slice (some ⟨g2, 0, none⟩) (pre.length + 1) cap2)) := fB.set (fun _ => (hM g).2 (.inl rfl)) _
  have hg2 : base ≤ g2 := (owns_lt hown g2 rfl).1
  have hb1 := hb.alloc (.cells #[.int .i64 x] 22)
  have hbw : Blk w1 g 54 #[v] := (hgrow.block g (by have := hb.lt; simp; omega) (fun h => by have := owns_lt ho g h.symm; omega)).trans hb1
  refine ⟨fC, fun i => i = g ∨ i = g2, fun i hi hlt => ?_, h0, Nat.le_trans h1 fC.size, .slice (some ⟨g2, 0, none⟩) (pre.length + 1) cap2, hbw.set_ 0 _, ?_, fun i => ?_⟩
  · rcases hi with rfl | rfl
    · exact (hM _).2 (.inl rfl)
    · rcases hat with h | h
      · exact (hM _).2 (.inr h)
      · omega
  · rw [List.length_append, List.map_append]
    exact owns_fr hown ((Fr.refl (fun i => i = g) w1).set (fun _ => rfl) _) (fun i hi h => by simp [Value.ownBlock] at hi; have h' : i = g := h; omega)
  · simp [Value.ownBlock, eq_comm]

set_option maxRecDepth 100000 in
set_option maxHeartbeats 8000000 in
theorem AppendSeq_w {gf : Nat} {lb : Array Value} {xs : List Int} {Av : Nat → Prop} {w : World} (gx : Goes gf lb xs Av w) (hx : xs.length ≤ 100000) :
    Calls Tryz.prog 169 #[.slice none 0 0, .func (.func gf) #[] lb] w (RefsP xs w) := by
  obtain ⟨i0, hi0, hz0, hz1, hz2⟩ := info_parts ref_info
  have HG := hide gx
  have hb0 := Blk.new w 54 #[.slice none 0 0]
  have hf0 := (Fr.refl No w).alloc (.cells #[.slice none 0 0] 54)
  have hit := gx.iter _ hf0
  have hsz : (w.alloc (.cells #[.slice none 0 0] 54)).heap.size = w.heap.size + 1 := by simp
  have HIT := hide hit
  have HB0 := hide hb0
  have HF0 := hide hf0
  clear gx hit hb0 hf0
  refine (callsIn_wide (n := 5)).1 ?_
  refine callsIn_of_wp_marks Tryz.func169 rfl trivial ?_
  simp only [Tryz.ntmps169, List.size_toArray, List.length_cons, List.length_nil, Nat.reduceAdd, Nat.reduceSub, Array.replicate_succ, Array.replicate_zero, List.push_toArray, List.append_toArray, List.nil_append, List.cons_append]
  refine wpIn_wide.2 ?_
  go_wp2_with fail
  generalize World.alloc w _ = W0 at *
  generalize ha0 : ({ tmps := _, defers := _ } : Act) = a0
  refine wp_rangeFunc_seq (gf := gf) (lb := lb) (by rw [← ha0]; rfl) HG.out.enters (fun x args B W h => by cases h; rfl) HIT.out (CJ w.heap.size (w.heap.size + 1)) (fun _ _ _ _ => False)
    (fun pre M W W' S h f hs => h.stay f fun i hi hS => (hs i hi hS).2) (fun _ _ _ _ _ _ h _ _ => h) (fun pre M W h => h.lt) (fun i => i = w.heap.size) ?h0 ?hM0
    (fun x args W1 a' Wa => Wa = W1 ∧ a' = ({ a0 with defers := [] }.put (some 7) (.int .i64 x)).put (some 5) (.int .i64 x)) ?assign ?body ?done (fun _ _ _ _ _ _ h _ _ _ _ => h.elim)
  case h0 => exact ⟨by omega, by omega, .slice none 0 0, HB0.out, World.ownsRow_nil _ _ _ _, fun i => by simp [Value.ownBlock]⟩
  case hM0 =>
    rintro i rfl
    exact ⟨by omega, fun h => by have := HG.out.av _ h; omega⟩
  case assign =>
    rintro lp x args B W1 rfl K hK
    subst ha0
    have HK := hide hK
    clear hK
    gi_wp2
    exact HK.out _ _ (Fr.refl No W1) ⟨rfl, rfl⟩
  case body =>
    rintro lp pre x args B M W1 a' Wa W2 I hpre rfl hB fa ⟨rfl, rfl⟩ hl hMl hBl hwl f2
    subst ha0
    have hlen : pre.length + 1 ≤ 100000 := by have := hpre.length_le; simp at this; omega
    have I2 := I.stay f2 fun i hi h => by have h' : i = lp := h; subst h'; exact hMl
    obtain ⟨h0, h1, v, hb, ho, hM⟩ := I2
    have c0 := hb.cell 0
    have z0 := hb.frozen 0
    simp only [List.getElem?_toArray, List.getElem?_cons_zero] at c0
    have q0 := hb.lt
    have hownA := ho.alloc (.cells #[.int .i64 x] 22)
    have HBW := hide fun w1 (hgrow : (W2.alloc (.cells #[.int .i64 x] 22)).grownBy w1 v.ownBlock) => ((hgrow.block w.heap.size (by simp; omega) (fun h => by have := owns_lt ho w.heap.size h.symm; omega)).trans (hb.alloc (.cells #[.int .i64 x] 22)) : Blk w1 w.heap.size 54 #[v])
    have HB := hide hb
    have HO := hide ho
    have HM := hide hM
    have HF2 := hide f2
    have HML := hide hMl
    clear hb ho hM I hpre f2 hB hBl hMl
    simp only [Act.put, List.setIfInBounds_toArray, List.set_cons_zero, List.set_cons_succ]
    gi_wp2_with (gi_at_builtin; refine wpListIn_append_lies _ (by rfl) _ _ 54 (by rfl) (w.heap.size + 1) 22 i0 _ 1 8 Tryz.underlying54 hi0 hz0 hz1 hz2 (by rfl) (by omega) v pre.length (pre.map fun r => Value.int .i64 r) (by rfl) hownA ⟨W2.heap.size, 0, none⟩ 1 1 [.int .i64 x] (by rfl) (by rfl) (World.news_of_block (heap_alloc_new W2 _)) (by simp [Value.oneCell']) (by omega) (by unfold maxLen; omega) (by omega) (by simp; omega) (W2.heap.size + 1) (by simp) ?_; intro g2 cap2 w7 hown1 hgrow hat hlt1; have hbw : Blk w7 w.heap.size 54 #[v] := HBW.out w7 hgrow; have c1 := hbw.cell 0; have f1 := hbw.frozen 0; have q5 := hbw.lt; simp only [List.getElem?_toArray, List.getElem?_cons_zero] at c1; have HP := hide (CJ.push h0 h1 HB.out HO.out HM.out hown1 hgrow hat); clear hbw hown1 hgrow hat)
    obtain ⟨fM, M', hsub, hcj⟩ := HP.out
    have hsz2 := HF2.out.size
    refine ⟨⟨fM.block lp (by omega) HML.out, ?_⟩, M', fun i h1 h2 => hsub i h1 (by omega), hcj⟩
    refine (HF2.out.mono fun i _ h => .inr (.inr h)).trans' fM fun i _ h => .inl h
  case done =>
    rintro D W M' I FM hsub hDge hDK
    subst ha0
    obtain ⟨h0, h1, v, hb, ho, hM⟩ := I
    have c0 := hb.cell 0
    simp only [List.getElem?_toArray, List.getElem?_cons_zero] at c0
    have q0 := hb.lt
    have HO := hide ho
    have HFW := hide (HF0.out.trans' FM fun i hi h => by have h' : i = w.heap.size := h; omega)
    have hDW : D < W.heap.size := (Array.getElem?_eq_some_iff.1 hDK).1
    have hvD : v.ownBlock ≠ some D := fun h => by
      obtain ⟨cs, hb'⟩ := owns_typed ho h
      unfold Blk at hb'
      rw [hb'] at hDK
      cases hDK
    clear hb hM FM ho
    go_wp2_with fail
    refine ⟨by simp, .inl ⟨_, _, rfl, run_takeDeferred hDK, ?_⟩⟩
    refine ⟨v, by simp [results, Tryz.results169, go_sem], v, rfl, ?_, ?_⟩
    · have := owns_fr HO.out (fr_putObj W D (.deferred none)) fun i hi h => by have h' : i = D := h; subst h'; exact hvD hi
      exact ⟨this.1, this.2.imp id fun ⟨g, cp, cur, a, b, c⟩ => ⟨g, cp, cur, a, by omega, c⟩⟩
    · exact HFW.out.trans' (fr_putObj W D _) (fun i hi h => by have h' : i = D := h; omega)

theorem Collect_w {gf : Nat} {lb : Array Value} {xs : List Int} {Av : Nat → Prop} {w : World} (gx : Goes gf lb xs Av w) (hx : xs.length ≤ 100000) :
    Calls Tryz.prog 101 #[.func (.func gf) #[] lb] w (RefsP xs w) := by
  have HA := hide (AppendSeq_w gx hx)
  clear gx
  go_enter Tryz.func101, Tryz.ntmps101
  go_wp2_with fail
  refine HA.out.mono ?_
  rintro e w' ⟨v, rfl, ho, f⟩
  have HO := hide ho
  have HF := hide f
  clear ho f
  go_wp2
  go_ret
  exact ⟨v, rfl, HO.out, HF.out⟩

theorem goes_each {m : Wm} {lo : Nat} {w : World} (h : m.Ok lo w) {b1 b2 : Nat} (hb1 : Blk w b1 31 #[.pointer (some ⟨m.wb, 0, none⟩)]) {r : Int} (hb2 : Blk w b2 22 #[.int .i64 r]) {L : List Int} (hw : Way m r L) (hL : L.length ≤ 100000) :
    Goes 170 #[.pointer (some ⟨b1, 0, none⟩), .pointer (some ⟨b2, 0, none⟩)] (m.gatesOf L) (fun i => m.B i ∨ i = b1 ∨ i = b2) w where
  enters := enters_fn2 Tryz.func170 (by kernel_rfl) rfl
  iter := fun w' f => iter_each (h.no f) (hb1.fr f fun h => h) (hb2.fr f fun h => h) hw hL
  av := fun i hi => by
    rcases hi with hi | rfl | rfl
    · exact (h.lt i hi).2
    · exact hb1.lt
    · exact hb2.lt

/-- What Gates tells. -/
def GatesP (L : List Int) (w : World) (e : Ending) (w' : World) : Prop := ∃ v, e = .returned (.tuple #[v, .int .i64 0]) ∧ w'.ownsRow w.heap.size 22 1 v L.length (L.map fun r => Value.int .i64 r) ∧ Fr No w w'

set_option maxRecDepth 100000 in
theorem Gates_w {m : Wm} {lo : Nat} {w : World} (h : m.Ok lo w) {r : Int} {L : List Int} (hw : Way m r L) (hL : L.length ≤ 100000) (hr : (m.get r).isSome = true) :
    Calls Tryz.prog 33 #[.pointer (some ⟨m.wb, 0, none⟩), .int .i64 r] w (GatesP (m.gatesOf L) w) := by
  have HTh := hide (gath_w h)
  have hI := Is_w h r
  rw [hr] at hI
  have HI := hide hI
  have HE := hide (each_fn (some ⟨m.wb, 0, none⟩) r w)
  have hgl : (m.gatesOf L).length ≤ 100000 := Nat.le_trans (List.length_filter_le _ _) hL
  have HC := hide fun (w' : World) (f : Fr No w w') (hb1 : Blk w' w.heap.size 31 #[.pointer (some ⟨m.wb, 0, none⟩)]) (hb2 : Blk w' (w.heap.size + 1) 22 #[.int .i64 r]) => Collect_w (goes_each (h.no f) hb1 hb2 hw hL) hgl
  clear h hw hI
  go_enter Tryz.func33, Tryz.ntmps33
  go_wp2_with fail
  refine HTh.out.mono ?_
  rintro e w' ⟨rfl, rfl⟩
  go_wp2_with fail
  refine HI.out.mono ?_
  rintro e w' ⟨rfl, rfl⟩
  go_wp2_with fail
  refine HE.out.mono ?_
  rintro e w1 ⟨rfl, hb1, hb2, f1⟩
  have HC2 := hide (HC.out w1 f1 hb1 hb2)
  have HF1 := hide f1
  clear hb1 hb2 f1 HC
  go_wp2_with fail
  refine HC2.out.mono ?_
  rintro e w2 ⟨v, rfl, ho, f2⟩
  have HO := hide ho
  have HF2 := hide f2
  clear ho f2
  go_wp2
  go_ret2
  have hs := HF1.out.size
  have := HO.out
  exact ⟨v, rfl, ⟨this.1, this.2.imp id fun ⟨g, cp, cur, a, b, c⟩ => ⟨g, cp, cur, a, by omega, c⟩⟩, HF1.out.trans HF2.out⟩

end Go.Proofs.YtlejelbefmkakaaGreat

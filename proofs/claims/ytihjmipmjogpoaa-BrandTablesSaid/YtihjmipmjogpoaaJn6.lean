/- Texts joined: Bt11, Bt13, Bt7, Bt8. -/
import Derived.Test.YtihjmipmjogpoaaJn5
import Derived.RangeFuncBound
import Derived.RangeFuncCalls
import Derived.OwnWalkIn
import Derived.TacticsInMore
import Derived.LoopNIn
import Derived.LoopIn
import Derived.StillTailTactics
import Derived.Deep.CutRange
/- BrandTables: (*Table).Copy: the walk. -/
namespace Go.Proofs.Ytihjmipmjogpoaa
open Go.RowKit

theorem fr_setBlock (W : World) (r : Nat) (o : Obj) : Fr (fun i => i = r) W (ChangeMaps.setBlock W r o) :=
  ⟨rfl, rfl, rfl, by simp [ChangeMaps.setBlock], fun b hb hn => by simp [ChangeMaps.setBlock, Array.getElem?_setIfInBounds]; intro h; exact absurd h.symm hn⟩

theorem setBlock_at {W : World} {r : Nat} (o : Obj) (h : r < W.heap.size) : (ChangeMaps.setBlock W r o).heap[r]? = some o := by
  simp [ChangeMaps.setBlock, h]

theorem CpI.fresh {w wr : World} {M cl : Nat} {es : Array MapEntry} {l : List Ent} {came tb1 M1 O1 rI : Nat} {v : List (MapEntry × Ent)} {l2 : List Ent} (inv : CpI w M cl es l came tb1 M1 O1 rI v l2 wr) (hd : l.Pairwise fun a b => a.k.v ≠ b.k.v) (hc : l.Pairwise fun a b => a.c ≠ b.c)
    {e : MapEntry} {x : Ent} {i : Nat} (hei : es.toList[i]? = some e) (hxi : l[i]? = some x) (hns : (v.map fun p => p.1.born).toArray.contains e.born = false) : ∀ e2 ∈ l2, e2.k.v ≠ x.k.v ∧ e2.c ≠ x.c := by
  intro e2 he2
  have h1 : e2.d ∈ l2.map Ent.d := List.mem_map_of_mem he2
  rw [inv.rows] at h1
  obtain ⟨p, hp, hpd⟩ := List.mem_map.1 h1
  obtain ⟨j, hj1, hj2⟩ := zip_at (inv.sub p hp)
  have hij : j ≠ i := by
    rintro rfl
    rw [hei] at hj1
    simp at hj1
    have : (v.map fun p => p.1.born).toArray.contains e.born = true := by
      have h : e.born ∈ v.map fun p => p.1.born := by rw [hj1]; exact List.mem_map_of_mem (f := fun p : MapEntry × Ent => p.1.born) hp
      simpa [Array.contains_iff_mem] using h
    rw [hns] at this
    cases this
  obtain ⟨hjl, hjx⟩ := List.getElem?_eq_some_iff.1 hj2
  obtain ⟨hil, hix⟩ := List.getElem?_eq_some_iff.1 hxi
  simp only [Ent.d, Prod.mk.injEq] at hpd
  rw [← hpd.1, ← hpd.2.2, ← hjx, ← hix]
  have d1 := List.pairwise_iff_getElem.1 hd
  have c1 := List.pairwise_iff_getElem.1 hc
  rcases Nat.lt_trichotomy j i with h | h | h
  · exact ⟨d1 j i hjl hil h, c1 j i hjl hil h⟩
  · exact absurd h hij
  · exact ⟨fun h' => d1 i j hil hjl h h'.symm, fun h' => c1 i j hil hjl h h'.symm⟩

theorem iterSeen_of {W : World} {r : Nat} {m : Option Nat} {a c : Nat} {s : Array Nat} (h : W.heap[r]? = some (.mapIter m a s c)) : W.iterSeen r = s := by
  unfold World.iterSeen
  rw [h]

set_option maxRecDepth 100000 in
set_option maxHeartbeats 8000000 in
theorem Copy_any (w : World) (lo tb M O : Nat) (l : List Ent) (came : Nat) (hT : Tab w lo w.heap.size tb M O l came) :
    Calls Try.prog 31 #[.pointer (some ⟨tb, 0, none⟩)] w fun e w' => ∃ tb' M' O' l', e = .returned (.pointer (some ⟨tb', 0, none⟩)) ∧ Tab w' w.heap.size w'.heap.size tb' M' O' l' came ∧ (l'.map Ent.d).Perm (l.map Ent.d) ∧ Fr No w w' := by
  have hN := none_tab tb M O came w hT.blk
  obtain ⟨es, cl, hm, hes⟩ := hT.m
  have hst := hT.stm es cl hm
  have HT := hide hT
  have HES := hide hes
  have HST := hide hst
  have hlo := hT.tb0
  have hM0 := hT.m0
  have hcm := hT.came0
  clear hT hes hst
  go_enter Try.func31, Try.ntmps31
  go_wp2_with fail
  refine hN.mono ?_
  rintro e w' ⟨rfl, rfl⟩
  clear hN
  go_wp2_with fail
  refine (New_any w').mono ?_
  rintro e w1 ⟨tb1, rfl, hT1, f1⟩
  obtain ⟨M1, O1, hT1⟩ : ∃ M1 O1, Tab w1 w'.heap.size w1.heap.size tb1 M1 O1 [] 0 := ⟨_, _, hT1⟩
  have hb1 := HT.out.blk.fr f1 (fun h => h)
  have t2 := hb1.cell 2
  have c2 := hT1.blk.cell 2
  have cf := hT1.blk.frozen 2
  simp only [List.getElem?_toArray, List.getElem?_cons_zero, List.getElem?_cons_succ] at t2 c2
  have q1 := hT1.blk.lt
  have q2 := hb1.lt
  have HT1 := hide hT1
  have HF1 := hide f1
  have hlo1 := hT1.tb0
  clear hT1 f1 hb1
  go_upto_region 5 with fail
  have hT2 := HT1.out.come hcm
  have f2 : Fr No w' (w1.setCell ⟨tb1, 2, none⟩ (.int .i64 (came : Int))) := HF1.out.setNew hlo1.1 _
  generalize World.setCell w1 _ _ = w2 at *
  have hb2 := HT.out.blk.fr f2 (fun h => h)
  clear t2 c2 cf q1 q2
  have t0 := hb2.cell 0
  simp only [List.getElem?_toArray, List.getElem?_cons_zero, List.getElem?_cons_succ] at t0
  have q2 := hb2.lt
  have hm2 : w2.heap[M]? = some (.map es cl) := (f2.block M hM0.2 (fun h => h)).trans hm
  have hrg := run_range_map (P := Try.prog) w2 63 45 132 M es cl Try.underlying63 hm2
  have hs2 := f2.size
  have HINV : Hid (CpI w' M cl es l came tb1 M1 O1 w2.heap.size [] [] (w2.alloc (.mapIter (some M) cl #[] cl))) := by
    have fa := (Fr.refl No w2).alloc (.mapIter (some M) cl #[] cl)
    refine ⟨f2.trans fa, World.alloc_heap_new _ _, by simp, by simp, rfl, (hT2.no fa (Nat.le_refl _)).more (Nat.le_refl _) fa.size, fun h => ?_, hs2⟩
    have := hT2.lt _ h
    omega
  clear hT2 f2 hb2 hm2
  generalize hrI : w2.heap.size = rI at *
  go_wp2_with fail
  go_loopw [5] (fun _ wr => ∃ v l2, CpI w' M cl es l came tb1 M1 O1 rI v l2 wr) (fun _ wr => (leftOf es (wr.iterSeen rI)).size)
  case atStart => exact ⟨[], [], HINV.out⟩
  case round =>
    obtain ⟨v, l2, inv⟩ := hrel
    have hnx := run_next_at (P := Try.prog) wr 0 rI M cl cl (v.map fun p => p.1.born).toArray es cl inv.it ((inv.fr.block M hM0.2 (fun h => h)).trans hm) HST.out.1 (Nat.le_refl _)
    rcases hnx with ⟨h0, hnx⟩ | ⟨e, he, w3, hw3, hnx⟩
    · have hall := inv.all HES.out.1 HST.out.2 h0
      have HI := hide inv
      have HA := hide hall
      clear inv hall h0 hrg HINV
      go_wp2
      go_ret
      exact ⟨tb1, M1, O1, l2, rfl, HI.out.tab, HA.out, HI.out.fr⟩
    · obtain ⟨hem, hns⟩ := mem_left he
      have hshr := left_shrinks es _ e he
      obtain ⟨i, x, hei, hxi, hz⟩ := zip_mem HES.out.1 hem
      obtain ⟨hmk, hval⟩ := HES.out.2 i e x hei hxi
      have hxm := List.mem_of_getElem? hxi
      obtain ⟨hmx, hkx, hvx⟩ := HT.out.may x hxm
      have hcx := HT.out.cran x hxm
      have hfresh := inv.fresh HT.out.dist HT.out.cdist hei hxi hns
      have hkin : x.k.In w' lo w'.heap.size := HT.out.forest.inn x.k (by unfold trees; exact List.mem_flatMap.2 ⟨x, hxm, by simp⟩)
      have hvin : x.v.In w' lo w'.heap.size := HT.out.forest.inn x.v (by unfold trees; exact List.mem_flatMap.2 ⟨x, hxm, by simp⟩)
      have hokk := fun W' (f : Fr No w' W') => bown_any x.k W' lo w'.heap.size (hkin.no f (Nat.le_refl _)) f.size hmx
      have hovv := fun W' (f : Fr No w' W') => bown_any x.v W' lo w'.heap.size (hvin.no f (Nat.le_refl _)) f.size hvx
      have hdep := may_dep hmx
      -- the iterator has gone on
      have F3 : Fr (fun i => i = rI) wr (ChangeMaps.setBlock w3 rI (.mapIter (some M) cl ((v.map fun p => p.1.born).toArray.push e.born) cl)) := by
        rcases hw3 with rfl | rfl
        · exact fr_setBlock _ _ _
        · exact ((Fr.refl _ wr).drew).trans (fr_setBlock _ _ _)
      have hil := lt_of_heap inv.it
      have hit3 : (ChangeMaps.setBlock w3 rI (.mapIter (some M) cl ((v.map fun p => p.1.born).toArray.push e.born) cl)).heap[rI]? = some (.mapIter (some M) cl ((v.map fun p => p.1.born).toArray.push e.born) cl) := by
        rcases hw3 with rfl | rfl
        · exact setBlock_at _ hil
        · exact setBlock_at _ hil
      generalize ChangeMaps.setBlock w3 rI _ = W3 at *
      have hMr : M ≠ rI := by have := inv.r0; omega
      have hm3 : W3.heap[M]? = some (.map es cl) := (F3.block M (by have := inv.fr.size; omega) hMr).trans ((inv.fr.block M hM0.2 (fun h => h)).trans hm)
      have hent := run_entry_at (P := Try.prog) W3 rI M cl _ es cl e hit3 hm3 hem HST.out.2
      obtain ⟨ty, z, hky⟩ := hmk.iface
      obtain ⟨⟨k, n, s, A, cap, lk, r⟩, ⟨k', n', s', A', cap', lv, r'⟩, xc⟩ := x
      have hve : e.val = .agg #[.int .u8 k, .int .i64 n, .string s, .slice A lk.length cap, .int .i64 r, .int .u8 k', .int .i64 n', .string s', .slice A' lv.length cap', .int .i64 r', .int .i64 (xc : Int)] := by rw [hval]; rfl
      rw [hky, hve] at hnx hent
      rw [hky] at hmk
      simp only [T.val_mk] at hokk hovv
      have hu : ∃ u, (T.mk k n s A cap lk r).v = u := ⟨_, rfl⟩
      obtain ⟨u, hu⟩ := hu
      simp only [hu] at hokk hmk hkx hdep hfresh hmx
      -- the table, behind the step
      have hT3 := (inv.tab.frB F3 (Nat.le_refl _) (fun q hq h => inv.rn (by have h' : q = rI := h; rw [← h']; exact hq))).more (Nat.le_refl _) F3.size
      have F3' : Fr No w' W3 := inv.fr.trans' F3 (fun q hq h => by have h' : q = rI := h; have := inv.r0; omega)
      have hs3 := F3.size
      have HINV' := hide inv
      have HSH := hide hshr
      have HFS := hide hfresh
      have HZ := hide hz
      have HXI := hide hxi
      have HMK := hide hmk
      have HKX := hide hkx
      have HMX := hide hmx
      have HVX := hide hvx
      have HU := hide hu
      have HIT3 := hide hit3
      have HNS := hide hns
      clear inv hshr hfresh hz hxi hei hmk hkx hmx hvx hu hit3 hns hval hky hve he hem hw3 hrg HINV hm3 hkin hvin hxm
      go_upto_region 8 with fail
      have fa := (Fr.refl No W3).alloc (.cells #[.int .u8 k, .int .i64 n, .string s, .slice A lk.length cap, .int .i64 r, .int .u8 k', .int .i64 n', .string s', .slice A' lv.length cap', .int .i64 r', .int .i64 (xc : Int)] 132)
      have bx := Blk.new W3 132 #[.int .u8 k, .int .i64 n, .string s, .slice A lk.length cap, .int .i64 r, .int .u8 k', .int .i64 n', .string s', .slice A' lv.length cap', .int .i64 r', .int .i64 (xc : Int)]
      have hT4 := (hT3.no fa (Nat.le_refl _)).more (Nat.le_refl _) fa.size
      have F4 := F3'.trans fa
      have hit4 := (fa.block rI (lt_of_heap HIT3.out) (fun h => h)).trans HIT3.out
      have hq4 : W3.heap.size < (W3.alloc (.cells #[.int .u8 k, .int .i64 n, .string s, .slice A lk.length cap, .int .i64 r, .int .u8 k', .int .i64 n', .string s', .slice A' lv.length cap', .int .i64 r', .int .i64 (xc : Int)] 132)).heap.size := by simp
      generalize World.alloc W3 _ = W4 at *
      obtain ⟨x0, x1, x2, x3, x4, y'0, y'1, y'2, y'3, y'4, y'5, xf⟩ := bx.cells11
      obtain ⟨es2, cl2, hm4, hes2⟩ := hT4.m
      obtain ⟨eo2, co2, ho4, hoe2⟩ := hT4.o
      have hst2 := hT4.stm es2 cl2 hm4
      have z0 := hT4.blk.cell 0
      have z1 := hT4.blk.cell 1
      simp only [List.getElem?_toArray, List.getElem?_cons_zero, List.getElem?_cons_succ] at z0 z1
      have zl := hT4.blk.lt
      have hp2 : pos u (l2.map fun e => e.k.v) = none := by
        cases hp : pos u (l2.map fun e => e.k.v) with
        | none => rfl
        | some j =>
          have h := pos_some HMX.out HKX.out (fun v hv => by obtain ⟨e, he, rfl⟩ := List.mem_map.1 hv; exact (hT4.may e he).1) hp
          obtain ⟨e2, he2, hk2⟩ := List.mem_map.1 (List.mem_of_getElem? h)
          exact absurd hk2 (HFS.out e2 he2).1
      have HOK := hide fun W' (f : Fr No W4 W') => hokk W' (F4.trans f)
      have HOV := hide fun W' (f : Fr No W4 W') => hovv W' (F4.trans f)
      have HUP := hide fun W' (val : Value) (f : Fr No W4 W') => run_update_new Try.underlying63 W' u (.iface ty z) val HMK.out hdep HKX.out ((f.block M1 (lt_of_heap hm4) (fun h => h)).trans hm4) hes2.keys hp2
      have HT4 := hide hT4
      have HF4 := hide F4
      have HBX := hide bx
      have HIT4 := hide hit4
      have HES2 := hide hes2
      have HOE2 := hide hoe2
      have HST2 := hide hst2
      have HHM := hide hm4
      have HHO := hide ho4
      have HP2 := hide hp2
      clear hokk hovv hp2 hT4 F4 bx hit4 hes2 hoe2 hst2 hT3 F3' F3 fa hnx hent hm4 ho4
      refine wp_region_inv (I := fun a0 f a wx => ∃ y0 y1 y2 y3 y4 y5 y6 y7 y8 y9 y10 y11 y12 y13 tk tv, a = ((((((((((((((a0.put (some 26) y0).put (some 27) y1).put (some 28) y2).put (some 29) y3).put (some 30) y4).put (some 31) y5).put (some 32) y6).put (some 33) y7).put (some 34) y8).put (some 35) y9).put (some 36) y10).put (some 37) y11).put (some 38) y12).put (some 39) y13) ∧ CJ W4 u (T.mk k' n' s' A' cap' lv r').v (cpE tb1 M1 W3.heap.size (.iface ty z) (.agg #[.int .u8 k, .int .i64 n, .string s, .slice A lk.length cap, .int .i64 r]) (.agg #[.int .u8 k', .int .i64 n', .string s', .slice A' lv.length cap', .int .i64 r']) (xc : Int)) (fun tk tv wb => wb.putObj M1 (.map (es2.push { key := .iface ty z, val := .agg (tk.cells ++ (tv.cells ++ [Value.int .i64 (xc : Int)])).toArray, born := cl2 }) (cl2 + 1))) f [y0, y1, y2, y3, y4, y5, y6, y7, y8, y9, y10, y11, y12, y13] tk tv wx) (by kernel_rfl) (by kernel_rfl) ?st ?step ?en
      case st => exact ⟨_, _, _, _, _, _, _, _, _, _, _, _, _, _, _, _, by simp only [Act.put, List.setIfInBounds_toArray, List.set_cons_zero, List.set_cons_succ] <;> rfl, CJ.begin⟩
      case step =>
        rintro i o f a wx ho hf hd ⟨y0, y1, y2, y3, y4, y5, y6, y7, y8, y9, y10, y11, y12, y13, tk, tv, rfl, J⟩ K' hK
        have hi := (Array.getElem?_eq_some_iff.1 ho).1
        simp only [List.size_toArray, List.length_cons, List.length_nil] at hi
        have hid : i = 0 ∨ i = 1 ∨ i = 2 ∨ i = 3 ∨ i = 4 ∨ i = 5 ∨ i = 6 ∨ i = 7 ∨ i = 8 ∨ i = 9 ∨ i = 10 ∨ i = 11 ∨ i = 12 ∨ i = 13 ∨ i = 14 := by omega
        simp only [Act.put, List.setIfInBounds_toArray, List.set_cons_zero, List.set_cons_succ]
        rcases hid with rfl | rfl | rfl | rfl | rfl | rfl | rfl | rfl | rfl | rfl | rfl | rfl | rfl | rfl | rfl
        · simp only [List.getElem?_toArray, List.getElem?_cons_succ, List.getElem?_cons_zero, Option.some.injEq] at ho; subst ho
          have h14 := J.not14 (i := 0) (by omega) hf
          have WW := J.pre h14
          have hcs := WW.fr.cells
          have hsz := WW.fr.size
          have HJ := hide J
          have HWW := hide WW
          clear J hd hcs WW
          go_simp
          exact hK.out _ _ ⟨_, _, _, _, _, _, _, _, _, _, _, _, _, _, _, _, by simp only [Act.put, List.setIfInBounds_toArray, List.set_cons_zero, List.set_cons_succ] <;> rfl, HJ.out.quiet (i := 0) hf (by decide) (by decide) (by decide) (nofun) (by simp)⟩
        · simp only [List.getElem?_toArray, List.getElem?_cons_succ, List.getElem?_cons_zero, Option.some.injEq] at ho; subst ho
          have h14 := J.not14 (i := 1) (by omega) hf
          have WW := J.pre h14
          have hcs := WW.fr.cells
          have hsz := WW.fr.size
          have b0 := hd ⟨0, .data⟩ (by simp) (by rfl)
          obtain rfl : y0 = .pointer (some ⟨tb1, 0, none⟩) := J.x 0 b0
          have HJ := hide J
          have HWW := hide WW
          clear J hd hcs WW b0
          go_simp
          exact hK.out _ _ ⟨_, _, _, _, _, _, _, _, _, _, _, _, _, _, _, _, by simp only [Act.put, List.setIfInBounds_toArray, List.set_cons_zero, List.set_cons_succ] <;> rfl, HJ.out.quiet (i := 1) hf (by decide) (by decide) (by decide) (nofun) (by simp)⟩
        · simp only [List.getElem?_toArray, List.getElem?_cons_succ, List.getElem?_cons_zero, Option.some.injEq] at ho; subst ho
          have h14 := J.not14 (i := 2) (by omega) hf
          have WW := J.pre h14
          have hcs := WW.fr.cells
          have hsz := WW.fr.size
          have b1 := hd ⟨1, .data⟩ (by simp) (by rfl)
          obtain rfl : y1 = .pointer (some ⟨tb1, 0, none⟩) := J.x 1 b1
          have HJ := hide J
          have HWW := hide WW
          clear J hd hcs WW b1
          go_simp
          exact hK.out _ _ ⟨_, _, _, _, _, _, _, _, _, _, _, _, _, _, _, _, by simp only [Act.put, List.setIfInBounds_toArray, List.set_cons_zero, List.set_cons_succ] <;> rfl, HJ.out.quiet (i := 2) hf (by decide) (by decide) (by decide) (nofun) (by simp)⟩
        · simp only [List.getElem?_toArray, List.getElem?_cons_succ, List.getElem?_cons_zero, Option.some.injEq] at ho; subst ho
          have h14 := J.not14 (i := 3) (by omega) hf
          have WW := J.pre h14
          have hcs := WW.fr.cells
          have hsz := WW.fr.size
          have b2 := hd ⟨2, .data⟩ (by simp) (by rfl)
          obtain rfl : y2 = .pointer (some ⟨tb1, 0, none⟩) := J.x 2 b2
          have e0 := (hcs tb1 0 zl).trans z0
          have e1 : tb1 < wx.heap.size := by omega
          have HJ := hide J
          have HWW := hide WW
          clear J hd hcs WW b2
          go_simp
          exact hK.out _ _ ⟨_, _, _, _, _, _, _, _, _, _, _, _, _, _, _, _, by simp only [Act.put, List.setIfInBounds_toArray, List.set_cons_zero, List.set_cons_succ] <;> rfl, HJ.out.quiet (i := 3) hf (by decide) (by decide) (by decide) (nofun) (by simp)⟩
        · simp only [List.getElem?_toArray, List.getElem?_cons_succ, List.getElem?_cons_zero, Option.some.injEq] at ho; subst ho
          have h14 := J.not14 (i := 4) (by omega) hf
          have WW := J.pre h14
          have hcs := WW.fr.cells
          have hsz := WW.fr.size
          have HJ := hide J
          have HWW := hide WW
          clear J hd hcs WW
          go_simp
          exact hK.out _ _ ⟨_, _, _, _, _, _, _, _, _, _, _, _, _, _, _, _, by simp only [Act.put, List.setIfInBounds_toArray, List.set_cons_zero, List.set_cons_succ] <;> rfl, HJ.out.quiet (i := 4) hf (by decide) (by decide) (by decide) (nofun) (by simp)⟩
        · simp only [List.getElem?_toArray, List.getElem?_cons_succ, List.getElem?_cons_zero, Option.some.injEq] at ho; subst ho
          have h14 := J.not14 (i := 5) (by omega) hf
          have WW := J.pre h14
          have hcs := WW.fr.cells
          have hsz := WW.fr.size
          have HJ := hide J
          have HWW := hide WW
          clear J hd hcs WW
          go_simp
          exact hK.out _ _ ⟨_, _, _, _, _, _, _, _, _, _, _, _, _, _, _, _, by simp only [Act.put, List.setIfInBounds_toArray, List.set_cons_zero, List.set_cons_succ] <;> rfl, HJ.out.quiet (i := 5) hf (by decide) (by decide) (by decide) (nofun) (by simp)⟩
        · simp only [List.getElem?_toArray, List.getElem?_cons_succ, List.getElem?_cons_zero, Option.some.injEq] at ho; subst ho
          have h14 := J.not14 (i := 6) (by omega) hf
          have WW := J.pre h14
          have hcs := WW.fr.cells
          have hsz := WW.fr.size
          have b5 := hd ⟨5, .data⟩ (by simp) (by rfl)
          obtain rfl : y5 = .pointer (some ⟨W3.heap.size, 0, none⟩) := J.x 5 b5
          have e0 := (hcs W3.heap.size 0 hq4).trans x0
          have e1 := (hcs W3.heap.size 1 hq4).trans x1
          have e2 := (hcs W3.heap.size 2 hq4).trans x2
          have e3 := (hcs W3.heap.size 3 hq4).trans x3
          have e4 := (hcs W3.heap.size 4 hq4).trans x4
          have e5 : W3.heap.size < wx.heap.size := by omega
          have HJ := hide J
          have HWW := hide WW
          clear J hd hcs WW b5
          go_simp
          exact hK.out _ _ ⟨_, _, _, _, _, _, _, _, _, _, _, _, _, _, _, _, by simp only [Act.put, List.setIfInBounds_toArray, List.set_cons_zero, List.set_cons_succ] <;> rfl, HJ.out.quiet (i := 6) hf (by decide) (by decide) (by decide) (nofun) (by simp)⟩
        · simp only [List.getElem?_toArray, List.getElem?_cons_succ, List.getElem?_cons_zero, Option.some.injEq] at ho; subst ho
          have h14 := J.not14 (i := 7) (by omega) hf
          have WW := J.pre h14
          have hcs := WW.fr.cells
          have hsz := WW.fr.size
          have b6 := hd ⟨6, .data⟩ (by simp) (by rfl)
          obtain rfl : y6 = .agg #[.int .u8 k, .int .i64 n, .string s, .slice A lk.length cap, .int .i64 r] := J.x 6 b6
          have HJ := hide J
          have HWW := hide WW
          clear J hd hcs WW b6
          go_simp
          go_at_call 92
          refine (HOK.out _ HWW.out.fr).mono ?_
          rintro e wk ⟨t', rfl, hv5, how5, fr5⟩
          exact hK.out _ _ ⟨_, _, _, _, _, _, _, _, _, _, _, _, _, _, _, _, by simp only [Act.put, List.setIfInBounds_toArray, List.set_cons_zero, List.set_cons_succ] <;> rfl, HJ.out.callk hf hv5 how5 fr5 (by simp)⟩
        · simp only [List.getElem?_toArray, List.getElem?_cons_succ, List.getElem?_cons_zero, Option.some.injEq] at ho; subst ho
          have h14 := J.not14 (i := 8) (by omega) hf
          have WW := J.pre h14
          have hcs := WW.fr.cells
          have hsz := WW.fr.size
          have HJ := hide J
          have HWW := hide WW
          clear J hd hcs WW
          go_simp
          exact hK.out _ _ ⟨_, _, _, _, _, _, _, _, _, _, _, _, _, _, _, _, by simp only [Act.put, List.setIfInBounds_toArray, List.set_cons_zero, List.set_cons_succ] <;> rfl, HJ.out.quiet (i := 8) hf (by decide) (by decide) (by decide) (nofun) (by simp)⟩
        · simp only [List.getElem?_toArray, List.getElem?_cons_succ, List.getElem?_cons_zero, Option.some.injEq] at ho; subst ho
          have h14 := J.not14 (i := 9) (by omega) hf
          have WW := J.pre h14
          have hcs := WW.fr.cells
          have hsz := WW.fr.size
          have b8 := hd ⟨8, .data⟩ (by simp) (by rfl)
          obtain rfl : y8 = .pointer (some ⟨W3.heap.size, 5, none⟩) := J.x 8 b8
          have e0 := (hcs W3.heap.size 5 hq4).trans y'0
          have e1 := (hcs W3.heap.size 6 hq4).trans y'1
          have e2 := (hcs W3.heap.size 7 hq4).trans y'2
          have e3 := (hcs W3.heap.size 8 hq4).trans y'3
          have e4 := (hcs W3.heap.size 9 hq4).trans y'4
          have e5 : W3.heap.size < wx.heap.size := by omega
          have HJ := hide J
          have HWW := hide WW
          clear J hd hcs WW b8
          go_simp
          exact hK.out _ _ ⟨_, _, _, _, _, _, _, _, _, _, _, _, _, _, _, _, by simp only [Act.put, List.setIfInBounds_toArray, List.set_cons_zero, List.set_cons_succ] <;> rfl, HJ.out.quiet (i := 9) hf (by decide) (by decide) (by decide) (nofun) (by simp)⟩
        · simp only [List.getElem?_toArray, List.getElem?_cons_succ, List.getElem?_cons_zero, Option.some.injEq] at ho; subst ho
          have h14 := J.not14 (i := 10) (by omega) hf
          have WW := J.pre h14
          have hcs := WW.fr.cells
          have hsz := WW.fr.size
          have b9 := hd ⟨9, .data⟩ (by simp) (by rfl)
          obtain rfl : y9 = .agg #[.int .u8 k', .int .i64 n', .string s', .slice A' lv.length cap', .int .i64 r'] := J.x 9 b9
          have hb7 := hd ⟨7, .chain⟩ (by simp) (by rfl)
          have HB7 := hide hb7
          have HJ := hide J
          have HWW := hide WW
          clear J hd hcs WW b9 hb7
          go_simp
          go_at_call 92
          refine (HOV.out _ HWW.out.fr).mono ?_
          rintro e wk ⟨t', rfl, hv5, how5, fr5⟩
          exact hK.out _ _ ⟨_, _, _, _, _, _, _, _, _, _, _, _, _, _, _, _, by simp only [Act.put, List.setIfInBounds_toArray, List.set_cons_zero, List.set_cons_succ] <;> rfl, HJ.out.callv hf HB7.out hv5 how5 fr5 (by simp)⟩
        · simp only [List.getElem?_toArray, List.getElem?_cons_succ, List.getElem?_cons_zero, Option.some.injEq] at ho; subst ho
          have h14 := J.not14 (i := 11) (by omega) hf
          have WW := J.pre h14
          have hcs := WW.fr.cells
          have hsz := WW.fr.size
          have HJ := hide J
          have HWW := hide WW
          clear J hd hcs WW
          go_simp
          exact hK.out _ _ ⟨_, _, _, _, _, _, _, _, _, _, _, _, _, _, _, _, by simp only [Act.put, List.setIfInBounds_toArray, List.set_cons_zero, List.set_cons_succ] <;> rfl, HJ.out.quiet (i := 11) hf (by decide) (by decide) (by decide) (nofun) (by simp)⟩
        · simp only [List.getElem?_toArray, List.getElem?_cons_succ, List.getElem?_cons_zero, Option.some.injEq] at ho; subst ho
          have h14 := J.not14 (i := 12) (by omega) hf
          have WW := J.pre h14
          have hcs := WW.fr.cells
          have hsz := WW.fr.size
          have b11 := hd ⟨11, .data⟩ (by simp) (by rfl)
          obtain rfl : y11 = .pointer (some ⟨W3.heap.size, 10, none⟩) := J.x 11 b11
          have e0 := (hcs W3.heap.size 10 hq4).trans y'5
          have e5 : W3.heap.size < wx.heap.size := by omega
          have HJ := hide J
          have HWW := hide WW
          clear J hd hcs WW b11
          go_simp
          exact hK.out _ _ ⟨_, _, _, _, _, _, _, _, _, _, _, _, _, _, _, _, by simp only [Act.put, List.setIfInBounds_toArray, List.set_cons_zero, List.set_cons_succ] <;> rfl, HJ.out.quiet (i := 12) hf (by decide) (by decide) (by decide) (nofun) (by simp)⟩
        · simp only [List.getElem?_toArray, List.getElem?_cons_succ, List.getElem?_cons_zero, Option.some.injEq] at ho; subst ho
          have h14 := J.not14 (i := 13) (by omega) hf
          have WW := J.pre h14
          have hcs := WW.fr.cells
          have hsz := WW.fr.size
          have b7 := hd ⟨7, .data⟩ (by simp) (by rfl)
          have b10 := hd ⟨10, .data⟩ (by simp) (by rfl)
          have b12 := hd ⟨12, .data⟩ (by simp) (by rfl)
          obtain rfl : y12 = .int .i64 (xc : Int) := J.x 12 b12
          obtain ⟨k5, n5, s5, A5, cap5, l5, r5⟩ := tk
          obtain ⟨k6, n6, s6, A6, cap6, l6, r6⟩ := tv
          obtain rfl : y7 = .agg #[.int .u8 k5, .int .i64 n5, .string s5, .slice A5 l5.length cap5, .int .i64 r5] := J.x 7 b7
          obtain rfl : y10 = .agg #[.int .u8 k6, .int .i64 n6, .string s6, .slice A6 l6.length cap6, .int .i64 r6] := J.x 10 b10
          have HJ := hide J
          have HWW := hide WW
          have HB7 := hide b7
          have HB10 := hide b10
          clear J hd hcs WW b7 b10 b12
          go_simp
          exact hK.out _ _ ⟨_, _, _, _, _, _, _, _, _, _, _, _, _, _, _, _, by simp only [Act.put, List.setIfInBounds_toArray, List.set_cons_zero, List.set_cons_succ] <;> rfl, HJ.out.quiet (i := 13) hf (by decide) (by decide) (by decide) (fun _ => ⟨HB7.out, HB10.out⟩) (by simp)⟩
        · simp only [List.getElem?_toArray, List.getElem?_cons_succ, List.getElem?_cons_zero, Option.some.injEq] at ho; subst ho
          have h14 := hf
          have WW := J.pre h14
          have hcs := WW.fr.cells
          have hsz := WW.fr.size
          have b3 := hd ⟨3, .data⟩ (by simp) (by rfl)
          obtain rfl : y3 = .map (some M1) := J.x 3 b3
          have b4 := hd ⟨4, .data⟩ (by simp) (by rfl)
          obtain rfl : y4 = .iface ty z := J.x 4 b4
          have b13 := hd ⟨13, .data⟩ (by simp) (by rfl)
          obtain ⟨k5, n5, s5, A5, cap5, l5, r5⟩ := tk
          obtain ⟨k6, n6, s6, A6, cap6, l6, r6⟩ := tv
          obtain rfl : y13 = .agg #[.int .u8 k5, .int .i64 n5, .string s5, .slice A5 l5.length cap5, .int .i64 r5, .int .u8 k6, .int .i64 n6, .string s6, .slice A6 l6.length cap6, .int .i64 r6, .int .i64 (xc : Int)] := J.x 13 b13
          have hall : ∀ j, j < 14 → f j = true := fun j hj => by
            have hj' : j = 0 ∨ j = 1 ∨ j = 2 ∨ j = 3 ∨ j = 4 ∨ j = 5 ∨ j = 6 ∨ j = 7 ∨ j = 8 ∨ j = 9 ∨ j = 10 ∨ j = 11 ∨ j = 12 ∨ j = 13 := by omega
            rcases hj' with rfl | rfl | rfl | rfl | rfl | rfl | rfl | rfl | rfl | rfl | rfl | rfl | rfl | rfl
            · exact hd ⟨0, .phase⟩ (by simp) (by rfl)
            · exact hd ⟨1, .phase⟩ (by simp) (by rfl)
            · exact hd ⟨2, .phase⟩ (by simp) (by rfl)
            · exact hd ⟨3, .phase⟩ (by simp) (by rfl)
            · exact hd ⟨4, .phase⟩ (by simp) (by rfl)
            · exact hd ⟨5, .phase⟩ (by simp) (by rfl)
            · exact hd ⟨6, .phase⟩ (by simp) (by rfl)
            · exact hd ⟨7, .phase⟩ (by simp) (by rfl)
            · exact hd ⟨8, .phase⟩ (by simp) (by rfl)
            · exact hd ⟨9, .phase⟩ (by simp) (by rfl)
            · exact hd ⟨10, .phase⟩ (by simp) (by rfl)
            · exact hd ⟨11, .phase⟩ (by simp) (by rfl)
            · exact hd ⟨12, .phase⟩ (by simp) (by rfl)
            · exact hd ⟨13, .phase⟩ (by simp) (by rfl)
          have hup := HUP.out wx (.agg #[.int .u8 k5, .int .i64 n5, .string s5, .slice A5 l5.length cap5, .int .i64 r5, .int .u8 k6, .int .i64 n6, .string s6, .slice A6 l6.length cap6, .int .i64 r6, .int .i64 (xc : Int)]) WW.fr
          have HALL := hide hall
          have HJ := hide J
          have HWW := hide WW
          clear J hd hcs WW b3 b4 b13 hall
          go_simp
          exact hK.out _ _ ⟨_, _, _, _, _, _, _, _, _, _, _, _, _, _, _, _, by simp only [Act.put, List.setIfInBounds_toArray, List.set_cons_zero, List.set_cons_succ] <;> rfl, HJ.out.last hf HALL.out (by simp)⟩
      case en =>
        rintro f a wx hall ⟨y0, y1, y2, y3, y4, y5, y6, y7, y8, y9, y10, y11, y12, y13, tk, tv, rfl, J⟩
        obtain ⟨wb, WW, rfl⟩ := J.post (hall 14 (by simp))
        simp only [Act.put, List.setIfInBounds_toArray, List.set_cons_zero, List.set_cons_succ]
        have HWW := hide WW
        clear J hall WW
        obtain ⟨f4, m, hm0, hm1, hk7, hv10⟩ := HWW.out
        obtain ⟨hkv, hko⟩ := hk7 rfl
        obtain ⟨-, hvv, hvo⟩ := hv10 rfl
        have hM1l := lt_of_heap HHM.out
        have hO1l := lt_of_heap HHO.out
        have hs4 := f4.size
        have hbM : M1 ≠ W3.heap.size := fun h => by
          have := HBX.out
          unfold Blk at this
          rw [← h, HHM.out] at this
          cases this
        have hrM : rI ≠ M1 := fun h => by
          have := HIT4.out
          rw [h, HHM.out] at this
          cases this
        have hrO : rI ≠ O1 := fun h => by
          have := HIT4.out
          rw [h, HHO.out] at this
          cases this
        have hmo := HT4.out.mo
        have hne := HT4.out.ne
        have F5 := fr_putObj wb M1 (.map (es2.push { key := .iface ty z, val := .agg (tk.cells ++ (tv.cells ++ [Value.int .i64 (xc : Int)])).toArray, born := cl2 }) (cl2 + 1))
        have hM5 : (wb.putObj M1 (.map (es2.push { key := .iface ty z, val := .agg (tk.cells ++ (tv.cells ++ [Value.int .i64 (xc : Int)])).toArray, born := cl2 }) (cl2 + 1))).heap[M1]? = some (.map (es2.push { key := .iface ty z, val := .agg (tk.cells ++ (tv.cells ++ [Value.int .i64 (xc : Int)])).toArray, born := cl2 }) (cl2 + 1)) := World.putObj_heap_same (by omega)
        generalize World.putObj wb M1 _ = W5 at *
        have hO5 : W5.heap[O1]? = some (.map eo2 co2) := (F5.block O1 (by omega) (fun h => hmo h.symm)).trans ((f4.block O1 hO1l (fun h => h)).trans HHO.out)
        have ht5 := ((HT4.out.blk.fr f4 (fun h => h)).fr F5 (fun h => hne.1 h.symm))
        have hb5 := ((HBX.out.fr f4 (fun h => h)).fr F5 (fun h => hbM h.symm))
        have hit5 := (F5.block rI (by have := lt_of_heap HIT4.out; omega) hrM).trans ((f4.block rI (lt_of_heap HIT4.out) (fun h => h)).trans HIT4.out)
        clear z0 z1 zl x0 x1 x2 x3 x4 xf y'0 y'1 y'2 y'3 y'4 y'5 hq4
        have z1 := ht5.cell 1
        have x10 := hb5.cell 10
        simp only [List.getElem?_toArray, List.getElem?_cons_zero, List.getElem?_cons_succ] at z1 x10
        have zl := ht5.lt
        have xl := hb5.lt
        have hup2 := run_update_num Try.underlying64 W5.drew (xc : Int) (.iface ty z) (B := O1) (es := eo2) (cl := co2) hO5 (fun e0 he0 => by
          obtain ⟨j, hj, rfl⟩ := List.mem_iff_getElem.1 he0
          have hj' : j < l2.length := by rw [← HOE2.out.1]; exact hj
          have h1 := (HOE2.out.2 j _ l2[j] (List.getElem?_eq_getElem hj) (List.getElem?_eq_getElem hj')).1
          refine ⟨_, h1, fun h => (HFS.out l2[j] (List.getElem_mem hj')).2 (by simp only [Int.ofNat_inj] at h; exact h.symm)⟩)
        have HF4b := hide f4
        have HF5 := hide F5
        have HIT5 := hide hit5
        have HKV := hide hkv
        have HVV := hide hvv
        have HKO := hide hko
        have HVO := hide hvo
        have HM5 := hide hM5
        have HO5 := hide hO5
        clear f4 F5 hit5 hkv hvv hko hvo hM5 hO5 ht5 hb5 hk7 hv10 HWW
        go_wp2_with fail
        go_still_tail 7, (by kernel_rfl)
        change wpList _ _ _ _ _ W5.drew
        go_wp2_with fail
        have F7 := fr_putObj W5.drew O1 (.map (eo2.push { key := .int .i64 (xc : Int), val := .iface ty z, born := co2 }) (co2 + 1))
        have hO7 : (W5.drew.putObj O1 (.map (eo2.push { key := .int .i64 (xc : Int), val := .iface ty z, born := co2 }) (co2 + 1))).heap[O1]? = some (.map (eo2.push { key := .int .i64 (xc : Int), val := .iface ty z, born := co2 }) (co2 + 1)) := World.putObj_heap_same (lt_of_heap (w := W5) HO5.out)
        generalize World.putObj W5.drew O1 _ = W7 at *
        have hM7 := (F7.block M1 (lt_of_heap (w := W5.drew) HM5.out) (fun h => hmo h)).trans HM5.out
        have hit7 := (F7.block rI (lt_of_heap (w := W5.drew) HIT5.out) (fun h => hrO h)).trans HIT5.out
        have FM := ((HF4b.out.no (S := fun i => i = M1 ∨ i = O1)).trans' ((HF5.out).drew) (fun i _ h => .inl h)).trans' F7 (fun i _ h => .inr h)
        have HFM := hide FM
        have HM7 := hide hM7
        have HO7 := hide hO7
        have HIT7 := hide hit7
        have hs7 : wb.heap.size ≤ W7.heap.size := Nat.le_trans HF5.out.size F7.size
        have HFB := hide (((HF5.out.mono (S' := fun i => i = M1 ∨ i = O1) fun _ _ h => .inl h).drew).trans' F7 (fun i _ h => .inr h))
        clear F7 hO7 hM7 hit7 FM
        go_roundw
        case rel =>
          have hnb : ∀ q, W4.heap.size ≤ q → ¬ (q = M1 ∨ q = O1) := fun q hq h => by rcases h with h | h <;> omega
          have hk7 := HKO.out.frB HFB.out hm1 (fun q hq => hnb q (T.In.blocks _ HKO.out.inn q hq).1)
          have hv7 := HVO.out.frB HFB.out (Nat.le_refl _) (fun q hq => hnb q (by have := (T.In.blocks _ HVO.out.inn q hq).1; omega))
          have h0 := HT4.out.m0
          have h1 := HT4.out.o0
          refine ⟨v ++ [(e, ⟨T.mk k n s A cap lk r, T.mk k' n' s' A' cap' lv r', xc⟩)], l2 ++ [⟨tk, tv, xc⟩], ⟨?_, ?_, ?_, ?_, ?_, ?_, ?_, HINV'.out.r0⟩⟩
          · exact HF4.out.trans' HFM.out (fun i hi h => by rcases h with h | h <;> omega)
          · have := HIT7.out
            simpa using this
          · rw [List.map_append, List.nodup_append]
            refine ⟨HINV'.out.nd, by simp, fun a ha b hb hab => ?_⟩
            simp at hb
            subst hab hb
            have h2 := HNS.out
            have h3 : (v.map fun p => p.1.born).toArray.contains e.born = true := by simpa [Array.contains_iff_mem] using ha
            rw [h2] at h3
            cases h3
          · intro p hp
            rcases List.mem_append.1 hp with hp | hp
            · exact HINV'.out.sub p hp
            · simp at hp
              subst hp
              exact HZ.out
          · rw [List.map_append, List.map_append, HINV'.out.rows]
            simp [Ent.d, HKV.out, HVV.out, HU.out]
          · exact Tab.lay HT4.out HFM.out HES2.out HOE2.out HM7.out HO7.out ⟨tk, tv, xc⟩ rfl hcx.1 hcx.2 (fun e2 he2 => (HFS.out e2 he2).2) hk7 hv7 (Nat.le_refl _) hm0 (Nat.le_refl _) hm1 hs7 (by show IsMk tk.v _; rw [HKV.out]; exact HMK.out) rfl (by show pos tk.v _ = none; rw [HKV.out]; exact HP2.out) (by show tk.v.may = true; rw [HKV.out]; exact HMX.out) (by show tk.v.keys = true; rw [HKV.out]; exact HKX.out) (by show tv.v.may = true; rw [HVV.out]; exact HVX.out) HST2.out (Nat.lt_succ_self _)
          · have hil := lt_of_heap HIT4.out
            rintro (h | h | h | h)
            · exact HINV'.out.rn (.inl h)
            · exact HINV'.out.rn (.inr (.inl h))
            · exact HINV'.out.rn (.inr (.inr (.inl h)))
            · obtain ⟨e2, he2, hb⟩ := trees_mem.1 h
              rcases List.mem_append.1 he2 with he2 | he2
              · exact HINV'.out.rn (.inr (.inr (.inr (trees_mem.2 ⟨e2, he2, hb⟩))))
              · simp at he2
                subst he2
                rcases hb with hb | hb
                · have := T.In.blocks _ HKO.out.inn _ hb
                  omega
                · have := T.In.blocks _ HVO.out.inn _ hb
                  omega
        case measure =>
          rw [iterSeen_of HIT7.out, iterSeen_of HINV'.out.it]
          exact HSH.out

end Go.Proofs.Ytihjmipmjogpoaa

/- BrandTables: All: what is told, in which order. -/
namespace Go.Proofs.Ytihjmipmjogpoaa
open Go.RowKit
attribute [local go_sem] Oper.semAt_some

/-- Entries in the order in which they came. -/
def Srt (ds : List (V × V × Nat)) : Prop := ds.Pairwise fun a b => a.2.2 < b.2.2

/-- Those that came before the k-th. -/
def upTo (k : Nat) (ds : List (V × V × Nat)) : List (V × V × Nat) := ds.filter fun d => decide (d.2.2 < k)

def pr (d : V × V × Nat) : V × V := (d.1, d.2.1)

theorem srt_split (k : Nat) : ∀ {ds : List (V × V × Nat)}, Srt ds → ds = upTo k ds ++ ds.filter fun d => decide (k ≤ d.2.2)
  | [], _ => rfl
  | d :: ds, h => by
    have h' := List.pairwise_cons.1 h
    have ih := srt_split k h'.2
    unfold upTo at ih ⊢
    by_cases hd : d.2.2 < k
    · rw [List.filter_cons, if_pos (by simpa using hd), List.filter_cons, if_neg (by simp; omega), List.cons_append, ← ih]
    · have h1 : (d :: ds).filter (fun d => decide (d.2.2 < k)) = [] := List.filter_eq_nil_iff.2 fun a ha => by
        rcases List.mem_cons.1 ha with rfl | ha
        · simpa using hd
        · have := h'.1 a ha
          simp; omega
      have h2 : (d :: ds).filter (fun d => decide (k ≤ d.2.2)) = d :: ds := List.filter_eq_self.2 fun a ha => by
        rcases List.mem_cons.1 ha with rfl | ha
        · simp; omega
        · have := h'.1 a ha
          simp; omega
      rw [h1, h2]
      rfl

theorem srt_step {k : Nat} : ∀ {ds : List (V × V × Nat)}, Srt ds → ∀ {d}, d ∈ ds → d.2.2 = k → upTo (k + 1) ds = upTo k ds ++ [d]
  | [], _, d, hd, _ => by cases hd
  | d0 :: ds, h, d, hd, hk => by
    have h' := List.pairwise_cons.1 h
    rcases List.mem_cons.1 hd with rfl | hd
    · have h1 : upTo k (d :: ds) = [] := List.filter_eq_nil_iff.2 fun a ha => by
        rcases List.mem_cons.1 ha with rfl | ha
        · simp; omega
        · have := h'.1 a ha
          simp; omega
      have h2 : upTo (k + 1) ds = [] := List.filter_eq_nil_iff.2 fun a ha => by
        have := h'.1 a ha
        simp; omega
      rw [h1]
      unfold upTo at h2 ⊢
      rw [List.filter_cons, if_pos (by simp; omega), h2]
      rfl
    · have h1 := h'.1 d hd
      have ih := srt_step h'.2 hd hk
      unfold upTo at ih ⊢
      rw [List.filter_cons, if_pos (by simp; omega), List.filter_cons, if_pos (by simp; omega), ih]
      rfl

theorem srt_none {k : Nat} {ds : List (V × V × Nat)} (h : ∀ d ∈ ds, d.2.2 ≠ k) : upTo (k + 1) ds = upTo k ds :=
  List.filter_congr fun a ha => by have := h a ha; simp; omega

theorem upTo_all {k : Nat} {ds : List (V × V × Nat)} (h : ∀ d ∈ ds, d.2.2 < k) : upTo k ds = ds :=
  List.filter_eq_self.2 fun a ha => by have := h a ha; simpa using this

theorem upTo_none {k : Nat} {ds : List (V × V × Nat)} (h : ∀ d ∈ ds, k ≤ d.2.2) : upTo k ds = [] :=
  List.filter_eq_nil_iff.2 fun a ha => by have := h a ha; simp; omega

/-- What a round is handed. -/
def OkE (x : V × V) (args : Array Value) (B : Nat → Prop) (W : World) : Prop :=
  ∃ (tk tv : T) (lo : Nat), args = #[tk.val, tv.val] ∧ B = (fun i => i ∈ tk.blocks ∨ i ∈ tv.blocks) ∧ tk.v = x.1 ∧ tv.v = x.2 ∧ Forest W lo W.heap.size [tk, tv]

/-- A look-up by number. -/
theorem run_lookup_num {t el : TypeId} {z : Value} (ht : Try.prog.underlying t = some (.map 3 el)) (w : World) (hz : (zeroValue el).run Try.prog w = .ok z w) (n : Int) {B : Nat} {es : Array MapEntry} {cl : Nat} (hB : w.heap[B]? = some (.map es cl)) (o : Option Nat)
    (hn : o = none → ∀ e ∈ es.toList, ∃ c : Int, e.key = .int .i64 c ∧ n ≠ c) (hs : ∀ j, o = some j → ∃ e, es.toList[j]? = some e ∧ e.key = .int .i64 n ∧ (∀ e ∈ es.toList, ∃ c : Int, e.key = .int .i64 c) ∧ ∀ k e', k < j → es.toList[k]? = some e' → e'.key ≠ .int .i64 n) :
    (Instr.lookup t (.map (some B)) (.int .i64 n) true).run Try.prog w = .ok (match o.bind fun j => es.toList[j]? with | some e => .tuple #[e.val, .bool true] | none => .tuple #[z, .bool false]) w := by
  unfold Instr.lookup
  cases o with
  | none =>
    have hf := findNow_none (i := 0) (hn rfl)
    simp [run_underlying ht, get_map hB, checkKey_int, Instr.findKey, run_underlying Try.underlying3, hf, Result.andThen, hz]
  | some j =>
    obtain ⟨e, h1, h2, h3, h4⟩ := hs j rfl
    have hf := findNow_some (i := 0) h3 h1 h2 h4
    simp [run_underlying ht, get_map hB, checkKey_int, Instr.findKey, run_underlying Try.underlying3, hf, Result.andThen]
    have h1' : es[j]? = some e := by simpa using h1
    rw [h1']

theorem pos_at {l : List Ent} (hm : ∀ e ∈ l, e.k.v.may = true ∧ e.k.v.keys = true ∧ e.v.v.may = true) (hd : l.Pairwise fun a b => a.k.v ≠ b.k.v) {j : Nat} {x : Ent} (hx : l[j]? = some x) : pos x.k.v (l.map fun e => e.k.v) = some j := by
  have hxm := List.mem_of_getElem? hx
  obtain ⟨h1, h2, -⟩ := hm x hxm
  have hall : ∀ v ∈ l.map (fun e => e.k.v), v.may = true := fun v hv => by obtain ⟨e, he, rfl⟩ := List.mem_map.1 hv; exact (hm e he).1
  cases hp : pos x.k.v (l.map fun e => e.k.v) with
  | none => exact absurd (List.mem_map_of_mem (f := fun e : Ent => e.k.v) hxm) (pos_none h1 h2 hall hp)
  | some i =>
    have hk := pos_some h1 h2 hall hp
    rw [List.getElem?_map, Option.map_eq_some_iff] at hk
    obtain ⟨y, hy, hyk⟩ := hk
    obtain ⟨hi, hyy⟩ := List.getElem?_eq_some_iff.1 hy
    obtain ⟨hj, hxx⟩ := List.getElem?_eq_some_iff.1 hx
    have h3 := List.pairwise_iff_getElem.1 hd
    rcases Nat.lt_trichotomy i j with h | h | h
    · exact absurd (by rw [hyy, hxx]; exact hyk) (h3 i j hi hj h)
    · rw [h]
    · exact absurd (by rw [hyy, hxx]; exact hyk.symm) (h3 j i hj hi h)

end Go.Proofs.Ytihjmipmjogpoaa

/- BrandTables: (*Table).Drop. -/
namespace Go.Proofs.Ytihjmipmjogpoaa
open Go.RowKit

/-- What a deletion leaves. -/
def delAt (o : Option Nat) (es : Array MapEntry) : Array MapEntry := match o with | some i => es.eraseIdxIfInBounds i | none => es

/-- A deletion by a mark. -/
theorem run_del_mark {t el ty : TypeId} (ht : Try.prog.underlying t = some (.map 45 el)) (w : World) (u : V) (m : Value) (hm : IsMk u m) (hd : u.dep ≤ 16) (hkey : u.keys = true)
    {B : Nat} {es : Array MapEntry} {cl : Nat} (hB : w.heap[B]? = some (.map es cl)) {vs : List V} (h : KeysAre es.toList vs) :
    (Builtin.delete_ #[t, 45] ty #[.map (some B), m]).run Try.prog w = .ok (.tuple #[]) (w.putObj B (.map (delAt (pos u vs) es) cl)) := by
  have hc := run_key u 10000 m es.isEmpty w (by omega) hm
  have hf := run_findKey u m hm hd w es.toList vs h (fun v _ => keys_ne2 u hkey v)
  rcases hc with ⟨_, hc⟩ | ⟨h0, _⟩
  · cases hp : pos u vs with
    | none =>
      rw [hp] at hf
      simp [Builtin.delete_, run_underlying ht, get_map hB, hc, hf, found, set_map _ hB, Result.andThen, delAt]
    | some i =>
      have hi : i < es.toList.length := by rw [h.1]; exact pos_lt hp
      rw [hp] at hf
      simp only [found, List.getElem?_eq_getElem hi, Option.map_some, Nat.zero_add] at hf
      simp [Builtin.delete_, run_underlying ht, get_map hB, hc, hf, set_map _ hB, Result.andThen, delAt]
  · rw [hkey] at h0; cases h0

/-- A deletion by a number. -/
theorem run_del_num {t el ty : TypeId} (ht : Try.prog.underlying t = some (.map 3 el)) (w : World) (n : Int) {B : Nat} {es : Array MapEntry} {cl : Nat} (hB : w.heap[B]? = some (.map es cl)) (o : Option Nat)
    (hn : o = none → ∀ e ∈ es.toList, ∃ c : Int, e.key = .int .i64 c ∧ n ≠ c) (hs : ∀ j, o = some j → ∃ e, es.toList[j]? = some e ∧ e.key = .int .i64 n ∧ (∀ e ∈ es.toList, ∃ c : Int, e.key = .int .i64 c) ∧ ∀ k e', k < j → es.toList[k]? = some e' → e'.key ≠ .int .i64 n) :
    (Builtin.delete_ #[t, 3] ty #[.map (some B), .int .i64 n]).run Try.prog w = .ok (.tuple #[]) (w.putObj B (.map (delAt o es) cl)) := by
  cases o with
  | none =>
    have hf := findNow_none (i := 0) (hn rfl)
    simp [Builtin.delete_, run_underlying ht, get_map hB, checkKey_int, Instr.findKey, run_underlying Try.underlying3, hf, set_map _ hB, Result.andThen, delAt]
  | some j =>
    obtain ⟨e, h1, h2, h3, h4⟩ := hs j rfl
    have hf := findNow_some (i := 0) h3 h1 h2 h4
    simp [Builtin.delete_, run_underlying ht, get_map hB, checkKey_int, Instr.findKey, run_underlying Try.underlying3, hf, set_map _ hB, Result.andThen, delAt]

/-- A key less. -/
theorem Tab.drop {w w' : World} {lo tb M O : Nat} {l : List Ent} {came : Nat} (hT : Tab w lo w.heap.size tb M O l came) (fr : Fr (fun i => i = M ∨ i = O) w w')
    {es eo : Array MapEntry} {c1 c2 i : Nat} (hes : EntsAre es.toList l) (heo : OrdsAre eo.toList l) (hst : Stm es.toList c1)
    (hM : w'.heap[M]? = some (.map (es.eraseIdxIfInBounds i) c1)) (hO : w'.heap[O]? = some (.map (eo.eraseIdxIfInBounds i) c2)) (hi : i < l.length) :
    Tab w' lo w'.heap.size tb M O (l.eraseIdx i) came := by
  have a := hT.tb0
  have b := hT.m0
  have c := hT.o0
  have hs := fr.size
  have hne := hT.ne
  have hsz : i < es.size := by have := hes.1; simp at this; omega
  have hsz2 : i < eo.size := by have := heo.1; simp at this; omega
  have he1 : (es.eraseIdxIfInBounds i).toList = es.toList.eraseIdx i := by unfold Array.eraseIdxIfInBounds; rw [dif_pos hsz]; simp
  have he2 : (eo.eraseIdxIfInBounds i).toList = eo.toList.eraseIdx i := by unfold Array.eraseIdxIfInBounds; rw [dif_pos hsz2]; simp
  have hsub : (l.eraseIdx i).Sublist l := List.eraseIdx_sublist _ _
  have F0 : Forest w' lo w.heap.size (trees l) := hT.forest.frB fr (Nat.le_refl _) (by
    rintro b hib (rfl | rfl)
    · exact hT.outm hib
    · exact hT.outo hib)
  have hperm : (trees l).Perm (trees (l.eraseIdx i) ++ [l[i].k, l[i].v]) := by
    have h1 : l = l.take i ++ l[i] :: l.drop (i + 1) := by simp
    have h2 : l.eraseIdx i = l.take i ++ l.drop (i + 1) := List.eraseIdx_eq_take_drop_succ l i
    rw [h2]
    conv => lhs; rw [h1]
    rw [trees_append, trees_append, trees_cons]
    simp only [List.append_assoc]
    exact List.Perm.append_left _ List.perm_append_comm
  have F1 := ((F0.perm hperm).left).more (Nat.le_refl lo) hs
  have hin : ∀ b, b ∈ ((trees (l.eraseIdx i)).map T.blocks).flatten → b ∈ ((trees l).map T.blocks).flatten := fun b hb => by
    rw [trees_mem] at hb ⊢
    obtain ⟨e, he, h⟩ := hb
    exact ⟨e, hsub.subset he, h⟩
  refine ⟨hT.blk.fr fr (by rintro (h | h) <;> omega), ⟨_, _, hM, ?_, fun j e x he hx => ?_⟩, ⟨_, _, hO, ?_, fun j e x he hx => ?_⟩, F1, by omega, by omega, by omega, hT.mo, fun h => hT.out (hin _ h), fun h => hT.outm (hin _ h), fun h => hT.outo (hin _ h), fun e he => hT.may e (hsub.subset he), hT.dist.sublist hsub, hT.cdist.sublist hsub, fun e he => hT.cran e (hsub.subset he), hT.came0, fun es2 cl2 h2 => ?_⟩
  · have := hes.1
    rw [he1, List.length_eraseIdx, List.length_eraseIdx, this]
  · rw [he1, List.getElem?_eraseIdx] at he
    rw [List.getElem?_eraseIdx] at hx
    split at he
    · rename_i hlt
      rw [if_pos hlt] at hx
      exact hes.2 j e x he hx
    · rename_i hlt
      rw [if_neg hlt] at hx
      exact hes.2 _ e x he hx
  · have := heo.1
    rw [he2, List.length_eraseIdx, List.length_eraseIdx, this]
  · rw [he2, List.getElem?_eraseIdx] at he
    rw [List.getElem?_eraseIdx] at hx
    split at he
    · rename_i hlt
      rw [if_pos hlt] at hx
      exact heo.2 j e x he hx
    · rename_i hlt
      rw [if_neg hlt] at hx
      exact heo.2 _ e x he hx
  · rw [hM] at h2
    injection h2 with h2
    injection h2 with h3 h4
    subst h3 h4
    rw [he1]
    have hsl : (es.toList.eraseIdx i).Sublist es.toList := List.eraseIdx_sublist _ _
    exact ⟨fun x hx => hst.1 x (hsl.subset hx), hst.2.sublist (hsl.map _)⟩

/-- What Drop leaves. -/
def DropRes (a : V) (lo tb M O : Nat) (l : List Ent) (came : Nat) (w : World) (e : Ending) (w' : World) : Prop :=
  ∃ (had : Bool) (l' : List Ent), e = .returned (.tuple #[.bool had, .int .i64 (getErr a)]) ∧ Tab w' lo w'.heap.size tb M O l' came ∧ Fr (fun i => i = M ∨ i = O) w w' ∧
    ((getErr a ≠ 0 ∧ l' = l ∧ had = false) ∨ (getErr a = 0 ∧ pos a (l.map fun e => e.k.v) = none ∧ l' = l ∧ had = false) ∨ (getErr a = 0 ∧ ∃ i, pos a (l.map fun e => e.k.v) = some i ∧ l' = l.eraseIdx i ∧ had = true))

set_option maxRecDepth 10000 in
set_option maxHeartbeats 4000000 in
theorem Drop_err (a : T) (w : World) (lo hi : Nat) (ha : a.In w lo hi) (hh : hi ≤ w.heap.size) (tb M O : Nat) (c : Int) (hT : Blk w tb 66 #[.map (some M), .map (some O), .int .i64 c]) (he : getErr a.v ≠ 0) :
    Calls Try.prog 35 #[.pointer (some ⟨tb, 0, none⟩), a.val] w fun e w' => e = .returned (.tuple #[.bool false, .int .i64 (getErr a.v)]) ∧ Fr No w w' := by
  have hF := fun w' h h' h'' => find_any a w' lo hi h h' tb M O c h''
  cases a with
  | mk k n s A cap l r =>
    rw [T.val_mk] at *
    generalize hu : (T.mk k n s A cap l r).v = u at *
    have hW : Fr No w (w.alloc (.cells #[.int .u8 k, .int .i64 n, .string s, .slice A l.length cap, .int .i64 r] 27)) := (Fr.refl No w).alloc _
    have hT0 := hT.fr hW (fun h => h)
    have ha0 := ha.no hW hh
    have HU := hide hu
    clear hu ha hT
    have hd : (u.may = false ∧ getErr u = 2) ∨ (u.may = true ∧ u.keys = false ∧ getErr u = 40) := by
      unfold getErr at *
      cases hm : u.may with
      | false => exact .inl ⟨rfl, by simp⟩
      | true =>
        cases hk : u.keys with
        | false => exact .inr ⟨rfl, rfl, by simp⟩
        | true => rw [hm, hk] at he; exact absurd rfl he
    have HD := hide hd
    clear hd he
    go_enter Try.func35, Try.ntmps35
    go_wp2_with fail
    have hs0 : w.heap.size < (w.alloc (.cells #[.int .u8 k, .int .i64 n, .string s, .slice A l.length cap, .int .i64 r] 27)).heap.size := by simp
    generalize World.alloc w _ = W0 at *
    refine (hF _ ha0 (by omega) hT0).mono ?_
    rintro e w4 ⟨-, h2, h3⟩
    obtain ⟨eq, E1, fr4, ne⟩ : ∃ eq : Int, getErr u = eq ∧ (e = .returned (.tuple #[.nilIface, .int .i64 eq]) ∧ Fr No W0 w4) ∧ (eq = 2 ∨ eq = 40) := by
      rcases HD.out with ⟨hm, e1⟩ | ⟨hm, hk, e1⟩
      · exact ⟨2, e1, h3 hm, .inl rfl⟩
      · exact ⟨40, e1, h2 hm hk, .inr rfl⟩
    obtain ⟨rfl, fr4⟩ := fr4
    have hF2 := hide (hW.trans fr4)
    have EH := hide E1
    clear h2 h3 hT0 ha0 hW hF fr4 E1
    rcases ne with rfl | rfl
    · go_wp2
      go_ret2
      exact ⟨by rw [EH.out]; rfl, hF2.out⟩
    · go_wp2
      go_ret2
      exact ⟨by rw [EH.out]; rfl, hF2.out⟩

end Go.Proofs.Ytihjmipmjogpoaa

/- BrandTables: (*Table).Drop, of a key that may be one. -/
namespace Go.Proofs.Ytihjmipmjogpoaa
open Go.RowKit

theorem ords_some {eo : List MapEntry} {l : List Ent} (h : OrdsAre eo l) (hd : l.Pairwise fun a b => a.c ≠ b.c) {i : Nat} {x : Ent} (hx : l[i]? = some x) :
    ∃ e, eo[i]? = some e ∧ e.key = .int .i64 (x.c : Int) ∧ (∀ e ∈ eo, ∃ c : Int, e.key = .int .i64 c) ∧ ∀ k e', k < i → eo[k]? = some e' → e'.key ≠ .int .i64 (x.c : Int) := by
  obtain ⟨hi, hxx⟩ := List.getElem?_eq_some_iff.1 hx
  have he := List.getElem?_eq_getElem (l := eo) (i := i) (by rw [h.1]; exact hi)
  refine ⟨_, he, (h.2 i _ x he hx).1, fun e hm => ?_, fun k e' hk he' hkey => ?_⟩
  · obtain ⟨j, hj, rfl⟩ := List.mem_iff_getElem.1 hm
    exact ⟨_, (h.2 j _ (l[j]'(by rw [← h.1]; exact hj)) (List.getElem?_eq_getElem hj) (List.getElem?_eq_getElem (by rw [← h.1]; exact hj))).1⟩
  · have hkl : k < l.length := by omega
    have h1 := (h.2 k e' l[k] he' (List.getElem?_eq_getElem hkl)).1
    rw [h1] at hkey
    have h2 := List.pairwise_iff_getElem.1 hd k i hkl hi hk
    rw [hxx] at h2
    injection hkey with _ hkey
    exact h2 (by omega)

theorem ords_zero {eo : List MapEntry} {l : List Ent} {came : Nat} (h : OrdsAre eo l) (hc : ∀ e ∈ l, 1 ≤ e.c ∧ e.c ≤ came) : ∀ e ∈ eo, ∃ c : Int, e.key = .int .i64 c ∧ (0 : Int) ≠ c := by
  intro e he
  obtain ⟨i, hi, rfl⟩ := List.mem_iff_getElem.1 he
  have hi' : i < l.length := by rw [← h.1]; exact hi
  have := h.2 i eo[i] l[i] (List.getElem?_eq_getElem hi) (List.getElem?_eq_getElem hi')
  have hc' := hc l[i] (List.getElem_mem hi')
  exact ⟨_, this.1, by omega⟩

/-- A table whose maps are laid again as they were. -/
theorem Tab.again {w w' : World} {lo tb M O : Nat} {l : List Ent} {came : Nat} (hT : Tab w lo w.heap.size tb M O l came) (fr : Fr (fun i => i = M ∨ i = O) w w')
    {es eo : Array MapEntry} {c1 c2 : Nat} (hes : EntsAre es.toList l) (heo : OrdsAre eo.toList l) (hst : Stm es.toList c1) (hM : w'.heap[M]? = some (.map es c1)) (hO : w'.heap[O]? = some (.map eo c2)) : Tab w' lo w'.heap.size tb M O l came := by
  have a := hT.tb0
  have b := hT.m0
  have c := hT.o0
  have hs := fr.size
  have hne := hT.ne
  have F0 : Forest w' lo w.heap.size (trees l) := hT.forest.frB fr (Nat.le_refl _) (by
    rintro b hib (rfl | rfl)
    · exact hT.outm hib
    · exact hT.outo hib)
  exact ⟨hT.blk.fr fr (by rintro (h | h) <;> omega), ⟨_, _, hM, hes⟩, ⟨_, _, hO, heo⟩, F0.more (Nat.le_refl _) hs, by omega, by omega, by omega, hT.mo, hT.out, hT.outm, hT.outo, hT.may, hT.dist, hT.cdist, hT.cran, hT.came0, fun es2 cl2 h2 => by
    rw [hM] at h2
    injection h2 with h2
    injection h2 with h3 h4
    subst h3 h4
    exact hst⟩

set_option maxRecDepth 10000 in
set_option maxHeartbeats 4000000 in
theorem Drop_ok (a : T) (w : World) (alo ahi : Nat) (ha : a.In w alo ahi) (hh : ahi ≤ w.heap.size) (lo tb M O : Nat) (l : List Ent) (came : Nat) (hT : Tab w lo w.heap.size tb M O l came)
    (hma : a.v.may = true) (hk : a.v.keys = true) :
    Calls Try.prog 35 #[.pointer (some ⟨tb, 0, none⟩), a.val] w (DropRes a.v lo tb M O l came w) := by
  have hF := fun w' h h' h'' => find_any a w' alo ahi h h' tb M O came h''
  have hd := may_dep hma
  have hge : getErr a.v = 0 := by unfold getErr; rw [if_pos hma, if_pos hk]
  -- what the look-up answers
  obtain ⟨xk, xv, xc, b, hb, hlk, hxm⟩ : ∃ (xk xv : T) (xc : Int) (b : Bool), (pos a.v (l.map fun e => e.k.v)).isSome = b ∧
      ((∀ i, pos a.v (l.map fun e => e.k.v) = some i → ∃ x, l[i]? = some x ∧ xc = x.c) ∧ (pos a.v (l.map fun e => e.k.v) = none → xc = 0)) ∧
      (∀ (w4 : World) (m : Value), Tab w4 lo w4.heap.size tb M O l came → IsMk a.v m → (Instr.lookup 63 (.map (some M)) m true).run Try.prog w4 = .ok (.tuple #[theEnt xk xv xc, .bool b]) w4) := by
    cases hp : pos a.v (l.map fun e => e.k.v) with
    | none =>
      refine ⟨T.zero, T.zero, 0, false, rfl, ⟨nofun, fun _ => rfl⟩, fun w4 m hT4 hmk => ?_⟩
      obtain ⟨es, cl, hm4, hes⟩ := hT4.m
      have hl4 := run_lookup_mark Try.underlying63 w4 (zero_ent _) a.v _ hmk hd hk true hm4 hes.keys (fun v _ => keys_ne2 a.v hk v)
      rw [hp] at hl4
      simpa [found, theEnt, T.zero, T.cells] using hl4
    | some i =>
      have hkx := pos_some hma hk (fun v hv => by obtain ⟨e, he, rfl⟩ := List.mem_map.1 hv; exact (hT.may e he).1) hp
      rw [List.getElem?_map] at hkx
      cases hx : l[i]? with
      | none => rw [hx] at hkx; cases hkx
      | some x =>
        refine ⟨x.k, x.v, (x.c : Int), true, rfl, ⟨fun j hj => ⟨x, by simp at hj; rw [← hj]; exact hx, rfl⟩, nofun⟩, fun w4 m hT4 hmk => ?_⟩
        obtain ⟨es, cl, hm4, hes⟩ := hT4.m
        have hl4 := run_lookup_mark Try.underlying63 w4 (zero_ent _) a.v _ hmk hd hk true hm4 hes.keys (fun v _ => keys_ne2 a.v hk v)
        rw [hp] at hl4
        obtain ⟨hi, hxi⟩ := List.getElem?_eq_some_iff.1 hx
        have hei := List.getElem?_eq_getElem (l := es.toList) (i := i) (by rw [hes.1]; exact hi)
        have hev := (hes.2 i _ x hei hx).2
        simp only [found, hei, Option.map_some, hev] at hl4
        exact hl4
  cases a with
  | mk k n s A cap l1 r =>
  cases xk with
  | mk xk xn xs xA xcap xl xr =>
  cases xv with
  | mk yk yn ys yA ycap yl yr =>
    rw [T.val_mk] at *
    generalize hu : (T.mk k n s A cap l1 r).v = u at *
    have hW : Fr No w (w.alloc (.cells #[.int .u8 k, .int .i64 n, .string s, .slice A l1.length cap, .int .i64 r] 27)) := (Fr.refl No w).alloc _
    have hT0 := (hT.no hW (Nat.le_refl _)).more (Nat.le_refl _) hW.size
    have htb := hT.tb0
    have hm0 := hT.m0
    have ho0 := hT.o0
    have hne := hT.ne
    have hmo := hT.mo
    have hcr := hT.cran
    have ha0 := ha.no hW hh
    have hsz : w.heap.size + 1 ≤ (w.alloc (.cells #[.int .u8 k, .int .i64 n, .string s, .slice A l1.length cap, .int .i64 r] 27)).heap.size := by simp
    have HU := hide hu
    have HM := hide hma
    have HK := hide hk
    have HT := hide hT
    have HLK := hide hlk
    have HB := hide hb
    have HGE := hide hge
    have HCR := hide hcr
    clear hu ha hT hma hk hlk hb hge hcr
    go_enter Try.func35, Try.ntmps35
    go_wp2_with fail
    generalize World.alloc w _ = W0 at *
    refine (hF _ ha0 (by omega) hT0.blk).mono ?_
    rintro e w4 ⟨h, -, -⟩
    obtain ⟨m, rfl, hmk, fr4⟩ := h HM.out HK.out
    obtain ⟨ty, z, rfl⟩ := hmk.iface
    have hT4 := (hT0.no fr4 (Nat.le_refl _)).more (Nat.le_refl _) fr4.size
    have hW4 := hW.trans fr4
    have hs4 : w.heap.size + 1 ≤ w4.heap.size := Nat.le_trans hsz fr4.size
    have hl4 := hxm w4 _ hT4 hmk
    simp [theEnt, T.cells] at hl4
    clear h fr4 hT0 ha0 hW hF hsz hxm
    have t0 := hT4.blk.cell 0
    have t1 := hT4.blk.cell 1
    simp only [List.getElem?_toArray, List.getElem?_cons_zero, List.getElem?_cons_succ] at t0 t1
    have htb4 : tb < w4.heap.size := by omega
    go_upto_region 5 with fail
    have fr8 := (Fr.refl No w4).alloc (.cells #[.int .u8 xk, .int .i64 xn, .string xs, .slice xA xl.length xcap, .int .i64 xr, .int .u8 yk, .int .i64 yn, .string ys, .slice yA yl.length ycap, .int .i64 yr, .int .i64 xc] 132)
    have hT5 := (hT4.no fr8 (Nat.le_refl _)).more (Nat.le_refl _) fr8.size
    have hb5 := Blk.new w4 132 #[.int .u8 xk, .int .i64 xn, .string xs, .slice xA xl.length xcap, .int .i64 xr, .int .u8 yk, .int .i64 yn, .string ys, .slice yA yl.length ycap, .int .i64 yr, .int .i64 xc]
    have hW5 := hW4.trans fr8
    have hs8 : w4.heap.size + 1 ≤ (w4.alloc (.cells #[.int .u8 xk, .int .i64 xn, .string xs, .slice xA xl.length xcap, .int .i64 xr, .int .u8 yk, .int .i64 yn, .string ys, .slice yA yl.length ycap, .int .i64 yr, .int .i64 xc] 132)).heap.size := by simp
    generalize World.alloc w4 _ = w5 at *
    clear t0 t1 hl4
    obtain ⟨es, cl, hm5, hes⟩ := hT5.m
    obtain ⟨eo, co, ho5, hoe⟩ := hT5.o
    have hst := hT5.stm es cl hm5
    have t0 := hT5.blk.cell 0
    simp only [List.getElem?_toArray, List.getElem?_cons_zero, List.getElem?_cons_succ] at t0
    have htb5 : tb < w5.heap.size := by omega
    have hdel1 : ∀ ty', _ := fun ty' => run_del_mark (ty := ty') Try.underlying63 w5 u (.iface ty z) hmk hd HK.out hm5 hes.keys
    go_upto_region 6 with fail
    have F6 := fr_putObj w5 M (.map (delAt (pos u (l.map fun e => e.k.v)) es) cl)
    have hM6 : (w5.putObj M (.map (delAt (pos u (l.map fun e => e.k.v)) es) cl)).heap[M]? = some (.map (delAt (pos u (l.map fun e => e.k.v)) es) cl) := World.putObj_heap_same (by omega)
    generalize World.putObj w5 M _ = w6 at *
    have hO6 : w6.heap[O]? = some (.map eo co) := (F6.block O (by omega) (fun h => hmo h.symm)).trans ho5
    have hb6 := hb5.fr F6 (fun h => by have h' : w4.heap.size = M := h; omega)
    have ht6 := hT5.blk.fr F6 (fun h => hne.1 h.symm)
    clear t0 hdel1
    have t1 := ht6.cell 1
    have x10 := hb6.cell 10
    simp only [List.getElem?_toArray, List.getElem?_cons_zero, List.getElem?_cons_succ] at t1 x10
    have t6 := ht6.lt
    have x6 := hb6.lt
    have hdel2 : ∀ ty', _ := fun ty' => run_del_num (ty := ty') Try.underlying64 w6.drew xc (B := O) (es := eo) (cl := co) hO6 (pos u (l.map fun e => e.k.v)) (fun hn e he => by
      obtain ⟨c, h1, h2⟩ := ords_zero hoe HCR.out e he
      rw [HLK.out.2 hn]
      exact ⟨c, h1, h2⟩) (fun j hj => by
      obtain ⟨x, hx, hxc⟩ := HLK.out.1 j hj
      rw [hxc]
      exact ords_some hoe HT.out.cdist hx)
    go_still_tail 6, (by kernel_rfl)
    change wpList _ _ _ _ _ w6.drew
    go_wp2_with fail
    go_ret2
    have F7 := fr_putObj w6.drew O (.map (delAt (pos u (l.map fun e => e.k.v)) eo) co)
    have hO7 : (w6.drew.putObj O (.map (delAt (pos u (l.map fun e => e.k.v)) eo) co)).heap[O]? = some (.map (delAt (pos u (l.map fun e => e.k.v)) eo) co) := World.putObj_heap_same (lt_of_heap (w := w6) hO6)
    have hM7 := (F7.block M (lt_of_heap (w := w6.drew) hM6) (fun h => hmo h)).trans hM6
    have FR : Fr (fun i => i = M ∨ i = O) w (w6.drew.putObj O (.map (delAt (pos u (l.map fun e => e.k.v)) eo) co)) :=
      (((hW5.no).trans' (F6.drew) (fun i _ h => .inl h))).trans' F7 (fun i _ h => .inr h)
    generalize World.putObj w6.drew O _ = w7 at *
    cases hp : pos u (l.map fun e => e.k.v) with
    | none =>
      rw [hp] at hM7 hO7
      refine ⟨b, l, by rw [HGE.out]; rfl, ?_, FR, .inr (.inl ⟨HGE.out, hp, rfl, by have := HB.out; rw [hp] at this; exact this.symm⟩)⟩
      exact HT.out.again FR hes hoe hst hM7 hO7
    | some i =>
      rw [hp] at hM7 hO7
      obtain ⟨x, hx, -⟩ := HLK.out.1 i hp
      refine ⟨b, l.eraseIdx i, by rw [HGE.out]; rfl, ?_, FR, .inr (.inr ⟨HGE.out, i, hp, rfl, by have := HB.out; rw [hp] at this; exact this.symm⟩)⟩
      exact HT.out.drop FR hes hoe hst hM7 hO7 (List.getElem?_eq_some_iff.1 hx).1

theorem Drop_any (a : T) (w : World) (alo ahi : Nat) (ha : a.In w alo ahi) (hh : ahi ≤ w.heap.size) (lo tb M O : Nat) (l : List Ent) (came : Nat) (hT : Tab w lo w.heap.size tb M O l came) :
    Calls Try.prog 35 #[.pointer (some ⟨tb, 0, none⟩), a.val] w (DropRes a.v lo tb M O l came w) := by
  by_cases he : getErr a.v = 0
  · have h : a.v.may = true ∧ a.v.keys = true := by
      unfold getErr at he
      split at he
      · rename_i h1
        split at he
        · rename_i h2; exact ⟨h1, h2⟩
        · cases he
      · cases he
    exact Drop_ok a w alo ahi ha hh lo tb M O l came hT h.1 h.2
  · refine (Drop_err a w alo ahi ha hh tb M O came hT.blk he).mono ?_
    rintro e w' ⟨rfl, fr⟩
    exact ⟨false, l, rfl, (hT.no fr (Nat.le_refl _)).more (Nat.le_refl _) fr.size, fr.no, .inl ⟨he, rfl, rfl⟩⟩

end Go.Proofs.Ytihjmipmjogpoaa

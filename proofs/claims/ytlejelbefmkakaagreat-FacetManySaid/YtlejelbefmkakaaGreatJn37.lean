/- Texts joined: Tr3, Fm4, Fm5, St0, Fm6, Fm8. -/
import Derived.Test.YtlejelbefmkakaaGreatJn1
import Derived.Test.YtlejelbefmkakaaGreatJn9
import Derived.Test.YtlejelbefmkakaaGreatJn24
import Derived.Test.YtlejelbefmkakaaGreatJn26
import Derived.Test.YtlejelbefmkakaaGreatJn35
import Derived.Test.YtlejelbefmkakaaGreatJn36
import Derived.Deep.Cut
import Derived.Deep.CutRange
import Derived.Laws.Tables
import Derived.Deep.RegionHeld3
namespace Go.Proofs.YtlejelbefmkakaaGreat
open Go.RowKit
theorem ints_ows {w : World} {lo hi : Nat} {e : TypeId} {A : Option Addr} {c n : Nat} {L : List Int} (h : w.ownsRow lo e 1 (.slice A n c) n (refRow L)) (hn : n = L.length) (hh : w.heap.size ≤ hi) : Lies w lo hi A n 1 (refRow L) := by
 subst hn
 refine ⟨by simp [refRow], refRow_one L, fun h0 => ?_⟩
 obtain ⟨g, c', hA, hg0, hg1⟩ := h.form (by omega)
 simp only [Value.slice.injEq, true_and] at hA
 obtain ⟨rfl, rfl⟩ := hA
 refine ⟨g, 0, rfl, hg0, by omega, fun j u hu => ?_⟩
 have := World.ownsRow.cells h (g := g) rfl j u hu
 rwa [add_at] at this
set_option maxRecDepth 100000 in
set_option maxHeartbeats 8000000 in
theorem Tell_g {m : Gm} {lo : Nat} {W : World} (h : m.Ok lo W) (_hlo : lo ≤ W.heap.size) (HMAY : Hid (∀ x ∈ m.th, x.2.2.Mays)) (HSORT : Hid SortRefs) : Calls Tryz.prog 78 #[.pointer (some ⟨m.wb, 0, none⟩)] W (TellP m W) := by
 have hcs := fun W' (f : Fr No W W') => cloneSide m.P m.par.length m.pc _ W' lo W'.heap.size (ints_ows (h.no f).par rfl (Nat.le_refl _)) (Nat.le_refl _) (by have := h.sides; omega)
 have hci := fun W' (f : Fr No W W') => cloneInt m.D m.made.length m.dc _ W' lo W'.heap.size (ints_ows (h.no f).made rfl (Nat.le_refl _)) (Nat.le_refl _) (by have := h.sides; omega)
 have HOK := hide h
 have HCS := hide hcs
 have HCI := hide hci
 have HQ := hide h.blk.lt
 have HC0 := hide (show W.cell? ⟨m.wb, 0, none⟩ = some (.slice m.P m.par.length m.pc) from h.blk.cell 0)
 have HC4 := hide (show W.cell? ⟨m.wb, 4, none⟩ = some (.int .i64 m.last) from h.blk.cell 4)
 have HC5 := hide (show W.cell? ⟨m.wb, 5, none⟩ = some (.slice m.D m.made.length m.dc) from h.blk.cell 5)
 clear h hcs hci
 have hf0 := (Fr.refl No W).alloc (.cells #[.slice none 0 0, .slice none 0 0, .slice none 0 0, .int .i64 0, .slice none 0 0] 71)
 have HF0 := hide hf0
 have hres := Blk.new W 71 #[.slice none 0 0, .slice none 0 0, .slice none 0 0, .int .i64 0, .slice none 0 0]
 clear hf0
 go_enter Tryz.func78, Tryz.ntmps78
 go_wp2_with fail
 generalize World.alloc W _ = wr at *
 refine (gnone_w (HOK.out.no HF0.out)).mono ?_
 rintro e w' ⟨rfl, rfl⟩
 have hok := HOK.out.no HF0.out
 have c0 : w'.cell? ⟨m.wb, 0, none⟩ = some (.slice m.P m.par.length m.pc) := hok.blk.cell 0
 have c4 : w'.cell? ⟨m.wb, 4, none⟩ = some (.int .i64 m.last) := hok.blk.cell 4
 have c5 : w'.cell? ⟨m.wb, 5, none⟩ = some (.slice m.D m.made.length m.dc) := hok.blk.cell 5
 have HSQ := hide hok.blk.lt
 have HS0 := hide c0
 have HS4 := hide c4
 have HS5 := hide c5
 have F0 := hide HF0.out.drew
 have HR0 := hide (hres.fr (Fr.refl No w').drew fun h => h)
 have HR00 := hide hres
 clear hok c0 c4 c5 hres
 go_upto_region 3 with (fail)
 go_cut [3] from 8 to 69 (fun t3 wx => ∃ (g3 : Nat) (B : Option Addr) (cB : Nat) (E : Option Addr) (cE : Nat), t3 = .pointer (some ⟨g3, 0, none⟩) ∧ W.heap.size < g3 ∧ Blk wx g3 71 #[.slice B m.par.length cB, .slice none 0 0, .slice none 0 0, .int .i64 m.last, .slice E m.made.length cE] ∧
  wx.ownsRow W.heap.size 23 1 (.slice B m.par.length cB) m.par.length (refRow m.par) ∧ wx.ownsRow W.heap.size 3 1 (.slice E m.made.length cE) m.made.length (refRow m.made) ∧ Blk wx W.heap.size 71 #[.slice none 0 0, .slice none 0 0, .slice none 0 0, .int .i64 0, .slice none 0 0] ∧ Fr No W wx)
 case first =>
  refine wp_region_held_drew (S := fun w' => w'.cell? ⟨m.wb, 0, none⟩ = some (.slice m.P m.par.length m.pc) ∧ w'.cell? ⟨m.wb, 4, none⟩ = some (.int .i64 m.last) ∧ w'.cell? ⟨m.wb, 5, none⟩ = some (.slice m.D m.made.length m.dc) ∧ m.wb < w'.heap.size) (by kernel_rfl) ?_ (fun hHeld => ?_)
  · exact ⟨HS0.out, HS4.out, HS5.out, HSQ.out⟩
  refine tk (i := 0) (v := ?_) (by simp only [lq1, lq3]; rfl) (by kernel_rfl) (by intro _ _ _ h; exact h) (by rfl) (by assumption) ?_ ?_; rotate_left
  · (intro w hSw; (try dsimp only at hSw); go_simp; try (with_reducible rfl))
  try simp only [Act.put, lq4, lq5, lq6]
  refine tk (i := 1) (v := ?_) (by simp only [lq1, lq2, lq3]; rfl) (by kernel_rfl) (by intro _ _ _ h; exact h) (by rfl) (by assumption) ?_ ?_; rotate_left
  · (intro w hSw; (try dsimp only at hSw); go_simp; try (with_reducible rfl))
  try simp only [Act.put, lq4, lq5, lq6]
  refine tk (i := 2) (v := ?_) (by simp only [lq1, lq2, lq3]; rfl) (by kernel_rfl) (by intro _ _ _ h; exact h) (by rfl) (by assumption) ?_ ?_; rotate_left
  · (intro w hSw; (try dsimp only at hSw); go_simp; try (with_reducible rfl))
  try simp only [Act.put, lq4, lq5, lq6]
  refine tk (i := 3) (v := ?_) (by simp only [lq1, lq2, lq3]; rfl) (by kernel_rfl) (by intro _ _ _ h; exact h) (by rfl) (by assumption) ?_ ?_; rotate_left
  · (intro w hSw; (try dsimp only at hSw); go_simp; try (with_reducible rfl))
  try simp only [Act.put, lq4, lq5, lq6]
  refine tk (i := 5) (v := ?_) (by simp only [lq1, lq2, lq3]; rfl) (by kernel_rfl) (by intro _ _ _ h; exact h) (by rfl) (by assumption) ?_ ?_; rotate_left
  · (intro w hSw; (try dsimp only at hSw); go_simp; try (with_reducible rfl))
  try simp only [Act.put, lq4, lq5, lq6]
  refine tk (i := 6) (v := ?_) (by simp only [lq1, lq2, lq3]; rfl) (by kernel_rfl) (by intro _ _ _ h; exact h) (by rfl) (by assumption) ?_ ?_; rotate_left
  · (intro w hSw; (try dsimp only at hSw); go_simp; try (with_reducible rfl))
  try simp only [Act.put, lq4, lq5, lq6]
  refine tk (i := 7) (v := ?_) (by simp only [lq1, lq2, lq3]; rfl) (by kernel_rfl) (by intro _ _ _ h; exact h) (by rfl) (by assumption) ?_ ?_; rotate_left
  · (intro w hSw; (try dsimp only at hSw); go_simp; try (with_reducible rfl))
  try simp only [Act.put, lq4, lq5, lq6]
  refine tk (i := 8) (v := ?_) (by simp only [lq1, lq2, lq3]; rfl) (by kernel_rfl) (by intro _ _ _ h; exact h) (by rfl) (by assumption) ?_ ?_; rotate_left
  · (intro w hSw; (try dsimp only at hSw); go_simp; try (with_reducible rfl))
  try simp only [Act.put, lq4, lq5, lq6]
  refine tk (i := 9) (v := ?_) (by simp only [lq1, lq2, lq3]; rfl) (by kernel_rfl) (by intro _ _ _ h; exact h) (by rfl) (by assumption) ?_ ?_; rotate_left
  · (intro w hSw; (try dsimp only at hSw); go_simp; try (with_reducible rfl))
  try simp only [Act.put, lq4, lq5, lq6]
  refine tk (i := 10) (v := ?_) (by simp only [lq1, lq2, lq3]; rfl) (by kernel_rfl) (by intro _ _ _ h; exact h) (by rfl) (by assumption) ?_ ?_; rotate_left
  · (intro w hSw; (try dsimp only at hSw); go_simp; try (with_reducible rfl))
  try simp only [Act.put, lq4, lq5, lq6]
  refine tk (i := 11) (v := ?_) (by simp only [lq1, lq2, lq3]; rfl) (by kernel_rfl) (by intro _ _ _ h; exact h) (by rfl) (by assumption) ?_ ?_; rotate_left
  · (intro w hSw; (try dsimp only at hSw); go_simp; try (with_reducible rfl))
  try simp only [Act.put, lq4, lq5, lq6]
  refine tk (i := 12) (v := ?_) (by simp only [lq1, lq2, lq3]; rfl) (by kernel_rfl) (by intro _ _ _ h; exact h) (by rfl) (by assumption) ?_ ?_; rotate_left
  · (intro w hSw; (try dsimp only at hSw); go_simp; try (with_reducible rfl))
  try simp only [Act.put, lq4, lq5, lq6]
  refine wpAnyH_ready (rs := [4, 15]) (by kernel_rfl) (by simp) ?_
  refine AllReadyH.cons rfl (fun K hK => ?_) (AllReadyH.cons rfl (fun K hK => ?_) AllReadyH.nil)
  · go_simp
    go_at_call 148
    refine (HCS.out _ F0.out).mono ?_
    rintro e w1 ⟨B, cB, rfl, hB, fB⟩
    have HBB := hide (F0.out.size)
    have HR1 := hide (HR0.out.fr fB fun h => h)
    have F1 := hide (F0.out.trans fB)
    have HB := hide hB
    clear hB fB
    refine hK.out _ _ ?_ (fun hHeld2 => ?_)
    · exact ⟨(F1.out.cell HQ.out fun h => h).trans HC0.out, (F1.out.cell HQ.out fun h => h).trans HC4.out, (F1.out.cell HQ.out fun h => h).trans HC5.out, Nat.lt_of_lt_of_le HQ.out F1.out.size⟩
    clear hK K hHeld
    have hHeld := hHeld2
    clear hHeld2
    try simp only [Act.put, lq4, lq5, lq6]
    refine wpAnyH_ready (rs := [13, 15]) (by kernel_rfl) (by simp) ?_
    refine AllReadyH.cons rfl (fun K hK => ?_) (AllReadyH.cons rfl (fun K hK => ?_) AllReadyH.nil)
    · go_simp
      go_at_call 149
      refine (HCI.out _ F1.out).mono ?_
      rintro e w2 ⟨E, cE, rfl, hE, fE⟩
      have HBE := hide (F1.out.size)
      have HR2 := hide (HR1.out.fr fE fun h => h)
      have F2 := hide (F1.out.trans fE)
      have HE := hide hE
      have HB2 := hide (owns_fr HB.out fE fun _ _ h => h)
      clear hE fE
      refine hK.out _ _ ?_ (fun hHeld2 => ?_)
      · exact ⟨(F2.out.cell HQ.out fun h => h).trans HC0.out, (F2.out.cell HQ.out fun h => h).trans HC4.out, (F2.out.cell HQ.out fun h => h).trans HC5.out, Nat.lt_of_lt_of_le HQ.out F2.out.size⟩
      clear hK K hHeld
      have hHeld := hHeld2
      clear hHeld2
      try simp only [Act.put, lq4, lq5, lq6]
      refine tk (i := 14) (v := ?_) (by simp only [lq1, lq2, lq3]; rfl) (by kernel_rfl) (by intro _ _ _ h; exact h) (by rfl) (by assumption) ?_ ?_; rotate_left
      · (intro w hSw; (try dsimp only at hSw); go_simp; try (with_reducible rfl))
      try simp only [Act.put, lq4, lq5, lq6]
      refine wpAnyH_ready (rs := [15]) (by kernel_rfl) (by simp) ?_
      refine AllReadyH.cons rfl (fun K hK => ?_) AllReadyH.nil
      · go_simp
        have fA := (Fr.refl No w2).alloc (.cells #[.slice none 0 0, .slice none 0 0, .slice none 0 0, .int .i64 0, .slice none 0 0] 71)
        have F3 := hide (F2.out.trans fA)
        have HA3 := hide (Blk.new w2 71 #[.slice none 0 0, .slice none 0 0, .slice none 0 0, .int .i64 0, .slice none 0 0])
        have HG3 := hide HR2.out.lt
        have HR3 := hide (HR2.out.fr fA fun h => h)
        have HB3 := hide (owns_fr HB2.out fA fun _ _ h => h)
        have HE3 := hide (owns_fr HE.out fA fun _ _ h => h)
        clear fA
        generalize hg3 : Array.size (World.heap w2) = g3 at *
        generalize World.alloc w2 _ = w3 at *
        clear hg3
        have z0 : w3.cell? ⟨g3, 0, none⟩ = some (.slice none 0 0) := HA3.out.cell 0
        have z1 : w3.cell? ⟨g3, 1, none⟩ = some (.slice none 0 0) := HA3.out.cell 1
        have z2 : w3.cell? ⟨g3, 2, none⟩ = some (.slice none 0 0) := HA3.out.cell 2
        have z3 : w3.cell? ⟨g3, 3, none⟩ = some (.int .i64 0) := HA3.out.cell 3
        have z4 : w3.cell? ⟨g3, 4, none⟩ = some (.slice none 0 0) := HA3.out.cell 4
        have zf0 : w3.frozen? ⟨g3, 0, none⟩ = false := HA3.out.frozen 0
        have zf1 : w3.frozen? ⟨g3, 1, none⟩ = false := HA3.out.frozen 1
        have zf2 : w3.frozen? ⟨g3, 2, none⟩ = false := HA3.out.frozen 2
        have zf3 : w3.frozen? ⟨g3, 3, none⟩ = false := HA3.out.frozen 3
        have zf4 : w3.frozen? ⟨g3, 4, none⟩ = false := HA3.out.frozen 4
        have zq : g3 < w3.heap.size := HA3.out.lt
        refine hK.out _ _ ?_ (fun hHeld2 => ?_)
        · exact ⟨(F3.out.cell HQ.out fun h => h).trans HC0.out, (F3.out.cell HQ.out fun h => h).trans HC4.out, (F3.out.cell HQ.out fun h => h).trans HC5.out, Nat.lt_of_lt_of_le HQ.out F3.out.size⟩
        clear hK K hHeld
        have hHeld := hHeld2
        clear hHeld2
        try simp only [Act.put, lq4, lq5, lq6]
        refine wpAnyH_ready (rs := [16]) (by kernel_rfl) (by simp) ?_
        refine AllReadyH.cons rfl (fun K hK => ?_) AllReadyH.nil
        · go_simp
          have fS : Fr (fun i => i = g3) w3 (((((w3.setCell ⟨g3, 0, none⟩ (.slice B m.par.length cB)).setCell ⟨g3, 1, none⟩ (.slice none 0 0)).setCell ⟨g3, 2, none⟩ (.slice none 0 0)).setCell ⟨g3, 3, none⟩ (.int .i64 m.last)).setCell ⟨g3, 4, none⟩ (.slice E m.made.length cE)) := by
           repeat (first | with_reducible exact Fr.refl _ w3 | with_reducible refine Fr.set ?_ (by simp) _)
          have hb5 : Blk (((((w3.setCell ⟨g3, 0, none⟩ (.slice B m.par.length cB)).setCell ⟨g3, 1, none⟩ (.slice none 0 0)).setCell ⟨g3, 2, none⟩ (.slice none 0 0)).setCell ⟨g3, 3, none⟩ (.int .i64 m.last)).setCell ⟨g3, 4, none⟩ (.slice E m.made.length cE)) g3 71 #[.slice B m.par.length cB, .slice none 0 0, .slice none 0 0, .int .i64 m.last, .slice E m.made.length cE] := by
           have := (Blk.set_ (Blk.set_ (Blk.set_ (Blk.set_ (Blk.set_ HA3.out 0 (.slice B m.par.length cB)) 1 (.slice none 0 0)) 2 (.slice none 0 0)) 3 (.int .i64 m.last)) 4 (.slice E m.made.length cE))
           simpa using this
          have hB5 := owns_fr HB3.out fS (fun q hq hh => by
           have h2 : q = g3 := hh
           obtain ⟨cs, hb⟩ := owns_typed HB3.out hq
           exact Blk.ne_ hb HA3.out (by decide) h2)
          have hE5 := owns_fr HE3.out fS (fun q hq hh => by
           have h2 : q = g3 := hh
           obtain ⟨cs, hb⟩ := owns_typed HE3.out hq
           exact Blk.ne_ hb HA3.out (by decide) h2)
          have hR5 := HR3.out.fr fS (fun hh => by have := HG3.out; omega)
          have hF5 := F3.out.trans' fS fun i hi hh => by have h2 : i = g3 := hh; have := HG3.out; omega
          have HB5 := hide (owns_mono (base' := W.heap.size) hB5 (by exact HBB.out))
          have HE5 := hide (owns_mono (base' := W.heap.size) hE5 (by exact HBE.out))
          have HR5 := hide hR5
          have HF5 := hide hF5
          have HBL := hide hb5
          clear fS hb5 hB5 hE5 hR5 hF5 z0 zf0 z1 zf1 z2 zf2 z3 zf3 z4 zf4 zq
          generalize World.setCell (World.setCell (World.setCell (World.setCell (World.setCell w3 _ _) _ _) _ _) _ _) _ _ = w4 at *
          refine hK.out _ _ ?_ (fun hHeld2 => ?_)
          · exact ⟨(HF5.out.cell HQ.out fun h => h).trans HC0.out, (HF5.out.cell HQ.out fun h => h).trans HC4.out, (HF5.out.cell HQ.out fun h => h).trans HC5.out, Nat.lt_of_lt_of_le HQ.out HF5.out.size⟩
          clear hK K hHeld
          have hHeld := hHeld2
          clear hHeld2
          try simp only [Act.put, lq4, lq5, lq6]
          refine wpAnyH_done (by kernel_rfl) ?_ _
          clear hHeld
          go_wp2_with fail
          go_meet
          case rel => exact ⟨g3, B, cB, E, cE, rfl, HG3.out, HBL.out, HB5.out, HE5.out, HR5.out, HF5.out⟩
    · go_simp
      have fA := (Fr.refl No w1).alloc (.cells #[.slice none 0 0, .slice none 0 0, .slice none 0 0, .int .i64 0, .slice none 0 0] 71)
      have F2 := hide (F1.out.trans fA)
      have HA2 := hide (Blk.new w1 71 #[.slice none 0 0, .slice none 0 0, .slice none 0 0, .int .i64 0, .slice none 0 0])
      have HG3 := hide HR1.out.lt
      have HR2 := hide (HR1.out.fr fA fun h => h)
      have HB2 := hide (owns_fr HB.out fA fun _ _ h => h)
      clear fA
      generalize hg3 : Array.size (World.heap w1) = g3 at *
      generalize World.alloc w1 _ = w2 at *
      clear hg3
      refine hK.out _ _ ?_ (fun hHeld2 => ?_)
      · exact ⟨(F2.out.cell HQ.out fun h => h).trans HC0.out, (F2.out.cell HQ.out fun h => h).trans HC4.out, (F2.out.cell HQ.out fun h => h).trans HC5.out, Nat.lt_of_lt_of_le HQ.out F2.out.size⟩
      clear hK K hHeld
      have hHeld := hHeld2
      clear hHeld2
      try simp only [Act.put, lq4, lq5, lq6]
      refine wpAnyH_ready (rs := [13]) (by kernel_rfl) (by simp) ?_
      refine AllReadyH.cons rfl (fun K hK => ?_) AllReadyH.nil
      · go_simp
        go_at_call 149
        refine (HCI.out _ F2.out).mono ?_
        rintro e w3 ⟨E, cE, rfl, hE, fE⟩
        have HBE := hide (F2.out.size)
        have HR3 := hide (HR2.out.fr fE fun h => h)
        have F3 := hide (F2.out.trans fE)
        have HE := hide hE
        have HB3 := hide (owns_fr HB2.out fE fun _ _ h => h)
        have HA3 := hide (HA2.out.fr fE fun h => h)
        clear hE fE
        have z0 : w3.cell? ⟨g3, 0, none⟩ = some (.slice none 0 0) := HA3.out.cell 0
        have z1 : w3.cell? ⟨g3, 1, none⟩ = some (.slice none 0 0) := HA3.out.cell 1
        have z2 : w3.cell? ⟨g3, 2, none⟩ = some (.slice none 0 0) := HA3.out.cell 2
        have z3 : w3.cell? ⟨g3, 3, none⟩ = some (.int .i64 0) := HA3.out.cell 3
        have z4 : w3.cell? ⟨g3, 4, none⟩ = some (.slice none 0 0) := HA3.out.cell 4
        have zf0 : w3.frozen? ⟨g3, 0, none⟩ = false := HA3.out.frozen 0
        have zf1 : w3.frozen? ⟨g3, 1, none⟩ = false := HA3.out.frozen 1
        have zf2 : w3.frozen? ⟨g3, 2, none⟩ = false := HA3.out.frozen 2
        have zf3 : w3.frozen? ⟨g3, 3, none⟩ = false := HA3.out.frozen 3
        have zf4 : w3.frozen? ⟨g3, 4, none⟩ = false := HA3.out.frozen 4
        have zq : g3 < w3.heap.size := HA3.out.lt
        refine hK.out _ _ ?_ (fun hHeld2 => ?_)
        · exact ⟨(F3.out.cell HQ.out fun h => h).trans HC0.out, (F3.out.cell HQ.out fun h => h).trans HC4.out, (F3.out.cell HQ.out fun h => h).trans HC5.out, Nat.lt_of_lt_of_le HQ.out F3.out.size⟩
        clear hK K hHeld
        have hHeld := hHeld2
        clear hHeld2
        try simp only [Act.put, lq4, lq5, lq6]
        refine tk (i := 14) (v := ?_) (by simp only [lq1, lq2, lq3]; rfl) (by kernel_rfl) (by intro _ _ _ h; exact h) (by rfl) (by assumption) ?_ ?_; rotate_left
        · (intro w hSw; (try dsimp only at hSw); go_simp; try (with_reducible rfl))
        try simp only [Act.put, lq4, lq5, lq6]
        refine wpAnyH_ready (rs := [16]) (by kernel_rfl) (by simp) ?_
        refine AllReadyH.cons rfl (fun K hK => ?_) AllReadyH.nil
        · go_simp
          have fS : Fr (fun i => i = g3) w3 (((((w3.setCell ⟨g3, 0, none⟩ (.slice B m.par.length cB)).setCell ⟨g3, 1, none⟩ (.slice none 0 0)).setCell ⟨g3, 2, none⟩ (.slice none 0 0)).setCell ⟨g3, 3, none⟩ (.int .i64 m.last)).setCell ⟨g3, 4, none⟩ (.slice E m.made.length cE)) := by
           repeat (first | with_reducible exact Fr.refl _ w3 | with_reducible refine Fr.set ?_ (by simp) _)
          have hb5 : Blk (((((w3.setCell ⟨g3, 0, none⟩ (.slice B m.par.length cB)).setCell ⟨g3, 1, none⟩ (.slice none 0 0)).setCell ⟨g3, 2, none⟩ (.slice none 0 0)).setCell ⟨g3, 3, none⟩ (.int .i64 m.last)).setCell ⟨g3, 4, none⟩ (.slice E m.made.length cE)) g3 71 #[.slice B m.par.length cB, .slice none 0 0, .slice none 0 0, .int .i64 m.last, .slice E m.made.length cE] := by
           have := (Blk.set_ (Blk.set_ (Blk.set_ (Blk.set_ (Blk.set_ HA3.out 0 (.slice B m.par.length cB)) 1 (.slice none 0 0)) 2 (.slice none 0 0)) 3 (.int .i64 m.last)) 4 (.slice E m.made.length cE))
           simpa using this
          have hB5 := owns_fr HB3.out fS (fun q hq hh => by
           have h2 : q = g3 := hh
           obtain ⟨cs, hb⟩ := owns_typed HB3.out hq
           exact Blk.ne_ hb HA3.out (by decide) h2)
          have hE5 := owns_fr HE.out fS (fun q hq hh => by
           have h2 : q = g3 := hh
           obtain ⟨cs, hb⟩ := owns_typed HE.out hq
           exact Blk.ne_ hb HA3.out (by decide) h2)
          have hR5 := HR3.out.fr fS (fun hh => by have := HG3.out; omega)
          have hF5 := F3.out.trans' fS fun i hi hh => by have h2 : i = g3 := hh; have := HG3.out; omega
          have HB5 := hide (owns_mono (base' := W.heap.size) hB5 (by exact HBB.out))
          have HE5 := hide (owns_mono (base' := W.heap.size) hE5 (by exact HBE.out))
          have HR5 := hide hR5
          have HF5 := hide hF5
          have HBL := hide hb5
          clear fS hb5 hB5 hE5 hR5 hF5 z0 zf0 z1 zf1 z2 zf2 z3 zf3 z4 zf4 zq
          generalize World.setCell (World.setCell (World.setCell (World.setCell (World.setCell w3 _ _) _ _) _ _) _ _) _ _ = w4 at *
          refine hK.out _ _ ?_ (fun hHeld2 => ?_)
          · exact ⟨(HF5.out.cell HQ.out fun h => h).trans HC0.out, (HF5.out.cell HQ.out fun h => h).trans HC4.out, (HF5.out.cell HQ.out fun h => h).trans HC5.out, Nat.lt_of_lt_of_le HQ.out HF5.out.size⟩
          clear hK K hHeld
          have hHeld := hHeld2
          clear hHeld2
          try simp only [Act.put, lq4, lq5, lq6]
          refine wpAnyH_done (by kernel_rfl) ?_ _
          clear hHeld
          go_wp2_with fail
          go_meet
          case rel => exact ⟨g3, B, cB, E, cE, rfl, HG3.out, HBL.out, HB5.out, HE5.out, HR5.out, HF5.out⟩
  · go_simp
    have fA := ((Fr.refl No w').alloc (.cells #[.slice none 0 0, .slice none 0 0, .slice none 0 0, .int .i64 0, .slice none 0 0] 71)).drew
    have F1 := hide (HF0.out.trans fA)
    have HA1 : Hid (Blk (World.drew (World.alloc w' (.cells #[.slice none 0 0, .slice none 0 0, .slice none 0 0, .int .i64 0, .slice none 0 0] 71))) (Array.size (World.heap w')) 71 #[.slice none 0 0, .slice none 0 0, .slice none 0 0, .int .i64 0, .slice none 0 0]) := hide (Blk.new w' 71 #[.slice none 0 0, .slice none 0 0, .slice none 0 0, .int .i64 0, .slice none 0 0])
    have HG3 : Hid (W.heap.size < Array.size (World.heap w')) := hide HR00.out.lt
    have HR1 := hide (HR00.out.fr fA fun h => h)
    clear fA
    generalize hg3 : Array.size (World.heap w') = g3 at *
    generalize World.drew (World.alloc w' _) = w1 at *
    clear hg3
    refine hK.out _ _ ?_ (fun hHeld2 => ?_)
    · exact ⟨(F1.out.cell HQ.out fun h => h).trans HC0.out, (F1.out.cell HQ.out fun h => h).trans HC4.out, (F1.out.cell HQ.out fun h => h).trans HC5.out, Nat.lt_of_lt_of_le HQ.out F1.out.size⟩
    clear hK K hHeld
    have hHeld := hHeld2
    clear hHeld2
    try simp only [Act.put, lq4, lq5, lq6]
    refine wpAnyH_ready (rs := [4]) (by kernel_rfl) (by simp) ?_
    refine AllReadyH.cons rfl (fun K hK => ?_) AllReadyH.nil
    · go_simp
      go_at_call 148
      refine (HCS.out _ F1.out).mono ?_
      rintro e w2 ⟨B, cB, rfl, hB, fB⟩
      have HBB := hide (F1.out.size)
      have HR2 := hide (HR1.out.fr fB fun h => h)
      have F2 := hide (F1.out.trans fB)
      have HB := hide hB
      have HA2 := hide (HA1.out.fr fB fun h => h)
      clear hB fB
      refine hK.out _ _ ?_ (fun hHeld2 => ?_)
      · exact ⟨(F2.out.cell HQ.out fun h => h).trans HC0.out, (F2.out.cell HQ.out fun h => h).trans HC4.out, (F2.out.cell HQ.out fun h => h).trans HC5.out, Nat.lt_of_lt_of_le HQ.out F2.out.size⟩
      clear hK K hHeld
      have hHeld := hHeld2
      clear hHeld2
      try simp only [Act.put, lq4, lq5, lq6]
      refine wpAnyH_ready (rs := [13]) (by kernel_rfl) (by simp) ?_
      refine AllReadyH.cons rfl (fun K hK => ?_) AllReadyH.nil
      · go_simp
        go_at_call 149
        refine (HCI.out _ F2.out).mono ?_
        rintro e w3 ⟨E, cE, rfl, hE, fE⟩
        have HBE := hide (F2.out.size)
        have HR3 := hide (HR2.out.fr fE fun h => h)
        have F3 := hide (F2.out.trans fE)
        have HE := hide hE
        have HB3 := hide (owns_fr HB.out fE fun _ _ h => h)
        have HA3 := hide (HA2.out.fr fE fun h => h)
        clear hE fE
        have z0 : w3.cell? ⟨g3, 0, none⟩ = some (.slice none 0 0) := HA3.out.cell 0
        have z1 : w3.cell? ⟨g3, 1, none⟩ = some (.slice none 0 0) := HA3.out.cell 1
        have z2 : w3.cell? ⟨g3, 2, none⟩ = some (.slice none 0 0) := HA3.out.cell 2
        have z3 : w3.cell? ⟨g3, 3, none⟩ = some (.int .i64 0) := HA3.out.cell 3
        have z4 : w3.cell? ⟨g3, 4, none⟩ = some (.slice none 0 0) := HA3.out.cell 4
        have zf0 : w3.frozen? ⟨g3, 0, none⟩ = false := HA3.out.frozen 0
        have zf1 : w3.frozen? ⟨g3, 1, none⟩ = false := HA3.out.frozen 1
        have zf2 : w3.frozen? ⟨g3, 2, none⟩ = false := HA3.out.frozen 2
        have zf3 : w3.frozen? ⟨g3, 3, none⟩ = false := HA3.out.frozen 3
        have zf4 : w3.frozen? ⟨g3, 4, none⟩ = false := HA3.out.frozen 4
        have zq : g3 < w3.heap.size := HA3.out.lt
        refine hK.out _ _ ?_ (fun hHeld2 => ?_)
        · exact ⟨(F3.out.cell HQ.out fun h => h).trans HC0.out, (F3.out.cell HQ.out fun h => h).trans HC4.out, (F3.out.cell HQ.out fun h => h).trans HC5.out, Nat.lt_of_lt_of_le HQ.out F3.out.size⟩
        clear hK K hHeld
        have hHeld := hHeld2
        clear hHeld2
        try simp only [Act.put, lq4, lq5, lq6]
        refine tk (i := 14) (v := ?_) (by simp only [lq1, lq2, lq3]; rfl) (by kernel_rfl) (by intro _ _ _ h; exact h) (by rfl) (by assumption) ?_ ?_; rotate_left
        · (intro w hSw; (try dsimp only at hSw); go_simp; try (with_reducible rfl))
        try simp only [Act.put, lq4, lq5, lq6]
        refine wpAnyH_ready (rs := [16]) (by kernel_rfl) (by simp) ?_
        refine AllReadyH.cons rfl (fun K hK => ?_) AllReadyH.nil
        · go_simp
          have fS : Fr (fun i => i = g3) w3 (((((w3.setCell ⟨g3, 0, none⟩ (.slice B m.par.length cB)).setCell ⟨g3, 1, none⟩ (.slice none 0 0)).setCell ⟨g3, 2, none⟩ (.slice none 0 0)).setCell ⟨g3, 3, none⟩ (.int .i64 m.last)).setCell ⟨g3, 4, none⟩ (.slice E m.made.length cE)) := by
           repeat (first | with_reducible exact Fr.refl _ w3 | with_reducible refine Fr.set ?_ (by simp) _)
          have hb5 : Blk (((((w3.setCell ⟨g3, 0, none⟩ (.slice B m.par.length cB)).setCell ⟨g3, 1, none⟩ (.slice none 0 0)).setCell ⟨g3, 2, none⟩ (.slice none 0 0)).setCell ⟨g3, 3, none⟩ (.int .i64 m.last)).setCell ⟨g3, 4, none⟩ (.slice E m.made.length cE)) g3 71 #[.slice B m.par.length cB, .slice none 0 0, .slice none 0 0, .int .i64 m.last, .slice E m.made.length cE] := by
           have := (Blk.set_ (Blk.set_ (Blk.set_ (Blk.set_ (Blk.set_ HA3.out 0 (.slice B m.par.length cB)) 1 (.slice none 0 0)) 2 (.slice none 0 0)) 3 (.int .i64 m.last)) 4 (.slice E m.made.length cE))
           simpa using this
          have hB5 := owns_fr HB3.out fS (fun q hq hh => by
           have h2 : q = g3 := hh
           obtain ⟨cs, hb⟩ := owns_typed HB3.out hq
           exact Blk.ne_ hb HA3.out (by decide) h2)
          have hE5 := owns_fr HE.out fS (fun q hq hh => by
           have h2 : q = g3 := hh
           obtain ⟨cs, hb⟩ := owns_typed HE.out hq
           exact Blk.ne_ hb HA3.out (by decide) h2)
          have hR5 := HR3.out.fr fS (fun hh => by have := HG3.out; omega)
          have hF5 := F3.out.trans' fS fun i hi hh => by have h2 : i = g3 := hh; have := HG3.out; omega
          have HB5 := hide (owns_mono (base' := W.heap.size) hB5 (by exact HBB.out))
          have HE5 := hide (owns_mono (base' := W.heap.size) hE5 (by exact HBE.out))
          have HR5 := hide hR5
          have HF5 := hide hF5
          have HBL := hide hb5
          clear fS hb5 hB5 hE5 hR5 hF5 z0 zf0 z1 zf1 z2 zf2 z3 zf3 z4 zf4 zq
          generalize World.setCell (World.setCell (World.setCell (World.setCell (World.setCell w3 _ _) _ _) _ _) _ _) _ _ = w4 at *
          refine hK.out _ _ ?_ (fun hHeld2 => ?_)
          · exact ⟨(HF5.out.cell HQ.out fun h => h).trans HC0.out, (HF5.out.cell HQ.out fun h => h).trans HC4.out, (HF5.out.cell HQ.out fun h => h).trans HC5.out, Nat.lt_of_lt_of_le HQ.out HF5.out.size⟩
          clear hK K hHeld
          have hHeld := hHeld2
          clear hHeld2
          try simp only [Act.put, lq4, lq5, lq6]
          refine wpAnyH_done (by kernel_rfl) ?_ _
          clear hHeld
          go_wp2_with fail
          go_meet
          case rel => exact ⟨g3, B, cB, E, cE, rfl, HG3.out, HBL.out, HB5.out, HE5.out, HR5.out, HF5.out⟩
 case rest =>
  obtain ⟨g3, B, cB, E, cE, rfl, hg3, hbl, hB, hE, hR, hF⟩ := hcut
  have hti : TI m W g3 B cB E cE [] none 0 [] none 0 wc := ⟨hF, hbl, hB, World.ownsRow_nil _ _ _ _, World.ownsRow_nil _ _ _ _, hE, by simp, by simp [Value.ownBlock], hR, hg3⟩
  have HTI0 := hide hti
  have hokc := HOK.out.no hF
  have hz : 0 < m.cut.length := by have := hokc.sides; omega
  obtain ⟨gc, cc', hA2, hgc0, hgc1⟩ := HOK.out.cut.form hz
  simp only [Value.slice.injEq, true_and] at hA2
  have hgl := (owns_lt HOK.out.cut gc (by rw [hA2.1]; rfl)).2
  have HCC := hide fun (w' : World) (f : Fr No W w') (j : Nat) (b : Bool) (hb : m.cut[j]? = some b) => (show w'.cell? ⟨gc, j, none⟩ = some (.bool b) from (f.cell hgl fun h => h).trans (by
   have := World.ownsRow.cells HOK.out.cut (g := gc) (by rw [hA2.1]; rfl) j (.bool b) (by simp [hb])
   rwa [add_at, Nat.zero_add] at this))
  have HGL := hide hgl
  have HN := hide hz
  obtain ⟨i0, hi0, hz0, hz1, hz2⟩ := info_parts infoInt
  have c1 : wc.cell? ⟨m.wb, 1, none⟩ = some (.slice m.C m.cut.length m.cc) := hokc.blk.cell 1
  rw [hA2.1, hA2.2] at c1
  have q1 := hokc.blk.lt
  obtain ⟨nc, hnc⟩ : ∃ n, m.cut.length = n := ⟨_, rfl⟩
  have hn16 : nc ≤ 16 := by have := hokc.sides; omega
  rw [hnc] at c1
  have HNC := hide hnc
  clear hti hokc hz hA2 hgc0 hgc1 hgl hg3 hbl hB hE hR hF HCS HCI HC0 HC4 HC5 HS0 HS4 HS5 HSQ F0 HR0 HR00 HF0 hnc
  go_wp2_with fail
  go_loopw [31] (fun i wr => ∃ (j : Nat) (C : Option Addr) (cC : Nat), j ≤ nc ∧ i = .int .i64 j ∧ TI m W g3 B cB E cE (cutIdx (m.cut.take j)) C cC [] none 0 wr) (fun i _ => nc - (intOf i).toNat)
  case atStart => exact ⟨0, none, 0, Nat.zero_le _, rfl, HTI0.out⟩
  case round =>
   clear c1 q1 HTI0
   obtain ⟨j, C, cC, hj, rfl, inv⟩ := hrel
   by_cases hlt : j < nc
   · obtain ⟨b, hb⟩ : ∃ b, m.cut[j]? = some b := ⟨_, List.getElem?_eq_getElem (by rw [HNC.out]; exact hlt)⟩
     have hcb := HCC.out wr inv.fr j b hb
     have hgl := Nat.lt_of_lt_of_le HGL.out inv.fr.size
     have hst := cutIdx_step hb
     have hkl : (cutIdx (m.cut.take j)).length ≤ 1000000 := Nat.le_trans (cutIdx_len _) (by rw [List.length_take]; omega)
     have HLT := hide hlt
     cases b with
     | false =>
      simp only [Bool.false_eq_true, if_false, List.append_nil] at hst
      have HST := hide hst
      have HINV := hide inv
      clear hst inv hkl hb hj
      go_wp2_with fail
      go_roundw
      case rel => exact ⟨j + 1, C, cC, HLT.out, by go_num, by rw [HST.out]; exact HINV.out⟩
      case measure =>
       have := HLT.out
       simp [intOf] <;> omega
     | true =>
      simp only [if_true] at hst
      have HST := hide hst
      have x1 : wr.cell? ⟨g3, 1, none⟩ = some (.slice C (cutIdx (m.cut.take j)).length cC) := inv.blk.cell 1
      have xq := inv.blk.lt
      have hfa := (Fr.refl No wr).alloc (.cells #[.int .i64 (j : Int)] 3)
      have HA := hide ((Blk.new wr 3 #[.int .i64 (j : Int)]).cell 0)
      have HROW := hide (owns_fr inv.rC hfa fun _ _ h => h)
      have HSZ := hide (Nat.le_trans inv.fr.size hfa.size)
      have HZ := hide fun (w' : World) (hgr : (wr.alloc (.cells #[.int .i64 (j : Int)] 3)).grownBy w' (Value.slice C (cutIdx (m.cut.take j)).length cC).ownBlock) => inv.grownC hgr
      have HINV := hide inv
      have HKL := hide hkl
      clear hst inv hkl hb hj hfa
      generalize cutIdx (m.cut.take j) = K at *
      go_wp2_with (at_builtin; refine wpList_app1 _ (by rfl) _ _ 36 3 (by rfl) Tryz.underlying36 i0 _ 8 hi0 hz0 hz1 hz2 (by rfl) (by omega) W.heap.size wr.heap.size (.slice C K.length cC) K.length (refRow K) (.int .i64 (j : Int)) (by rfl) (by rfl) (by rfl) HROW.out HA.out HKL.out HSZ.out ?_; intro g2 n2 w' hown' hgr hat'; obtain ⟨z1, zf1, zq1⟩ := HZ.out w' hgr; have HOW := hide hown'; have HGR := hide hgr; have HAT := hide hat'; clear hown' hgr hat')
      have hti' := HINV.out.addC HOW.out HGR.out (by rcases HAT.out with h | h; exact .inl h.symm; exact .inr (by rw [h]; simp [Value.ownBlock]))
      have HTI' := hide hti'
      clear hti' z1 zf1 zq1
      go_roundw
      case rel => exact ⟨j + 1, _, _, HLT.out, by go_num, by rw [HST.out]; exact HTI'.out⟩
      case measure =>
       have := HLT.out
       simp [intOf] <;> omega
   · obtain rfl : nc = j := by omega
     rw [← HNC.out, List.take_length] at inv
     have HINV := hide inv
     have HREF := hide (refs_g (HOK.out.no inv.fr) HSORT)
     clear inv hlt hj
     go_wp2_with fail
     refine HREF.out.mono ?_
     rintro e w5 ⟨v5, rfl, hrow5, f5⟩
     obtain ⟨RA, rc, rfl⟩ := owns_form hrow5
     have HINV5 := hide (HINV.out.no f5)
     have HRR5 := hide (owns_mono (base' := W.heap.size) hrow5 HINV.out.fr.size)
     have hrl : m.refs.length ≤ 1000000 := by rw [Gm.refs_length]; exact HOK.out.len
     clear hrow5 f5
     obtain ⟨wo, rfl⟩ : ∃ wo : World, wo = wr := ⟨_, rfl⟩
     obtain ⟨nr, hnr⟩ : ∃ n, m.refs.length = n := ⟨_, rfl⟩
     rw [hnr] at hrl
     have HNR := hide hnr
     have hRR := HRR5.out
     rw [hnr] at hRR
     have HRR6 := hide hRR
     rw [hnr]
     clear hnr HRR5 hRR HREF HINV
     go_wp2_with fail
     go_loopw [47] (fun i wr => ∃ (j : Nat) (L : List (Int × Tg)) (TA : Option Addr) (tc : Nat), j ≤ nr ∧ i = .int .i64 j ∧ Told m L j ∧ TI m W g3 B cB E cE (cutIdx m.cut) C cC L TA tc wr ∧ wr.ownsRow W.heap.size 22 1 (.slice RA nr rc) nr (refRow m.refs)) (fun i _ => nr - (intOf i).toNat)
     case atStart => exact ⟨0, [], none, 0, Nat.zero_le _, rfl, ⟨rfl, by simp⟩, HINV5.out, HRR6.out⟩
     case round =>
      clear HINV5 HRR6
      obtain ⟨j, L, TA, tc, hj, rfl, htold, inv, hrr⟩ := hrel
      by_cases hlt : j < nr
      · obtain ⟨rj, hrj⟩ : ∃ r, m.refs[j]? = some r := ⟨_, List.getElem?_eq_getElem (by rw [HNR.out]; exact hlt)⟩
        obtain ⟨z, hget⟩ := Gm.refs_get HOK.out.keys hrj
        obtain ⟨gR, cR, hRA, hgR0, hgR1⟩ := hrr.form (by omega)
        simp only [Value.slice.injEq, true_and] at hRA
        obtain ⟨rfl, rfl⟩ := hRA
        have hxr : wr.cell? ⟨gR, j, none⟩ = some (.int .i64 rj) := by
         have := World.ownsRow.cells hrr (g := gR) rfl j (.int .i64 rj) (by simp [refRow, hrj])
         rwa [add_at, Nat.zero_add] at this
        have hgl := (owns_lt hrr gR rfl).2
        have hll : L.length ≤ 1000000 := by
         have := congrArg List.length htold.nums
         rw [List.length_map, List.length_take] at this
         omega
        have hmem := Gm.get_mem hget
        have hmay := HMAY.out _ hmem
        have hbxW := HOK.out.box _ hmem
        have hinn := (HOK.out.st _ hmem).inn
        have HJ := hide hlt
        have HLL := hide hll
        have HTJ := hide htold
        have HTIJ := hide inv
        have HRR := hide hrr
        have HRJ := hide hrj
        have HGET := hide hget
        have hlk := fun w' (f : Fr No W w') => gook_thing (HOK.out.no f) rj
        rw [hget] at hlk
        simp only [Option.map_some] at hlk
        have hm2 := fun w' (f : Fr No W w') => gmap_cell (HOK.out.no f)
        have hwl := HOK.out.blk.lt
        obtain ⟨bx, kind, home, ⟨k1, n1, s1, A1, cap1, l1, r1⟩, VA, vc, vs, n2, lost, ofr, byr, set, full, CA2, cc2, code, NA, nc, names⟩ := z
        have HOW := hide fun w' (f : Fr No wr w') => (show Calls Tryz.prog 150 #[.agg #[.int .u8 kind, .int .i64 home, .int .u8 k1, .int .i64 n1, .string s1, .slice A1 l1.length cap1, .int .i64 r1, .slice VA vs.length vc, .int .i64 n2, .int .i64 lost, .int .i64 ofr, .int .i64 byr, .int .u8 set, .bool full, .slice CA2 code.length cc2, .slice NA names.length nc]] w' (OwnWP ⟨kind, home, T.mk k1 n1 s1 A1 cap1 l1 r1, VA, vc, vs, n2, lost, ofr, byr, set, full, CA2, cc2, code, NA, nc, names⟩ w') from ownWhat_any ⟨kind, home, T.mk k1 n1 s1 A1 cap1 l1 r1, VA, vc, vs, n2, lost, ofr, byr, set, full, CA2, cc2, code, NA, nc, names⟩ w' lo W.heap.size (hinn.no (inv.fr.trans f) (Nat.le_refl _)) (inv.fr.trans f).size hmay.v hmay.vs hmay.nm)
        have hbx : Blk W bx 138 #[.int .u8 kind, .int .i64 home, .int .u8 k1, .int .i64 n1, .string s1, .slice A1 l1.length cap1, .int .i64 r1, .slice VA vs.length vc, .int .i64 n2, .int .i64 lost, .int .i64 ofr, .int .i64 byr, .int .u8 set, .bool full, .slice CA2 code.length cc2, .slice NA names.length nc] := hbxW
        have hbq := hbx.lt
        have HS13 := hide fun (w' : World) (f : Fr No W w') (hq : g3 < w'.heap.size) => (show (fun w' => w'.cell? ⟨m.wb, 2, none⟩ = some (.map (some m.M)) ∧ (Instr.lookup 34 (.map (some m.M)) (.int .i64 rj) false).run Tryz.prog w' = .ok (.pointer (some ⟨bx, 0, none⟩)) w' ∧ w'.cell? ⟨bx, 0, none⟩ = some (.int .u8 kind) ∧ w'.cell? ⟨bx, 1, none⟩ = some (.int .i64 home) ∧ w'.cell? ⟨bx, 2, none⟩ = some (.int .u8 k1) ∧ w'.cell? ⟨bx, 3, none⟩ = some (.int .i64 n1) ∧ w'.cell? ⟨bx, 4, none⟩ = some (.string s1) ∧ w'.cell? ⟨bx, 5, none⟩ = some (.slice A1 l1.length cap1) ∧ w'.cell? ⟨bx, 6, none⟩ = some (.int .i64 r1) ∧ w'.cell? ⟨bx, 7, none⟩ = some (.slice VA vs.length vc) ∧ w'.cell? ⟨bx, 8, none⟩ = some (.int .i64 n2) ∧ w'.cell? ⟨bx, 9, none⟩ = some (.int .i64 lost) ∧ w'.cell? ⟨bx, 10, none⟩ = some (.int .i64 ofr) ∧ w'.cell? ⟨bx, 11, none⟩ = some (.int .i64 byr) ∧ w'.cell? ⟨bx, 12, none⟩ = some (.int .u8 set) ∧ w'.cell? ⟨bx, 13, none⟩ = some (.bool full) ∧ w'.cell? ⟨bx, 14, none⟩ = some (.slice CA2 code.length cc2) ∧ w'.cell? ⟨bx, 15, none⟩ = some (.slice NA names.length nc) ∧ m.wb < w'.heap.size ∧ bx < w'.heap.size ∧ g3 < w'.heap.size) w' from by
         have hb := hbx.fr f fun h => h
         exact ⟨hm2 w' f, hlk w' f, hb.cell 0, hb.cell 1, hb.cell 2, hb.cell 3, hb.cell 4, hb.cell 5, hb.cell 6, hb.cell 7, hb.cell 8, hb.cell 9, hb.cell 10, hb.cell 11, hb.cell 12, hb.cell 13, hb.cell 14, hb.cell 15, Nat.lt_of_lt_of_le hwl f.size, hb.lt, hq⟩)
        clear hlk hm2 hbx hbxW hinn hmay hmem hget hrj htold hll hj
        go_upto_region 13 with (fail)
        have z2 : wr.cell? ⟨g3, 2, none⟩ = some (.slice TA L.length tc) := inv.blk.cell 2
        clear inv hrr hxr hgl hwl hbq
        refine wp_region_held_drew (S := fun w' => w'.cell? ⟨m.wb, 2, none⟩ = some (.map (some m.M)) ∧ (Instr.lookup 34 (.map (some m.M)) (.int .i64 rj) false).run Tryz.prog w' = .ok (.pointer (some ⟨bx, 0, none⟩)) w' ∧ w'.cell? ⟨bx, 0, none⟩ = some (.int .u8 kind) ∧ w'.cell? ⟨bx, 1, none⟩ = some (.int .i64 home) ∧ w'.cell? ⟨bx, 2, none⟩ = some (.int .u8 k1) ∧ w'.cell? ⟨bx, 3, none⟩ = some (.int .i64 n1) ∧ w'.cell? ⟨bx, 4, none⟩ = some (.string s1) ∧ w'.cell? ⟨bx, 5, none⟩ = some (.slice A1 l1.length cap1) ∧ w'.cell? ⟨bx, 6, none⟩ = some (.int .i64 r1) ∧ w'.cell? ⟨bx, 7, none⟩ = some (.slice VA vs.length vc) ∧ w'.cell? ⟨bx, 8, none⟩ = some (.int .i64 n2) ∧ w'.cell? ⟨bx, 9, none⟩ = some (.int .i64 lost) ∧ w'.cell? ⟨bx, 10, none⟩ = some (.int .i64 ofr) ∧ w'.cell? ⟨bx, 11, none⟩ = some (.int .i64 byr) ∧ w'.cell? ⟨bx, 12, none⟩ = some (.int .u8 set) ∧ w'.cell? ⟨bx, 13, none⟩ = some (.bool full) ∧ w'.cell? ⟨bx, 14, none⟩ = some (.slice CA2 code.length cc2) ∧ w'.cell? ⟨bx, 15, none⟩ = some (.slice NA names.length nc) ∧ m.wb < w'.heap.size ∧ bx < w'.heap.size ∧ g3 < w'.heap.size) (by kernel_rfl) ?_ (fun hHeld => ?_)
        · exact HS13.out _ (HTIJ.out.fr.trans ((Fr.refl No wr).drew)) HTIJ.out.blk.lt
        refine tk (i := 0) (v := ?_) (by simp only [lq1, lq3]; rfl) (by kernel_rfl) (by intro _ _ _ h; exact h) (by rfl) (by assumption) ?_ ?_; rotate_left
        · (intro w hSw; (try dsimp only at hSw); go_simp; try (with_reducible rfl))
        try simp only [Act.put, lq4, lq5, lq6]
        refine tk (i := 2) (v := ?_) (by simp only [lq1, lq2, lq3]; rfl) (by kernel_rfl) (by intro _ _ _ h; exact h) (by rfl) (by assumption) ?_ ?_; rotate_left
        · (intro w hSw; (try dsimp only at hSw); go_simp; try (with_reducible rfl))
        try simp only [Act.put, lq4, lq5, lq6]
        refine tk (i := 3) (v := ?_) (by simp only [lq1, lq2, lq3]; rfl) (by kernel_rfl) (by intro _ _ _ h; exact h) (by rfl) (by assumption) ?_ ?_; rotate_left
        · (intro w hSw; (try dsimp only at hSw); go_simp; try (with_reducible rfl))
        try simp only [Act.put, lq4, lq5, lq6]
        refine tk (i := 4) (v := ?_) (by simp only [lq1, lq2, lq3]; rfl) (by kernel_rfl) (by intro _ _ _ h; exact h) (by rfl) (by assumption) ?_ ?_; rotate_left
        · (intro w hSw; (try dsimp only at hSw); go_simp; try (with_reducible rfl))
        try simp only [Act.put, lq4, lq5, lq6]
        refine tk (i := 5) (v := ?_) (by simp only [lq1, lq2, lq3]; rfl) (by kernel_rfl) (by intro _ _ _ h; exact h) (by rfl) (by assumption) ?_ ?_; rotate_left
        · (intro w hSw; (try dsimp only at hSw); go_simp; try (with_reducible rfl))
        try simp only [Act.put, lq4, lq5, lq6]
        refine tk (i := 6) (v := ?_) (by simp only [lq1, lq2, lq3]; rfl) (by kernel_rfl) (by intro _ _ _ h; exact h) (by rfl) (by assumption) ?_ ?_; rotate_left
        · (intro w hSw; (try dsimp only at hSw); go_simp; try (with_reducible rfl))
        try simp only [Act.put, lq4, lq5, lq6]
        refine tk (i := 7) (v := ?_) (by simp only [lq1, lq2, lq3]; rfl) (by kernel_rfl) (by intro _ _ _ h; exact h) (by rfl) (by assumption) ?_ ?_; rotate_left
        · (intro w hSw; (try dsimp only at hSw); go_simp; try (with_reducible rfl))
        try simp only [Act.put, lq4, lq5, lq6]
        refine tk (i := 8) (v := ?_) (by simp only [lq1, lq2, lq3]; rfl) (by kernel_rfl) (by intro _ _ _ h; exact h) (by rfl) (by assumption) ?_ ?_; rotate_left
        · (intro w hSw; (try dsimp only at hSw); go_simp; try (with_reducible rfl))
        try simp only [Act.put, lq4, lq5, lq6]
        refine tk (i := 9) (v := ?_) (by simp only [lq1, lq2, lq3]; rfl) (by kernel_rfl) (by intro _ _ _ h; exact h) (by rfl) (by assumption) ?_ ?_; rotate_left
        · (intro w hSw; (try dsimp only at hSw); go_simp; try (with_reducible rfl))
        try simp only [Act.put, lq4, lq5, lq6]
        refine tk (i := 10) (v := ?_) (by simp only [lq1, lq2, lq3]; rfl) (by kernel_rfl) (by intro _ _ _ h; exact h) (by rfl) (by assumption) ?_ ?_; rotate_left
        · (intro w hSw; (try dsimp only at hSw); go_simp; try (with_reducible rfl))
        try simp only [Act.put, lq4, lq5, lq6]
        refine wpAnyH_ready (rs := [1, 11]) (by kernel_rfl) (by simp) ?_
        refine AllReadyH.cons rfl (fun K hK => ?_) (AllReadyH.cons rfl (fun K hK => ?_) AllReadyH.nil)
        · go_simp
          clear z2
          refine hK.out _ _ ?_ (fun hHeld2 => ?_)
          · exact HS13.out _ (HTIJ.out.fr.trans ((Fr.refl No wr).drew)) (Nat.lt_of_lt_of_le HTIJ.out.blk.lt (((Fr.refl No wr).drew)).size)
          clear hK K hHeld
          have hHeld := hHeld2
          clear hHeld2
          try simp only [Act.put, lq4, lq5, lq6]
          refine wpAnyH_ready (rs := [11]) (by kernel_rfl) (by simp) ?_
          refine AllReadyH.cons rfl (fun K hK => ?_) AllReadyH.nil
          · go_simp
            go_at_call 150
            refine (HOW.out _ ((Fr.refl No wr).drew)).mono ?_
            rintro e w6 ⟨⟨ykind, yhome, ⟨yk1, yn1, ys1, yA1, ycap1, yl1, yr1⟩, yVA, yvc, yvs, yn2, ylost, yofr, ybyr, yset, yfull, yCA2, ycc2, ycode, yNA, ync, ynames⟩, rfl, hnum, hv1, hv2, hv3, hv4, hst6, f6⟩
            have hyv : Tg.val ⟨ykind, yhome, T.mk yk1 yn1 ys1 yA1 ycap1 yl1 yr1, yVA, yvc, yvs, yn2, ylost, yofr, ybyr, yset, yfull, yCA2, ycc2, ycode, yNA, ync, ynames⟩ = .agg #[.int .u8 ykind, .int .i64 yhome, .int .u8 yk1, .int .i64 yn1, .string ys1, .slice yA1 yl1.length ycap1, .int .i64 yr1, .slice yVA yvs.length yvc, .int .i64 yn2, .int .i64 ylost, .int .i64 yofr, .int .i64 ybyr, .int .u8 yset, .bool yfull, .slice yCA2 ycode.length ycc2, .slice yNA ynames.length ync] := rfl
            rw [hyv]
            have HYP := hide (own_pl hnum hv1 hv2 hv3 hv4)
            have HF6 := hide (((Fr.refl No wr).drew).trans f6)
            have HST6 := hide (hst6.more (Nat.le_trans HTIJ.out.fr.size ((Fr.refl No wr).drew).size))
            clear hyv hnum hv1 hv2 hv3 hv4 hst6 f6
            refine hK.out _ _ ?_ (fun hHeld2 => ?_)
            · exact HS13.out _ (HTIJ.out.fr.trans HF6.out) (Nat.lt_of_lt_of_le HTIJ.out.blk.lt (HF6.out).size)
            clear hK K hHeld
            have hHeld := hHeld2
            clear hHeld2
            try simp only [Act.put, lq4, lq5, lq6]
            refine tk (i := 12) (v := ?_) (by simp only [lq1, lq2, lq3]; rfl) (by kernel_rfl) (by intro _ _ _ h; exact h) (by rfl) (by assumption) ?_ ?_; rotate_left
            · (intro w hSw; (try dsimp only at hSw); go_simp; try (with_reducible rfl))
            try simp only [Act.put, lq4, lq5, lq6]
            refine wpAnyH_ready (rs := [13]) (by kernel_rfl) (by simp) ?_
            refine AllReadyH.cons rfl (fun K hK => ?_) AllReadyH.nil
            · go_simp
              have HF7 := hide (HF6.out.alloc (.cells #[.int .i64 rj, .int .u8 ykind, .int .i64 yhome, .int .u8 yk1, .int .i64 yn1, .string ys1, .slice yA1 yl1.length ycap1, .int .i64 yr1, .slice yVA yvs.length yvc, .int .i64 yn2, .int .i64 ylost, .int .i64 yofr, .int .i64 ybyr, .int .u8 yset, .bool yfull, .slice yCA2 ycode.length ycc2, .slice yNA ynames.length ync] 140))
              have HBE := hide (ent_cells (rj, ⟨ykind, yhome, T.mk yk1 yn1 ys1 yA1 ycap1 yl1 yr1, yVA, yvc, yvs, yn2, ylost, yofr, ybyr, yset, yfull, yCA2, ycc2, ycode, yNA, ync, ynames⟩) (show Blk (World.alloc w6 (.cells #[.int .i64 rj, .int .u8 ykind, .int .i64 yhome, .int .u8 yk1, .int .i64 yn1, .string ys1, .slice yA1 yl1.length ycap1, .int .i64 yr1, .slice yVA yvs.length yvc, .int .i64 yn2, .int .i64 ylost, .int .i64 yofr, .int .i64 ybyr, .int .u8 yset, .bool yfull, .slice yCA2 ycode.length ycc2, .slice yNA ynames.length ync] 140)) w6.heap.size 140 (entC (rj, ⟨ykind, yhome, T.mk yk1 yn1 ys1 yA1 ycap1 yl1 yr1, yVA, yvc, yvs, yn2, ylost, yofr, ybyr, yset, yfull, yCA2, ycc2, ycode, yNA, ync, ynames⟩)).toArray from Blk.new w6 140 #[.int .i64 rj, .int .u8 ykind, .int .i64 yhome, .int .u8 yk1, .int .i64 yn1, .string ys1, .slice yA1 yl1.length ycap1, .int .i64 yr1, .slice yVA yvs.length yvc, .int .i64 yn2, .int .i64 ylost, .int .i64 yofr, .int .i64 ybyr, .int .u8 yset, .bool yfull, .slice yCA2 ycode.length ycc2, .slice yNA ynames.length ync]))
              have HST7 := hide (HST6.out.fr ((Fr.refl No w6).alloc (.cells #[.int .i64 rj, .int .u8 ykind, .int .i64 yhome, .int .u8 yk1, .int .i64 yn1, .string ys1, .slice yA1 yl1.length ycap1, .int .i64 yr1, .slice yVA yvs.length yvc, .int .i64 yn2, .int .i64 ylost, .int .i64 yofr, .int .i64 ybyr, .int .u8 yset, .bool yfull, .slice yCA2 ycode.length ycc2, .slice yNA ynames.length ync] 140)) fun _ _ h => h)
              generalize hg7 : w6.heap.size = g7 at *
              generalize World.alloc w6 _ = w7 at *
              refine hK.out _ _ ?_ (fun hHeld2 => ?_)
              · exact HS13.out _ (HTIJ.out.fr.trans HF7.out) (Nat.lt_of_lt_of_le HTIJ.out.blk.lt (HF7.out).size)
              clear hK K hHeld
              have hHeld := hHeld2
              clear hHeld2
              try simp only [Act.put, lq4, lq5, lq6]
              refine wpAnyH_ready (rs := [14]) (by kernel_rfl) (by simp) ?_
              refine AllReadyH.cons rfl (fun K hK => ?_) AllReadyH.nil
              · refine step_app_ent (by rfl) _ _ (by rfl) W.heap.size g7 (.slice TA L.length tc) L (rj, ⟨ykind, yhome, T.mk yk1 yn1 ys1 yA1 ycap1 yl1 yr1, yVA, yvc, yvs, yn2, ylost, yofr, ybyr, yset, yfull, yCA2, ycc2, ycode, yNA, ync, ynames⟩) (by rfl) (by rfl) (HTIJ.out.no HF7.out).rT HBE.out HLL.out (HTIJ.out.no HF7.out).fr.size ?_
                intro A8 c8 w8 hown hgr
                obtain ⟨z8, zf8, zq8, hfw8⟩ := HTIJ.out.grown HF7.out hgr
                have HW8 := hide hfw8
                have hs8 := HS13.out w8 hfw8 zq8
                have HS8 := hide hs8
                clear hs8 hfw8
                have HOWN := hide hown
                have HGR := hide hgr
                clear hown hgr
                refine hK.out _ _ ?_ (fun hHeld2 => ?_)
                · exact HS8.out
                clear hK K hHeld
                have hHeld := hHeld2
                clear hHeld2
                try simp only [Act.put, lq4]
                refine tk (i := 15) (v := ?_) (by simp only [lq1, lq2, lq3]; rfl) (by kernel_rfl) (by intro _ _ _ h; exact h) (by rfl) (by assumption) ?_ ?_; rotate_left
                · (intro w hSw; (try dsimp only at hSw); go_simp; try (with_reducible rfl))
                try simp only [Act.put]
                refine wpAnyH_ready (rs := [16]) (by kernel_rfl) (by simp) ?_
                refine AllReadyH.cons rfl (fun K hK => ?_) AllReadyH.nil
                · go_simp
                  refine hK.out _ _ ?_ (fun hHeld2 => ?_)
                  · exact HS13.out _ (HW8.out.trans' ((Fr.refl (fun i => i = g3) w8).set (fun _ => rfl) _) (fun i hi e => by have e' : i = g3 := e; have := HTIJ.out.g0; omega)) (by simpa using zq8)
                  clear hK K hHeld
                  have hHeld := hHeld2
                  clear hHeld2
                  try simp only [Act.put, lq4, lq5, lq6]
                  refine wpAnyH_done (by kernel_rfl) ?_ _
                  clear hHeld z8 zf8 zq8
                  have htold := HTJ.out.add HRJ.out HGET.out HYP.out
                  have HTOLD := hide htold
                  have HRR8 := hide (HTIJ.out.keepRow HF7.out HGR.out (u := .slice A8 (L.length + 1) c8) HRR.out)
                  clear htold
                  have hti8 := HTIJ.out.addT HF7.out HST7.out HOWN.out HGR.out
                  have HTI8 := hide hti8
                  clear hti8
                  generalize World.setCell w8 _ _ = w9 at *
                  go_wp2_with fail
                  go_roundw
                  case rel => exact ⟨j + 1, _, _, _, HJ.out, by go_num, HTOLD.out, HTI8.out, HRR8.out⟩
                  case measure =>
                   have := HJ.out
                   simp [intOf] <;> omega
        · go_simp
          go_at_call 150
          refine (HOW.out _ ((Fr.refl No wr).drew)).mono ?_
          rintro e w6 ⟨⟨ykind, yhome, ⟨yk1, yn1, ys1, yA1, ycap1, yl1, yr1⟩, yVA, yvc, yvs, yn2, ylost, yofr, ybyr, yset, yfull, yCA2, ycc2, ycode, yNA, ync, ynames⟩, rfl, hnum, hv1, hv2, hv3, hv4, hst6, f6⟩
          have hyv : Tg.val ⟨ykind, yhome, T.mk yk1 yn1 ys1 yA1 ycap1 yl1 yr1, yVA, yvc, yvs, yn2, ylost, yofr, ybyr, yset, yfull, yCA2, ycc2, ycode, yNA, ync, ynames⟩ = .agg #[.int .u8 ykind, .int .i64 yhome, .int .u8 yk1, .int .i64 yn1, .string ys1, .slice yA1 yl1.length ycap1, .int .i64 yr1, .slice yVA yvs.length yvc, .int .i64 yn2, .int .i64 ylost, .int .i64 yofr, .int .i64 ybyr, .int .u8 yset, .bool yfull, .slice yCA2 ycode.length ycc2, .slice yNA ynames.length ync] := rfl
          rw [hyv]
          have HYP := hide (own_pl hnum hv1 hv2 hv3 hv4)
          have HF6 := hide (((Fr.refl No wr).drew).trans f6)
          have HST6 := hide (hst6.more (Nat.le_trans HTIJ.out.fr.size ((Fr.refl No wr).drew).size))
          clear hyv hnum hv1 hv2 hv3 hv4 hst6 f6
          clear z2
          have z2 : w6.cell? ⟨g3, 2, none⟩ = some (.slice TA L.length tc) := (HTIJ.out.no HF6.out).blk.cell 2
          refine hK.out _ _ ?_ (fun hHeld2 => ?_)
          · exact HS13.out _ (HTIJ.out.fr.trans HF6.out) (Nat.lt_of_lt_of_le HTIJ.out.blk.lt (HF6.out).size)
          clear hK K hHeld
          have hHeld := hHeld2
          clear hHeld2
          try simp only [Act.put, lq4, lq5, lq6]
          refine tk (i := 12) (v := ?_) (by simp only [lq1, lq2, lq3]; rfl) (by kernel_rfl) (by intro _ _ _ h; exact h) (by rfl) (by assumption) ?_ ?_; rotate_left
          · (intro w hSw; (try dsimp only at hSw); go_simp; try (with_reducible rfl))
          try simp only [Act.put, lq4, lq5, lq6]
          refine wpAnyH_ready (rs := [1, 13]) (by kernel_rfl) (by simp) ?_
          refine AllReadyH.cons rfl (fun K hK => ?_) (AllReadyH.cons rfl (fun K hK => ?_) AllReadyH.nil)
          · go_simp
            clear z2
            refine hK.out _ _ ?_ (fun hHeld2 => ?_)
            · exact HS13.out _ (HTIJ.out.fr.trans HF6.out) (Nat.lt_of_lt_of_le HTIJ.out.blk.lt (HF6.out).size)
            clear hK K hHeld
            have hHeld := hHeld2
            clear hHeld2
            try simp only [Act.put, lq4, lq5, lq6]
            refine wpAnyH_ready (rs := [13]) (by kernel_rfl) (by simp) ?_
            refine AllReadyH.cons rfl (fun K hK => ?_) AllReadyH.nil
            · go_simp
              have HF7 := hide (HF6.out.alloc (.cells #[.int .i64 rj, .int .u8 ykind, .int .i64 yhome, .int .u8 yk1, .int .i64 yn1, .string ys1, .slice yA1 yl1.length ycap1, .int .i64 yr1, .slice yVA yvs.length yvc, .int .i64 yn2, .int .i64 ylost, .int .i64 yofr, .int .i64 ybyr, .int .u8 yset, .bool yfull, .slice yCA2 ycode.length ycc2, .slice yNA ynames.length ync] 140))
              have HBE := hide (ent_cells (rj, ⟨ykind, yhome, T.mk yk1 yn1 ys1 yA1 ycap1 yl1 yr1, yVA, yvc, yvs, yn2, ylost, yofr, ybyr, yset, yfull, yCA2, ycc2, ycode, yNA, ync, ynames⟩) (show Blk (World.alloc w6 (.cells #[.int .i64 rj, .int .u8 ykind, .int .i64 yhome, .int .u8 yk1, .int .i64 yn1, .string ys1, .slice yA1 yl1.length ycap1, .int .i64 yr1, .slice yVA yvs.length yvc, .int .i64 yn2, .int .i64 ylost, .int .i64 yofr, .int .i64 ybyr, .int .u8 yset, .bool yfull, .slice yCA2 ycode.length ycc2, .slice yNA ynames.length ync] 140)) w6.heap.size 140 (entC (rj, ⟨ykind, yhome, T.mk yk1 yn1 ys1 yA1 ycap1 yl1 yr1, yVA, yvc, yvs, yn2, ylost, yofr, ybyr, yset, yfull, yCA2, ycc2, ycode, yNA, ync, ynames⟩)).toArray from Blk.new w6 140 #[.int .i64 rj, .int .u8 ykind, .int .i64 yhome, .int .u8 yk1, .int .i64 yn1, .string ys1, .slice yA1 yl1.length ycap1, .int .i64 yr1, .slice yVA yvs.length yvc, .int .i64 yn2, .int .i64 ylost, .int .i64 yofr, .int .i64 ybyr, .int .u8 yset, .bool yfull, .slice yCA2 ycode.length ycc2, .slice yNA ynames.length ync]))
              have HST7 := hide (HST6.out.fr ((Fr.refl No w6).alloc (.cells #[.int .i64 rj, .int .u8 ykind, .int .i64 yhome, .int .u8 yk1, .int .i64 yn1, .string ys1, .slice yA1 yl1.length ycap1, .int .i64 yr1, .slice yVA yvs.length yvc, .int .i64 yn2, .int .i64 ylost, .int .i64 yofr, .int .i64 ybyr, .int .u8 yset, .bool yfull, .slice yCA2 ycode.length ycc2, .slice yNA ynames.length ync] 140)) fun _ _ h => h)
              generalize hg7 : w6.heap.size = g7 at *
              generalize World.alloc w6 _ = w7 at *
              refine hK.out _ _ ?_ (fun hHeld2 => ?_)
              · exact HS13.out _ (HTIJ.out.fr.trans HF7.out) (Nat.lt_of_lt_of_le HTIJ.out.blk.lt (HF7.out).size)
              clear hK K hHeld
              have hHeld := hHeld2
              clear hHeld2
              try simp only [Act.put, lq4, lq5, lq6]
              refine wpAnyH_ready (rs := [14]) (by kernel_rfl) (by simp) ?_
              refine AllReadyH.cons rfl (fun K hK => ?_) AllReadyH.nil
              · refine step_app_ent (by rfl) _ _ (by rfl) W.heap.size g7 (.slice TA L.length tc) L (rj, ⟨ykind, yhome, T.mk yk1 yn1 ys1 yA1 ycap1 yl1 yr1, yVA, yvc, yvs, yn2, ylost, yofr, ybyr, yset, yfull, yCA2, ycc2, ycode, yNA, ync, ynames⟩) (by rfl) (by rfl) (HTIJ.out.no HF7.out).rT HBE.out HLL.out (HTIJ.out.no HF7.out).fr.size ?_
                intro A8 c8 w8 hown hgr
                obtain ⟨z8, zf8, zq8, hfw8⟩ := HTIJ.out.grown HF7.out hgr
                have HW8 := hide hfw8
                have hs8 := HS13.out w8 hfw8 zq8
                have HS8 := hide hs8
                clear hs8 hfw8
                have HOWN := hide hown
                have HGR := hide hgr
                clear hown hgr
                refine hK.out _ _ ?_ (fun hHeld2 => ?_)
                · exact HS8.out
                clear hK K hHeld
                have hHeld := hHeld2
                clear hHeld2
                try simp only [Act.put, lq4]
                refine tk (i := 15) (v := ?_) (by simp only [lq1, lq2, lq3]; rfl) (by kernel_rfl) (by intro _ _ _ h; exact h) (by rfl) (by assumption) ?_ ?_; rotate_left
                · (intro w hSw; (try dsimp only at hSw); go_simp; try (with_reducible rfl))
                try simp only [Act.put]
                refine wpAnyH_ready (rs := [16]) (by kernel_rfl) (by simp) ?_
                refine AllReadyH.cons rfl (fun K hK => ?_) AllReadyH.nil
                · go_simp
                  refine hK.out _ _ ?_ (fun hHeld2 => ?_)
                  · exact HS13.out _ (HW8.out.trans' ((Fr.refl (fun i => i = g3) w8).set (fun _ => rfl) _) (fun i hi e => by have e' : i = g3 := e; have := HTIJ.out.g0; omega)) (by simpa using zq8)
                  clear hK K hHeld
                  have hHeld := hHeld2
                  clear hHeld2
                  try simp only [Act.put, lq4, lq5, lq6]
                  refine wpAnyH_done (by kernel_rfl) ?_ _
                  clear hHeld z8 zf8 zq8
                  have htold := HTJ.out.add HRJ.out HGET.out HYP.out
                  have HTOLD := hide htold
                  have HRR8 := hide (HTIJ.out.keepRow HF7.out HGR.out (u := .slice A8 (L.length + 1) c8) HRR.out)
                  clear htold
                  have hti8 := HTIJ.out.addT HF7.out HST7.out HOWN.out HGR.out
                  have HTI8 := hide hti8
                  clear hti8
                  generalize World.setCell w8 _ _ = w9 at *
                  go_wp2_with fail
                  go_roundw
                  case rel => exact ⟨j + 1, _, _, _, HJ.out, by go_num, HTOLD.out, HTI8.out, HRR8.out⟩
                  case measure =>
                   have := HJ.out
                   simp [intOf] <;> omega
          · go_simp
            have HF7 := hide (HF6.out.alloc (.cells #[.int .i64 rj, .int .u8 ykind, .int .i64 yhome, .int .u8 yk1, .int .i64 yn1, .string ys1, .slice yA1 yl1.length ycap1, .int .i64 yr1, .slice yVA yvs.length yvc, .int .i64 yn2, .int .i64 ylost, .int .i64 yofr, .int .i64 ybyr, .int .u8 yset, .bool yfull, .slice yCA2 ycode.length ycc2, .slice yNA ynames.length ync] 140))
            have HBE := hide (ent_cells (rj, ⟨ykind, yhome, T.mk yk1 yn1 ys1 yA1 ycap1 yl1 yr1, yVA, yvc, yvs, yn2, ylost, yofr, ybyr, yset, yfull, yCA2, ycc2, ycode, yNA, ync, ynames⟩) (show Blk (World.alloc w6 (.cells #[.int .i64 rj, .int .u8 ykind, .int .i64 yhome, .int .u8 yk1, .int .i64 yn1, .string ys1, .slice yA1 yl1.length ycap1, .int .i64 yr1, .slice yVA yvs.length yvc, .int .i64 yn2, .int .i64 ylost, .int .i64 yofr, .int .i64 ybyr, .int .u8 yset, .bool yfull, .slice yCA2 ycode.length ycc2, .slice yNA ynames.length ync] 140)) w6.heap.size 140 (entC (rj, ⟨ykind, yhome, T.mk yk1 yn1 ys1 yA1 ycap1 yl1 yr1, yVA, yvc, yvs, yn2, ylost, yofr, ybyr, yset, yfull, yCA2, ycc2, ycode, yNA, ync, ynames⟩)).toArray from Blk.new w6 140 #[.int .i64 rj, .int .u8 ykind, .int .i64 yhome, .int .u8 yk1, .int .i64 yn1, .string ys1, .slice yA1 yl1.length ycap1, .int .i64 yr1, .slice yVA yvs.length yvc, .int .i64 yn2, .int .i64 ylost, .int .i64 yofr, .int .i64 ybyr, .int .u8 yset, .bool yfull, .slice yCA2 ycode.length ycc2, .slice yNA ynames.length ync]))
            have HST7 := hide (HST6.out.fr ((Fr.refl No w6).alloc (.cells #[.int .i64 rj, .int .u8 ykind, .int .i64 yhome, .int .u8 yk1, .int .i64 yn1, .string ys1, .slice yA1 yl1.length ycap1, .int .i64 yr1, .slice yVA yvs.length yvc, .int .i64 yn2, .int .i64 ylost, .int .i64 yofr, .int .i64 ybyr, .int .u8 yset, .bool yfull, .slice yCA2 ycode.length ycc2, .slice yNA ynames.length ync] 140)) fun _ _ h => h)
            generalize hg7 : w6.heap.size = g7 at *
            generalize World.alloc w6 _ = w7 at *
            clear z2
            have z2 : w7.cell? ⟨g3, 2, none⟩ = some (.slice TA L.length tc) := (HTIJ.out.no HF7.out).blk.cell 2
            refine hK.out _ _ ?_ (fun hHeld2 => ?_)
            · exact HS13.out _ (HTIJ.out.fr.trans HF7.out) (Nat.lt_of_lt_of_le HTIJ.out.blk.lt (HF7.out).size)
            clear hK K hHeld
            have hHeld := hHeld2
            clear hHeld2
            try simp only [Act.put, lq4, lq5, lq6]
            refine wpAnyH_ready (rs := [1]) (by kernel_rfl) (by simp) ?_
            refine AllReadyH.cons rfl (fun K hK => ?_) AllReadyH.nil
            · go_simp
              clear z2
              refine hK.out _ _ ?_ (fun hHeld2 => ?_)
              · exact HS13.out _ (HTIJ.out.fr.trans HF7.out) (Nat.lt_of_lt_of_le HTIJ.out.blk.lt (HF7.out).size)
              clear hK K hHeld
              have hHeld := hHeld2
              clear hHeld2
              try simp only [Act.put, lq4, lq5, lq6]
              refine wpAnyH_ready (rs := [14]) (by kernel_rfl) (by simp) ?_
              refine AllReadyH.cons rfl (fun K hK => ?_) AllReadyH.nil
              · refine step_app_ent (by rfl) _ _ (by rfl) W.heap.size g7 (.slice TA L.length tc) L (rj, ⟨ykind, yhome, T.mk yk1 yn1 ys1 yA1 ycap1 yl1 yr1, yVA, yvc, yvs, yn2, ylost, yofr, ybyr, yset, yfull, yCA2, ycc2, ycode, yNA, ync, ynames⟩) (by rfl) (by rfl) (HTIJ.out.no HF7.out).rT HBE.out HLL.out (HTIJ.out.no HF7.out).fr.size ?_
                intro A8 c8 w8 hown hgr
                obtain ⟨z8, zf8, zq8, hfw8⟩ := HTIJ.out.grown HF7.out hgr
                have HW8 := hide hfw8
                have hs8 := HS13.out w8 hfw8 zq8
                have HS8 := hide hs8
                clear hs8 hfw8
                have HOWN := hide hown
                have HGR := hide hgr
                clear hown hgr
                refine hK.out _ _ ?_ (fun hHeld2 => ?_)
                · exact HS8.out
                clear hK K hHeld
                have hHeld := hHeld2
                clear hHeld2
                try simp only [Act.put, lq4]
                refine tk (i := 15) (v := ?_) (by simp only [lq1, lq2, lq3]; rfl) (by kernel_rfl) (by intro _ _ _ h; exact h) (by rfl) (by assumption) ?_ ?_; rotate_left
                · (intro w hSw; (try dsimp only at hSw); go_simp; try (with_reducible rfl))
                try simp only [Act.put]
                refine wpAnyH_ready (rs := [16]) (by kernel_rfl) (by simp) ?_
                refine AllReadyH.cons rfl (fun K hK => ?_) AllReadyH.nil
                · go_simp
                  refine hK.out _ _ ?_ (fun hHeld2 => ?_)
                  · exact HS13.out _ (HW8.out.trans' ((Fr.refl (fun i => i = g3) w8).set (fun _ => rfl) _) (fun i hi e => by have e' : i = g3 := e; have := HTIJ.out.g0; omega)) (by simpa using zq8)
                  clear hK K hHeld
                  have hHeld := hHeld2
                  clear hHeld2
                  try simp only [Act.put, lq4, lq5, lq6]
                  refine wpAnyH_done (by kernel_rfl) ?_ _
                  clear hHeld z8 zf8 zq8
                  have htold := HTJ.out.add HRJ.out HGET.out HYP.out
                  have HTOLD := hide htold
                  have HRR8 := hide (HTIJ.out.keepRow HF7.out HGR.out (u := .slice A8 (L.length + 1) c8) HRR.out)
                  clear htold
                  have hti8 := HTIJ.out.addT HF7.out HST7.out HOWN.out HGR.out
                  have HTI8 := hide hti8
                  clear hti8
                  generalize World.setCell w8 _ _ = w9 at *
                  go_wp2_with fail
                  go_roundw
                  case rel => exact ⟨j + 1, _, _, _, HJ.out, by go_num, HTOLD.out, HTI8.out, HRR8.out⟩
                  case measure =>
                   have := HJ.out
                   simp [intOf] <;> omega
      · obtain rfl : nr = j := by omega
        have HTOL := hide htold
        have HINVF := hide inv
        obtain ⟨y0, y1, y2, y3, y4, -⟩ := Blk.cells5 inv.blk
        obtain ⟨x0, x1, x2, x3, x4, -⟩ := Blk.cells5 inv.res
        have zfr := inv.res.frozen
        have q2 := inv.res.lt
        have q3 := inv.blk.lt
        clear inv hrr htold hlt hj
        go_wp2_with fail
        refine bodyPost_ret (v := .agg #[.slice B m.par.length cB, .slice C (cutIdx m.cut).length cC, .slice TA L.length tc, .int .i64 m.last, .slice E m.made.length cE]) (by simp [results, Tryz.results78, go_sem, *]) rfl ?_
        generalize hWe : World.setCell _ _ _ = We
        have fe : Fr (fun i => i = W.heap.size) wr We := by
         rw [← hWe]
         repeat (first | with_reducible exact Fr.refl _ wr | with_reducible refine Fr.set ?_ (by simp) _)
        exact HINVF.out.done (by rw [HNR.out]; exact HTOL.out) fe
end Go.Proofs.YtlejelbefmkakaaGreat

namespace Go.Proofs.YtlejelbefmkakaaGreat
open Go.RowKit
def KeepD (D : Nat → Prop) (m : Gm) (w : World) : Prop := ∀ b, D b → ¬ m.B b ∧ b < w.heap.size ∧ ∀ cs, ¬ Blk w b 138 cs
theorem B_addF {m : Gm} {g s : Nat} {t : Int} {i : Nat} (h : (m.addF g t s).B i) : m.B i ∨ i = g := by
 rcases h with h | h | h | h | h | h | ⟨x, hx, h⟩
 · exact .inl (.inl h)
 · exact .inl (.inr (.inl h))
 · exact .inl (.inr (.inr (.inl h)))
 · exact .inl (.inr (.inr (.inr (.inl h))))
 · exact .inl (.inr (.inr (.inr (.inr (.inl h)))))
 · exact .inl (.inr (.inr (.inr (.inr (.inr (.inl h))))))
 · have hx' : x ∈ m.th ++ [(m.last + 1, g, Tg.fac t s)] := hx
   rcases List.mem_append.1 hx' with hx' | hx'
   · exact .inl (.inr (.inr (.inr (.inr (.inr (.inr ⟨x, hx', h⟩))))))
   · simp only [List.mem_singleton] at hx'
     subst hx'
     rcases h with h | h
     · exact .inr h
     · exfalso
       cases h with
       | v h => simp [Tg.fac, T.zero, T.blocks] at h
       | vs h => simp [Tg.fac, T.row, T.blocks] at h
       | code h =>
        rcases G.row_has h with ⟨a, ha, -⟩ | ⟨x, hx, -⟩
        · simp [Tg.fac] at ha
        · simp [Tg.fac] at hx
       | nm h => obtain ⟨a, ha, -⟩ := h; cases ha
       | nv y hy h => simp [Tg.fac] at hy
theorem KeepD.made {D : Nat → Prop} {m m' : Gm} {lo : Nat} {w w' : World} {t q : Int} (h : KeepD D m w) (hok : m'.Ok lo w') (hm : Made1 m m' t q) (f : Fr m.B w w') : KeepD D m' w' := by
 intro b hb
 obtain ⟨h1, h2, h3⟩ := h b hb
 have hbl := f.block b h2 h1
 have h4 : ∀ cs, ¬ Blk w' b 138 cs := fun cs hc => h3 cs (by unfold Blk at hc ⊢; rw [← hbl]; exact hc)
 refine ⟨fun hB => ?_, Nat.lt_of_lt_of_le h2 f.size, h4⟩
 rcases hm with rfl | ⟨g, s, rfl, -⟩
 · exact h1 hB
 · rcases B_addF hB with hB | rfl
   · exact h1 hB
   · exact h4 _ (hok.box (m.last + 1, b, Tg.fac t s) (by show _ ∈ m.th ++ _; simp))
theorem KeepD.fr {D S : Nat → Prop} {m : Gm} {w w' : World} (h : KeepD D m w) (f : Fr S w w') (hs : ∀ b, D b → ¬ S b) : KeepD D m w' := by
 intro b hb
 obtain ⟨h1, h2, h3⟩ := h b hb
 have hbl := f.block b h2 (hs b hb)
 exact ⟨h1, Nat.lt_of_lt_of_le h2 f.size, fun cs hc => h3 cs (by unfold Blk at hc ⊢; rw [← hbl]; exact hc)⟩
theorem map_not_B {m : Gm} {lo B : Nat} {w : World} (h : m.Ok lo w) {es : Array MapEntry} {cl : Nat} (hm : w.heap[B]? = some (.map es cl)) (h1 : B ≠ m.M) (h2 : B ≠ m.F) : ¬ m.B B := by
 rintro (rfl | rfl | rfl | hi | hi | hi | ⟨x, hx, rfl | hi⟩)
 · have := h.blk; unfold Blk at this; rw [hm] at this; cases this
 · exact h1 rfl
 · exact h2 rfl
 · obtain ⟨c, hc⟩ := owns_typed h.par hi; unfold Blk at hc; rw [hm] at hc; cases hc
 · obtain ⟨c, hc⟩ := owns_typed h.cut hi; unfold Blk at hc; rw [hm] at hc; cases hc
 · obtain ⟨c, hc⟩ := owns_typed h.made hi; unfold Blk at hc; rw [hm] at hc; cases hc
 · have := h.box x hx; unfold Blk at this; rw [hm] at this; cases this
 · obtain ⟨e, c, he, hc⟩ := (h.st x hx).ty hi; unfold Blk at hc; rw [hm] at hc; cases hc
theorem FW.narM {m : Gm} {lo n : Nat} {W : World} {t : Int} {a s : Nat} (h : FW m lo n W) {y : Nat × Tg} (hy : m.get t = some y) (hyk : y.2.kind ≠ 14) (ha : m.Abl t a) (hs : s < 64) (h1 : s &&& a = s) (hn : n ≤ 100000) {g : Nat} {w' : World} (hok : (m.nar g t s a).2.Ok lo w') (f : Fr m.B W w') :
 m.Ext (m.nar g t s a).2 ∧ FW (m.nar g t s a).2 lo (n + 1) w' ∧ Is1 (m.nar g t s a).2 (m.nar g t s a).1 t s ∧ Made1 m (m.nar g t s a).2 t (m.nar g t s a).1 ∧ (m.nar g t s a).2.M = m.M ∧ (m.nar g t s a).2.F = m.F := by
 have hroom := h.room hn
 have hl1 : lo ≤ w'.heap.size := Nat.le_trans h.lo1 f.size
 by_cases hsa : s = a
 · have e : m.nar g t s a = (t, m) := by simp [Gm.nar, hsa]
   rw [e] at hok ⊢
   exact ⟨Gm.Ext.refl m, FW.more ⟨hok, hl1, h.fs, h.mays, h.bnd⟩, ⟨⟨y, hy⟩, Gm.root_of hy hyk, by rw [hsa]; exact ha⟩, .inl rfl, rfl, rfl⟩
 · cases hq : m.fget t (s : Int) with
   | some q =>
    have e : m.nar g t s a = (q, m) := by simp [Gm.nar, hsa, hq]
    rw [e] at hok ⊢
    obtain ⟨j, hj, -⟩ := Gm.fget_some hq
    obtain ⟨x, hx, k1, k2, k3⟩ := (h.fs.fac t s q).1 (List.mem_of_getElem? hj)
    refine ⟨Gm.Ext.refl m, FW.more ⟨hok, hl1, h.fs, h.mays, h.bnd⟩, ⟨⟨x, hx⟩, by rw [Gm.root_fac hx k1, k2], ?_⟩, .inl rfl, rfl, rfl⟩
    have := Gm.Abl.facet hx k1 k3 (by rw [k2]; exact ha)
    rwa [h1] at this
   | none =>
    have e : m.nar g t s a = (m.last + 1, m.addF g t s) := by simp [Gm.nar, hsa, hq]
    rw [e] at hok ⊢
    have hext := h.fs.ext_addF (t := t) (g := g) (s := s)
    have hnew := h.fs.get_new (t := t) (g := g) (s := s)
    have hfs := h.fs.addF (g := g) hroom.last.2 hy hyk hs ha h1 hsa
    refine ⟨hext, ⟨hok, hl1, hfs, fun x hx => ?_, ?_⟩, ⟨⟨_, hnew⟩, by rw [Gm.root_fac hnew rfl]; rfl, ?_⟩, .inr ⟨g, s, rfl, rfl⟩, rfl, rfl⟩
    · rcases List.mem_append.1 hx with hx | hx
      · exact h.mays x hx
      · simp only [List.mem_singleton] at hx
        subst hx
        exact fac_mays t s
    · have := h.bnd
      refine ⟨by show m.last + 1 ≤ _; omega, ?_, ?_⟩
      · show (m.th ++ [_]).length ≤ _
        simp; omega
      · show (m.fac ++ [_]).length ≤ _
        simp; omega
    · have := Gm.Abl.facet hnew rfl rfl (ha.ext hext)
      rwa [h1] at this
section
variable {m m' : Gm} {n wb : Nat} {W0 W W' : World} {r q p t : Int} {a b c s : Nat}
theorem FX.fr_ {S : Nat → Prop} (h : FX W0 wb m n W) (f : Fr S W W') (hs : ∀ i, m.B i → ¬ S i) (h0 : ∀ i, i < W0.heap.size → ¬ S i) : FX W0 wb m n W' :=
 ⟨⟨h.fw.ok.fr f hs, Nat.le_trans h.fw.lo1 f.size, h.fw.fs, h.fw.mays, h.fw.bnd⟩, h.wb, h.fr.trans' f fun i hi hS => h0 i hi hS⟩
theorem FX.one (h : FX W0 wb m n W) {u : Nat} (hp : Is1 m p t u) (hq : Is1 m q t u) : p = q := Is1.one h hp hq
theorem Able_n (h : FX W0 wb m n W) (hr : Is1 m r t b) : Calls Tryz.prog 79 #[.pointer (some ⟨wb, 0, none⟩), .int .i64 r] W fun e w' => e = .returned (.int .u8 (b : Int)) ∧ Fr No W w' := by
 have := Able_w h.fw.ok hr.abl
 rwa [h.wb] at this
theorem Narrow_m (h : FX W0 wb m n W) (hn : n ≤ 100000) (hr : Is1 m t t a) (hs : s < 64) :
 Calls Tryz.prog 69 #[.pointer (some ⟨wb, 0, none⟩), .int .i64 t, .int .u8 (s : Int)] W fun e w' => ∃ (q : Int) (m' : Gm), e = .returned (.tuple #[.int .i64 q, .int .i64 0]) ∧ m.Ext m' ∧ FX W0 wb m' (n + 1) w' ∧ Is1 m' q t (s &&& a) ∧ Made1 m m' t q ∧ m'.M = m.M ∧ m'.F = m.F ∧ Fr m.B W w' := by
 obtain ⟨x, hx⟩ := hr.is
 obtain ⟨y, hy, hyk⟩ := h.fw.fs.root_is hx
 have hrt := hr.root
 have ha := hr.abl
 rw [← h.wb]
 have := Narrow_g h.fw.ok h.fw.lo1 h.fw.what (h.fw.room hn) hx hy hyk (h.fw.rng hy) (by rw [hrt]; exact ha) ha (Nat.and_self a) hs
 rw [hrt] at this hy
 refine this.mono ?_
 rintro e w' ⟨g, rfl, hok, f⟩
 obtain ⟨h1, h2, h3, h4, h5, h6⟩ := h.fw.narM hy hyk ha (and_lt hs) (and_sub s a) hn hok f
 exact ⟨_, _, rfl, h1, ⟨h2, h1.1, h.fr.trans' f fun i hi hB => by have := (h.fw.ok.lt i hB).1; omega⟩, h3, h4, h5, h6, f⟩
end
end Go.Proofs.YtlejelbefmkakaaGreat

namespace Go.Proofs.YtlejelbefmkakaaGreat
open Go.RowKit
structure TRow (par cuts made : List Int) (s0 : Nat) (B : Option Addr) (cB : Nat) (C : Option Addr) (cC : Nat) (TA : Option Addr) (tc : Nat) (E : Option Addr) (cE : Nat) (L : List (Int × Tg)) (w : World) : Prop where
 rB : w.ownsRow s0 23 1 (.slice B par.length cB) par.length (refRow par)
 rC : w.ownsRow s0 3 1 (.slice C cuts.length cC) cuts.length (refRow cuts)
 rT : w.ownsRow s0 140 17 (.slice TA L.length tc) L.length (entRow L)
 rE : w.ownsRow s0 3 1 (.slice E made.length cE) made.length (refRow made)
 st : ∀ x ∈ L, x.2.St w s0
def TD (n1 n2 n3 n4 : Nat) (B : Option Addr) (cB : Nat) (C : Option Addr) (cC : Nat) (TA : Option Addr) (tc : Nat) (E : Option Addr) (cE : Nat) (L : List (Int × Tg)) (b : Nat) : Prop :=
 (Value.slice B n1 cB).ownBlock = some b ∨ (Value.slice C n2 cC).ownBlock = some b ∨ (Value.slice TA n3 tc).ownBlock = some b ∨ (Value.slice E n4 cE).ownBlock = some b ∨ ∃ x ∈ L, x.2.Has b
section
variable {par cuts made : List Int} {s0 : Nat} {B : Option Addr} {cB : Nat} {C : Option Addr} {cC : Nat} {TA : Option Addr} {tc : Nat} {E : Option Addr} {cE : Nat} {L : List (Int × Tg)} {w w' : World} {S : Nat → Prop}
theorem TRow.fr (h : TRow par cuts made s0 B cB C cC TA tc E cE L w) (f : Fr S w w') (hs : ∀ b, TD par.length cuts.length L.length made.length B cB C cC TA tc E cE L b → ¬ S b) : TRow par cuts made s0 B cB C cC TA tc E cE L w' :=
 ⟨owns_fr h.rB f fun q hq => hs q (.inl hq), owns_fr h.rC f fun q hq => hs q (.inr (.inl hq)), owns_fr h.rT f fun q hq => hs q (.inr (.inr (.inl hq))), owns_fr h.rE f fun q hq => hs q (.inr (.inr (.inr (.inl hq)))), fun x hx => (h.st x hx).fr f fun b hb => hs b (.inr (.inr (.inr (.inr ⟨x, hx, hb⟩))))⟩
theorem TRow.no (h : TRow par cuts made s0 B cB C cC TA tc E cE L w) (f : Fr No w w') : TRow par cuts made s0 B cB C cC TA tc E cE L w' := h.fr f fun _ _ h => h
theorem TRow.ty (h : TRow par cuts made s0 B cB C cC TA tc E cE L w) {b : Nat} (hb : TD par.length cuts.length L.length made.length B cB C cC TA tc E cE L b) : (s0 ≤ b ∧ b < w.heap.size) ∧ ∃ t cs, Blk w b t cs ∧ t ≠ 138 ∧ t ≠ 71 := by
 rcases hb with hb | hb | hb | hb | ⟨x, hx, hb⟩
 · obtain ⟨cs, hc⟩ := owns_typed h.rB hb
   exact ⟨owns_lt h.rB b hb, _, cs, hc, by decide, by decide⟩
 · obtain ⟨cs, hc⟩ := owns_typed h.rC hb
   exact ⟨owns_lt h.rC b hb, _, cs, hc, by decide, by decide⟩
 · obtain ⟨cs, hc⟩ := owns_typed h.rT hb
   exact ⟨owns_lt h.rT b hb, _, cs, hc, by decide, by decide⟩
 · obtain ⟨cs, hc⟩ := owns_typed h.rE hb
   exact ⟨owns_lt h.rE b hb, _, cs, hc, by decide, by decide⟩
 · obtain ⟨e, cs, he, hc⟩ := (h.st x hx).ty hb
   refine ⟨(h.st x hx).inn.has hb, e, cs, hc, ?_⟩
   rcases he with rfl | rfl | rfl | rfl | rfl <;> decide
theorem TRow.ne (h : TRow par cuts made s0 B cB C cC TA tc E cE L w) {b g : Nat} {t : TypeId} {cs : Array Value} (hb : TD par.length cuts.length L.length made.length B cB C cC TA tc E cE L b) (hg : Blk w g t cs) (ht : t = 138 ∨ t = 71) : b ≠ g := by
 rintro rfl
 obtain ⟨-, t', cs', hc, h1, h2⟩ := h.ty hb
 exact Blk.ne_ hc hg (by rcases ht with rfl | rfl <;> assumption) rfl
end
end Go.Proofs.YtlejelbefmkakaaGreat

namespace Go.Proofs.YtlejelbefmkakaaGreat
open Go.RowKit
def setA (cs : Array Value) : Nat → List Value → Array Value
 | _, [] => cs
 | o, u :: us => setA (cs.setIfInBounds o u) (o + 1) us
theorem row_blk {w : World} {g : Nat} {t : TypeId} {cs us : Array Value} (h : Blk w g t cs) : Blk (World.setRow w g us) g t us := by
 unfold Blk at *
 exact Go.setRow_heap w g cs us t _ h
theorem row_fr (w : World) (g : Nat) (us : Array Value) : Fr (fun i => i = g) w (World.setRow w g us) :=
 ⟨rfl, rfl, rfl, by rw [Go.setRow_size]; exact Nat.le_refl _, fun b _ hn => Go.setRow_other w g b us hn⟩
theorem step_store_row {ops : Array Oper} {o : Oper} {a : Act} {w : World} {K : Act → World → Prop} {Q : Exit → Act → World → Prop} {E : Prop} (hgd : o.guard = none) (ty : TypeId) (x y : Operand) (ho : o.op = .store ty x y)
 (g : Nat) (cells : Array Value) (hx : a.eval x = .pointer (some ⟨g, 0, none⟩)) (hy : a.eval y = .agg cells)
 (t : TypeId) (old : Array Value) (hg : Blk w g t old) (hi : (Tryz.prog.info? ty).map (·.size) = some cells.size) (hold : old.size = cells.size) (h1 : cells.all (·.oneCell') = true)
 (hK : K (a.put o.dst undef) (World.setRow w g cells)) : if Region.wanted o (yielded ops a.tmps) = true then Oper.wp Tryz.prog o a w K Q else E := by
 have hw : Region.wanted o (yielded ops a.tmps) = true := by simp [Region.wanted, hgd]
 rw [if_pos hw]
 exact wp_store_row ty x y ho g cells hx hy t old hg hi hold h1 hK
theorem stmt_size : (Tryz.prog.info? 311).map (·.size) = some 17 := by kernel_rfl
end Go.Proofs.YtlejelbefmkakaaGreat

namespace Go.Proofs.YtlejelbefmkakaaGreat
open Go.RowKit
structure N2 (W0 w3 : World) (wb mb : Nat) (D : Nat → Prop) (m0 : Gm) (t : Int) (a : Nat) (m : Gm) (j : Nat) (l : List (Int × Int)) (w : World) : Prop where
 fx : FX W0 wb m j w
 many : ManyI m0 m t a j l
 ext : m0.Ext m
 map : IMap (Value.int .i64) w mb l
 mf : m.M = m0.M ∧ m.F = m0.F
 kd : KeepD D m w
 fd : Fr (fun i => ¬ D i) w3 w
section
variable {W0 w3 w w1 w2 w4 : World} {wb mb : Nat} {D : Nat → Prop} {m0 m m' : Gm} {t q : Int} {a j : Nat} {l : List (Int × Int)}
theorem N2.no (h : N2 W0 w3 wb mb D m0 t a m j l w) (f : Fr No w w1) : N2 W0 w3 wb mb D m0 t a m j l w1 :=
 ⟨h.fx.no f, h.many, h.ext, h.map.fr f (fun h => h), h.mf, h.kd.fr f fun _ _ h => h, h.fd.trans' f fun _ _ h => h.elim⟩
theorem N2.start (h : FX W0 wb m0 0 w4) (hk : KeepD D m0 w4) (hf : Fr (fun i => ¬ D i) w3 w4) : N2 W0 w3 wb w4.heap.size D m0 t a m0 0 [] (w4.alloc (.map #[] 0)) := by
 have f := (Fr.refl No w4).alloc (.map #[] 0)
 exact ⟨h.no f, ManyI.start m0 t a, Gm.Ext.refl m0, IMap.made w4, ⟨rfl, rfl⟩, hk.fr f fun _ _ h => h, hf.trans' f fun _ _ h => h.elim⟩
theorem N2.map_B (h : N2 W0 w3 wb mb D m0 t a m j l w) (hm : mb ≠ m0.M ∧ mb ≠ m0.F) : ¬ m.B mb := by
 obtain ⟨es, cl, he, -⟩ := h.map
 exact map_not_B h.fx.fw.ok he (by rw [h.mf.1]; exact hm.1) (by rw [h.mf.2]; exact hm.2)
theorem N2.nar_map (h : N2 W0 w3 wb mb D m0 t a m j l w) (hm : mb ≠ m0.M ∧ mb ≠ m0.F) (f : Fr m.B w w1) (f2 : Fr No w1 w2) : IMap (Value.int .i64) w2 mb l :=
 (h.map.fr f (h.map_B hm)).fr f2 fun h => h
theorem N2.step (h : N2 W0 w3 wb mb D m0 t a m j l w) (ha : a < 64) (hm : mb ≠ m0.M ∧ mb ≠ m0.F) (hd : ¬ D mb) (h0 : W0.heap.size ≤ mb)
 (he : m.Ext m') (hx : FX W0 wb m' (j + 1) w1) (hi : Is1 m' q t (j &&& a)) (hmd : Made1 m m' t q) (hM : m'.M = m.M) (hF : m'.F = m.F) (f : Fr m.B w w1) (f2 : Fr No w1 w2)
 (hp : IMap (Value.int .i64) w4 mb (iput l q ((iget l q).getD 0 + 1))) (f3 : Fr (fun i => i = mb) w2 w4) : N2 W0 w3 wb mb D m0 t a m' (j + 1) (iput l q ((iget l q).getD 0 + 1)) w4 := by
 have hB1 : ¬ m'.B mb := by
  obtain ⟨es, cl, hes, -⟩ := h.nar_map hm f (Fr.refl No w1)
  exact map_not_B hx.fw.ok hes (by rw [hM, h.mf.1]; exact hm.1) (by rw [hF, h.mf.2]; exact hm.2)
 have hx2 := hx.no f2
 refine ⟨hx2.fr_ f3 (fun i hi e => ?_) fun i hi e => ?_, h.many.step ha he hmd hi, h.ext.trans he, hp, ⟨hM.trans h.mf.1, hF.trans h.mf.2⟩, ((h.kd.made hx.fw.ok hmd f).fr f2 fun _ _ h => h).fr f3 fun b hb e => ?_, ((h.fd.trans' f fun i _ hB hD => (h.kd i hD).1 hB).trans' f2 fun _ _ h => h.elim).trans' f3 fun i _ e hD => ?_⟩
 · have e' : i = mb := e
   subst e'
   exact hB1 hi
 · have e' : i = mb := e
   omega
 · have e' : b = mb := e
   subst e'
   exact hd hb
 · have e' : i = mb := e
   subst e'
   exact hd hD
end
end Go.Proofs.YtlejelbefmkakaaGreat

namespace Go.Proofs.YtlejelbefmkakaaGreat
open Go.RowKit
section
variable {par cuts made : List Int} {s0 : Nat} {B : Option Addr} {cB : Nat} {C : Option Addr} {cC : Nat} {TA : Option Addr} {tc : Nat} {E : Option Addr} {cE : Nat} {L K : List (Int × Tg)} {w w' : World} {S : Nat → Prop}
theorem TRow.wrow (h : TRow par cuts made s0 B cB C cC TA tc E cE L w) (h1 : par.length ≤ 1000000) (h2 : cuts.length ≤ 1000000) (h3 : made.length ≤ 1000000) (h4 : L.length ≤ 1000000) (hr : ∀ x ∈ L, -9223372036854775808 ≤ x.1 ∧ x.1 ≤ 9223372036854775807) : WRow w s0 w.heap.size B cB par C cC cuts TA tc L E cE made :=
 ⟨Il.own h.rB (Nat.le_refl _) (by omega), Il.own h.rC (Nat.le_refl _) (by omega), EnRow.own h.rT (Nat.le_refl _) (by omega) (fun x hx => (h.st x hx).inn) hr, Il.own h.rE (Nat.le_refl _) (by omega)⟩
theorem TRow.wrow' (h : TRow par cuts made s0 B cB C cC TA tc E cE L w) (h1 : par.length ≤ 1000000) (h2 : cuts.length ≤ 1000000) (h3 : made.length ≤ 1000000) (h4 : K.length ≤ 1000000) (hr : ∀ x ∈ L, -9223372036854775808 ≤ x.1 ∧ x.1 ≤ 9223372036854775807) (hk : ∀ x ∈ K, x ∈ L) {OA : Option Addr} {oc base : Nat} (hb : s0 ≤ base) (hrow : w.ownsRow base 140 17 (.slice OA K.length oc) K.length (entRow K)) : WRow w s0 w.heap.size B cB par C cC cuts OA oc K E cE made :=
 ⟨Il.own h.rB (Nat.le_refl _) (by omega), Il.own h.rC (Nat.le_refl _) (by omega), EnRow.own hrow hb (by omega) (fun x hx => (h.st x (hk x hx)).inn) fun x hx => hr x (hk x hx), Il.own h.rE (Nat.le_refl _) (by omega)⟩
end
theorem cutIdx_le (l : List Bool) : (cutIdx l).length ≤ l.length := by
 unfold cutIdx
 rw [List.length_map]
 exact Nat.le_trans (List.length_filter_le _ _) (by simp)
theorem told_rng {m : Gm} {L : List (Int × Tg)} (h : Told m L m.refs.length) (hn : ∀ x ∈ m.th, 1 ≤ x.1 ∧ x.1 ≤ m.last) (hl : m.last ≤ 10000000) : ∀ x ∈ L, -9223372036854775808 ≤ x.1 ∧ x.1 ≤ 9223372036854775807 := fun x hx => by
 obtain ⟨y, hy, -⟩ := h.pl x hx
 have := hn _ (Gm.get_mem hy)
 simp only at this
 omega
theorem told_len {m : Gm} {L : List (Int × Tg)} (h : Told m L m.refs.length) : L.length = m.th.length := by
 have h1 := congrArg List.length h.nums
 rwa [List.length_map, List.length_take, Nat.min_self, Gm.refs_length] at h1
end Go.Proofs.YtlejelbefmkakaaGreat

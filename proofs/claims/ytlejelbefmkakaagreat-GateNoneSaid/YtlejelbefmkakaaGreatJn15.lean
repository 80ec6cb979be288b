/- Texts joined: Wg5, H0. -/
import Derived.Test.YtlejelbefmkakaaGreatJn14
import Derived.Test.YtlejelbefmkakaaGreatRows
import Derived.ProofKit
import Derived.OpenShut
import Derived.ChangeOld
/- Worlds: fits, asksOf, asksBy, of a cell, a log, a switch, a gate. -/
namespace Go.Proofs.YtlejelbefmkakaaGreat
open Go.RowKit

section
variable {m : Wm} {lo : Nat} {W : World}

set_option maxRecDepth 100000 in
set_option maxHeartbeats 4000000 in
theorem fits1 (home k n : Int) (s : ByteArray) (A : Option Addr) (len cap : Nat) (r n1 lost byr set : Int) (full : Bool) (b : Nat) :
    Calls Tryz.prog 158 #[.pointer (some ⟨b, 0, none⟩), .int .i64 0, .agg (th16 1 home k n s A len cap r n1 lost 0 byr set full)] W fun e w' => e = .returned (.bool true) ∧ Fr No W w' := by
  unfold th16
  go_enter Tryz.func158, Tryz.ntmps158
  go_wp2
  go_ret
  exact ⟨rfl, ((Fr.refl No W).alloc _).alloc _⟩

set_option maxRecDepth 100000 in
set_option maxHeartbeats 4000000 in
theorem fits2 (home k n : Int) (s : ByteArray) (A : Option Addr) (len cap : Nat) (r n1 lost byr set : Int) (full : Bool) (b : Nat) :
    Calls Tryz.prog 158 #[.pointer (some ⟨b, 0, none⟩), .int .i64 0, .agg (th16 2 home k n s A len cap r n1 lost 0 byr set full)] W fun e w' => e = .returned (.bool true) ∧ Fr No W w' := by
  unfold th16
  go_enter Tryz.func158, Tryz.ntmps158
  go_wp2
  go_ret
  exact ⟨rfl, ((Fr.refl No W).alloc _).alloc _⟩

set_option maxRecDepth 100000 in
set_option maxHeartbeats 4000000 in
theorem fits13 (home k n : Int) (s : ByteArray) (A : Option Addr) (len cap : Nat) (r n1 lost byr set : Int) (full : Bool) (b : Nat) :
    Calls Tryz.prog 158 #[.pointer (some ⟨b, 0, none⟩), .int .i64 0, .agg (th16 13 home k n s A len cap r n1 lost 0 byr set full)] W fun e w' => e = .returned (.bool true) ∧ Fr No W w' := by
  have hb1 := Blk.new' (W.alloc (.cells #[.pointer (some ⟨b, 0, none⟩)] 31)) 138 (th16 13 home k n s A len cap r n1 lost 0 byr set full) (g := W.heap.size + 1) (by simp)
  have hf0 := ((Fr.refl No W).alloc (.cells #[.pointer (some ⟨b, 0, none⟩)] 31)).alloc (.cells (th16 13 home k n s A len cap r n1 lost 0 byr set full) 138)
  have HB1 := hide hb1
  have HF0 := hide hf0
  unfold th16 at hb1 HB1 HF0 ⊢
  obtain ⟨d0, d1, d2, d3, d4, d5, d6, d7, d8, d9, d10, d11, d12, d13, d14, d15⟩ := hb1.cells16
  have dq := hb1.lt
  clear hb1 hf0
  go_enter Tryz.func158, Tryz.ntmps158
  go_wp2_with fail
  generalize World.alloc (World.alloc W _) _ = W0 at *
  clear d0 d1 d2 d3 d4 d5 d6 d7 d8 d9 d10 d11 d12 d13 d14 d15 dq
  have d10 : ∀ q : ClN W0, q.w.cell? ⟨W.heap.size + 1, 10, none⟩ = some (.int .i64 0) := fun q => (HB1.out.fr q.fr fun h => h).cell 10
  have dq : ∀ q : ClN W0, W.heap.size + 1 < q.w.heap.size := fun q => (HB1.out.fr q.fr fun h => h).lt
  have hinst : Nonempty (ClN W0) := ⟨⟨W0, Fr.refl No W0⟩⟩
  refine wp_region_quiet_cl (fun W' => ∃ q : ClN W0, W' = q.w) (by kernel_rfl) (by kernel_rfl) ⟨⟨_, (Fr.refl No W0).drew⟩, rfl⟩ ?_
  repeat (go_big_quiet_step (fail))
  refine wpQuiet_nil ?_
  rintro w1 ⟨⟨_, f3⟩, rfl⟩
  clear d10 dq hinst
  go_wp2_with fail
  go_ret
  exact ⟨rfl, HF0.out.trans f3⟩

set_option maxRecDepth 100000 in
set_option maxHeartbeats 4000000 in
/-- A gate: its switch is there, of the same side, of no gate yet; its target is there. -/
theorem fits15 (h : m.Ok lo W) (home k n : Int) (s : ByteArray) (A : Option Addr) (len cap : Nat) (r n1 lost ofr byr set : Int) (full : Bool) {x y : Nat × Th} (hg : m.get byr = some x) (hk : x.2.kind = 13) (hh : x.2.home = home) (ho : x.2.ofr = 0) (hy : m.get ofr = some y) :
    Calls Tryz.prog 158 #[.pointer (some ⟨m.wb, 0, none⟩), .int .i64 0, .agg (th16 15 home k n s A len cap r n1 lost ofr byr set full)] W fun e w' => e = .returned (.bool true) ∧ Fr No W w' := by
  have hb0 := (Blk.new W 31 #[.pointer (some ⟨m.wb, 0, none⟩)]).alloc (.cells (th16 15 home k n s A len cap r n1 lost ofr byr set full) 138)
  have hb1 := Blk.new' (W.alloc (.cells #[.pointer (some ⟨m.wb, 0, none⟩)] 31)) 138 (th16 15 home k n s A len cap r n1 lost ofr byr set full) (g := W.heap.size + 1) (by simp)
  have hf0 := ((Fr.refl No W).alloc (.cells #[.pointer (some ⟨m.wb, 0, none⟩)] 31)).alloc (.cells (th16 15 home k n s A len cap r n1 lost ofr byr set full) 138)
  have HOK := hide h
  have HI := hide fun W' (f : Fr No W W') => by have := Is_w (h.no f) ofr; rw [hy] at this; exact this
  unfold th16 at hb1 ⊢
  have HB0 := hide hb0
  have HB1 := hide hb1
  have HF0 := hide hf0
  have HG := hide hg
  unfold th16 at HF0 HB0
  obtain ⟨d0, d1, d2, d3, d4, d5, d6, d7, d8, d9, d10, d11, d12, d13, d14, d15⟩ := hb1.cells16
  have dq := hb1.lt
  clear hb0 hb1 hf0 h hg hy
  go_enter Tryz.func158, Tryz.ntmps158
  go_wp2_with fail
  generalize World.alloc (World.alloc W _) _ = W0 at *
  have hok0 := HOK.out.no HF0.out
  clear d0 d1 d2 d3 d4 d5 d6 d7 d8 d9 d10 d11 d12 d13 d14 d15 dq
  have d10 : ∀ q : ClN W0, q.w.cell? ⟨W.heap.size + 1, 10, none⟩ = some (.int .i64 ofr) := fun q => (HB1.out.fr q.fr fun h => h).cell 10
  have d11 : ∀ q : ClN W0, q.w.cell? ⟨W.heap.size + 1, 11, none⟩ = some (.int .i64 byr) := fun q => (HB1.out.fr q.fr fun h => h).cell 11
  have dq : ∀ q : ClN W0, W.heap.size + 1 < q.w.heap.size := fun q => (HB1.out.fr q.fr fun h => h).lt
  have e0 : ∀ q : ClN W0, q.w.cell? ⟨W.heap.size, 0, none⟩ = some (.pointer (some ⟨m.wb, 0, none⟩)) := fun q => (HB0.out.fr q.fr fun h => h).cell 0
  have eq_ : ∀ q : ClN W0, W.heap.size < q.w.heap.size := fun q => (HB0.out.fr q.fr fun h => h).lt
  have x2 : ∀ q : ClN W0, q.w.cell? ⟨m.wb, 2, none⟩ = some (.map (some m.M)) := fun q => map_cell (hok0.no q.fr)
  have xq2 : ∀ q : ClN W0, m.wb < q.w.heap.size := fun q => (hok0.no q.fr).blk.lt
  have hl : ∀ q : ClN W0, (Instr.lookup 34 (.map (some m.M)) (.int .i64 byr) false).run Tryz.prog q.w = .ok (.pointer (some ⟨x.1, 0, none⟩)) q.w := fun q => by
    have := look_thing (hok0.no q.fr) byr
    rw [HG.out] at this
    exact this
  have x10 : ∀ q : ClN W0, q.w.cell? ⟨x.1, 10, none⟩ = some (.int .i64 0) := fun q => by
    have := box_ofr ((hok0.no q.fr).box _ (Wm.get_mem HG.out))
    rwa [ho] at this
  have xq : ∀ q : ClN W0, x.1 < q.w.heap.size := fun q => ((hok0.no q.fr).box _ (Wm.get_mem HG.out)).lt
  have HC' : Hid (∀ q : ClN W0, Calls Tryz.prog 214 #[.int .i64 byr, .int .u8 13, .pointer (some ⟨W.heap.size, 0, none⟩), .pointer (some ⟨W.heap.size + 1, 0, none⟩)] q.w fun e w'' => e = .returned (.bool true) ∧ ∃ q' : ClN W0, w'' = q'.w) := hide fun q => by
    refine (fits1_yes (hok0.no q.fr) (HB0.out.fr q.fr fun h => h) HG.out hk hh (gx := W.heap.size + 1) ((HB1.out.fr q.fr fun h => h).cell 1) (HB1.out.fr q.fr fun h => h).lt).mono ?_
    rintro e w'' ⟨rfl, f⟩
    exact ⟨rfl, ⟨w'', q.fr.trans f⟩, rfl⟩
  have HI' : Hid (∀ q : ClN W0, Calls Tryz.prog 58 #[.pointer (some ⟨m.wb, 0, none⟩), .int .i64 ofr] q.w fun e w'' => e = .returned (.bool true) ∧ ∃ q' : ClN W0, w'' = q'.w) := hide fun q => by
    refine (HI.out q.w (HF0.out.trans q.fr)).mono ?_
    rintro e w'' ⟨rfl, rfl⟩
    exact ⟨rfl, q, rfl⟩
  have hinst : Nonempty (ClN W0) := ⟨⟨W0, Fr.refl No W0⟩⟩
  clear hok0 ho hk hh
  refine wp_region_quiet_cl (fun W' => ∃ q : ClN W0, W' = q.w) (by kernel_rfl) (by kernel_rfl) ⟨⟨_, (Fr.refl No W0).drew⟩, rfl⟩ ?_
  repeat (go_big_quiet_step (first | (go_at_call 214; exact HC'.out _) | (go_at_call 58; exact HI'.out _)))
  refine wpQuiet_nil ?_
  rintro w1 ⟨⟨_, f3⟩, rfl⟩
  clear d10 d11 dq e0 eq_ x2 xq2 hl x10 xq hinst
  go_wp2_with fail
  go_ret
  exact ⟨rfl, HF0.out.trans f3⟩
end

theorem asks1 (W : World) : Calls Tryz.prog 156 #[.int .u8 1] W fun e w' => e = .returned (.bool false) ∧ w' = W := by
  have hw : Calls Tryz.prog 172 #[.int .u8 1] W fun e w' => e = .returned (.bool false) ∧ w' = W := by
    go_enter Tryz.func172, Tryz.ntmps172
    go_wp2
    go_ret
    exact ⟨rfl, rfl⟩
  go_enter Tryz.func156, Tryz.ntmps156
  go_wp2_with fail
  refine hw.mono ?_
  rintro e w' ⟨rfl, rfl⟩
  go_wp2
  go_ret
  exact ⟨rfl, rfl⟩

theorem by1 (W : World) : Calls Tryz.prog 157 #[.int .u8 1] W fun e w' => e = .returned (.bool false) ∧ w' = W := by
  go_enter Tryz.func157, Tryz.ntmps157
  go_wp2
  go_ret
  exact ⟨rfl, rfl⟩

theorem asks2 (W : World) : Calls Tryz.prog 156 #[.int .u8 2] W fun e w' => e = .returned (.bool false) ∧ w' = W := by
  have hw : Calls Tryz.prog 172 #[.int .u8 2] W fun e w' => e = .returned (.bool false) ∧ w' = W := by
    go_enter Tryz.func172, Tryz.ntmps172
    go_wp2
    go_ret
    exact ⟨rfl, rfl⟩
  go_enter Tryz.func156, Tryz.ntmps156
  go_wp2_with fail
  refine hw.mono ?_
  rintro e w' ⟨rfl, rfl⟩
  go_wp2
  go_ret
  exact ⟨rfl, rfl⟩

theorem by2 (W : World) : Calls Tryz.prog 157 #[.int .u8 2] W fun e w' => e = .returned (.bool false) ∧ w' = W := by
  go_enter Tryz.func157, Tryz.ntmps157
  go_wp2
  go_ret
  exact ⟨rfl, rfl⟩

theorem asks13 (W : World) : Calls Tryz.prog 156 #[.int .u8 13] W fun e w' => e = .returned (.bool false) ∧ w' = W := by
  have hw : Calls Tryz.prog 172 #[.int .u8 13] W fun e w' => e = .returned (.bool false) ∧ w' = W := by
    go_enter Tryz.func172, Tryz.ntmps172
    go_wp2
    go_ret
    exact ⟨rfl, rfl⟩
  go_enter Tryz.func156, Tryz.ntmps156
  go_wp2_with fail
  refine hw.mono ?_
  rintro e w' ⟨rfl, rfl⟩
  go_wp2
  go_ret
  exact ⟨rfl, rfl⟩

theorem by13 (W : World) : Calls Tryz.prog 157 #[.int .u8 13] W fun e w' => e = .returned (.bool false) ∧ w' = W := by
  go_enter Tryz.func157, Tryz.ntmps157
  go_wp2
  go_ret
  exact ⟨rfl, rfl⟩

theorem asks15 (W : World) : Calls Tryz.prog 156 #[.int .u8 15] W fun e w' => e = .returned (.bool true) ∧ w' = W := by
  have hw : Calls Tryz.prog 172 #[.int .u8 15] W fun e w' => e = .returned (.bool true) ∧ w' = W := by
    go_enter Tryz.func172, Tryz.ntmps172
    go_wp2
    go_ret
    exact ⟨rfl, rfl⟩
  go_enter Tryz.func156, Tryz.ntmps156
  go_wp2_with fail
  refine hw.mono ?_
  rintro e w' ⟨rfl, rfl⟩
  go_wp2
  go_ret
  exact ⟨rfl, rfl⟩

theorem by15 (W : World) : Calls Tryz.prog 157 #[.int .u8 15] W fun e w' => e = .returned (.bool true) ∧ w' = W := by
  go_enter Tryz.func157, Tryz.ntmps157
  go_wp2
  go_ret
  exact ⟨rfl, rfl⟩

end Go.Proofs.YtlejelbefmkakaaGreat

/- Two closed facts for the lifts. -/
namespace Go.Proofs.YtlejelbefmkakaaGreat
theorem knob0 : ownKnob Tryz.prog.godebug = none := by kernel_rfl
theorem laidOut0 : laidOutB Tryz.prog = true := by kernel_rfl
end Go.Proofs.YtlejelbefmkakaaGreat

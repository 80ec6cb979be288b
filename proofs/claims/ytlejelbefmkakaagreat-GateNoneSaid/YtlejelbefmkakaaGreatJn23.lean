/- Texts joined: Wg11. -/
import Derived.Test.YtlejelbefmkakaaGreatJn22
/- Worlds: Lay, of a switch that is cut. -/
namespace Go.Proofs.YtlejelbefmkakaaGreat
open Go.RowKit

/-- What Lay leaves of a switch that is cut. -/
def LayRes13 (m : Wm) (r : Int) (home : Nat) (ofr : Int) (lo : Nat) (W : World) (e : Ending) (w' : World) : Prop :=
  e = .returned (.int .i64 0) ∧ (m.put (r - 1).toNat ⟨13, home, T.zero, 0, 0, ofr, 0, 0, true⟩).Ok lo w' ∧ Fr m.B W w'

theorem lay_fin {m : Wm} {lo : Nat} {W w We : World} {r : Int} {x : Nat × Th} {y : Th} {cs : Array Value} (h : m.Ok lo W) (hg : m.get r = some x) (f : Fr No W w) (fe : Fr (fun i => i = x.1) w We) (hb : Blk We x.1 138 cs) (hc : cs = y.cells.toArray) (hv : y.v.Sh We lo We.heap.size) :
    (m.put (r - 1).toNat y).Ok lo We ∧ Fr m.B W We := by
  have hx := Wm.get_mem hg
  subst hc
  refine ⟨ok_put (g := x.1) (x := x.2) (h.no f) (get_at hg).1 fe hb hv, f.no.trans' fe fun i _ hi => ?_⟩
  have hi' : i = x.1 := hi
  exact .inr (.inr (.inr (.inr ⟨x, hx, .inl hi'⟩)))

set_option maxRecDepth 100000 in
set_option maxHeartbeats 8000000 in
theorem Lay13_w {m : Wm} {lo : Nat} {W : World} (h : m.Ok lo W) (hlo : lo ≤ W.heap.size) {r : Int} {gx home : Nat} {tv : T} {ofr : Int} (hg : m.get r = some (gx, ⟨13, home, tv, 0, 0, ofr, 0, 0, false⟩)) (hs : home < m.made.length) :
    Calls Tryz.prog 105 #[.pointer (some ⟨m.wb, 0, none⟩), .int .i64 r, .agg (th16 13 (home : Int) 0 0 ⟨#[]⟩ none 0 0 0 0 0 ofr 0 0 true)] W (LayRes13 m r home ofr lo W) := by
  have ht := fun W' : World => (T.zero_ow W' 0 W'.heap.size).inn
  have hzv : T.zero.v.may = true := by rw [T.zero_v, zero_may]
  have hF := fun W' (f : Fr No W W') => form13 (h.no f) home ofr true hs
  have hN := fun W' (f : Fr No W W') => names_w (h.no f) 13 (home : Int) 0 0 ⟨#[]⟩ none 0 [] 0 0 0 ofr 0 0 true W'.heap.size (ht W') (Nat.le_refl _) (by show T.zero.v.refs.length ≤ _; rw [T.zero_v, zero_refs]; simp)
  have hO := fun W' (f : Fr No W W') => ownWhat_w 13 (home : Int) 0 0 ⟨#[]⟩ none 0 [] 0 0 0 ofr 0 0 true W' W'.heap.size (ht W') (Nat.le_refl _) hzv
  have hz0 : m.are (T.mk 0 0 ⟨#[]⟩ none 0 [] 0).v.refs = true := by show m.are T.zero.v.refs = true; rw [T.zero_v, zero_refs]; rfl
  rw [hz0] at hN
  simp only [List.length_nil] at hN hO
  have hI := fun W' (f : Fr No W W') => by
    have := Is_w (h.no f) r
    rw [hg] at this
    exact this
  have hb0 := Blk.new W 138 (th16 13 (home : Int) 0 0 ⟨#[]⟩ none 0 0 0 0 0 ofr 0 0 true)
  have hf0 := (Fr.refl No W).alloc (.cells (th16 13 (home : Int) 0 0 ⟨#[]⟩ none 0 0 0 0 0 ofr 0 0 true) 138)
  have HOK := hide h
  have HF := hide hF
  have HN := hide hN
  have HO := hide hO
  have HI := hide hI
  have HB := hide hb0
  have HF0 := hide hf0
  have HG := hide hg
  unfold th16 at HF HN HO HB HF0 hb0 ⊢
  obtain ⟨d0, d1, d2, d3, d4, d5, d6, d7, d8, d9, d10, d11, d12, d13, d14, d15⟩ := hb0.cells16
  have dq := hb0.lt
  clear hF hN hO hI hb0 hf0 h ht hzv hz0 hg
  go_enter Tryz.func105, Tryz.ntmps105
  go_wp2_with fail
  generalize World.alloc W _ = W0 at *
  have hok0 := HOK.out.no HF0.out
  refine (none_w hok0).mono ?_
  rintro e w' ⟨rfl, rfl⟩
  go_wp2_with fail
  refine (HI.out w' HF0.out).mono ?_
  rintro e w' ⟨rfl, rfl⟩
  have hl := look_thing hok0 r
  rw [HG.out] at hl
  simp only [Option.map_some] at hl
  have x2 := map_cell hok0
  have xq := hok0.blk.lt
  clear hok0
  go_upto_region 6 with (fail)
  clear hl x2 xq d0 d1 d2 d3 d4 d5 d6 d7 d8 d9 d10 d11 d12 d13 d14 d15 dq
  have d0 : ∀ q : ClN w', q.w.cell? ⟨W.heap.size, 0, none⟩ = some (.int .u8 13) := fun q => (HB.out.fr q.fr fun h => h).cell 0
  have d1 : ∀ q : ClN w', q.w.cell? ⟨W.heap.size, 1, none⟩ = some (.int .i64 (home : Int)) := fun q => (HB.out.fr q.fr fun h => h).cell 1
  have d2 : ∀ q : ClN w', q.w.cell? ⟨W.heap.size, 2, none⟩ = some (.int .u8 0) := fun q => (HB.out.fr q.fr fun h => h).cell 2
  have d3 : ∀ q : ClN w', q.w.cell? ⟨W.heap.size, 3, none⟩ = some (.int .i64 0) := fun q => (HB.out.fr q.fr fun h => h).cell 3
  have d4 : ∀ q : ClN w', q.w.cell? ⟨W.heap.size, 4, none⟩ = some (.string ⟨#[]⟩) := fun q => (HB.out.fr q.fr fun h => h).cell 4
  have d5 : ∀ q : ClN w', q.w.cell? ⟨W.heap.size, 5, none⟩ = some (.slice none 0 0) := fun q => (HB.out.fr q.fr fun h => h).cell 5
  have d6 : ∀ q : ClN w', q.w.cell? ⟨W.heap.size, 6, none⟩ = some (.int .i64 0) := fun q => (HB.out.fr q.fr fun h => h).cell 6
  have d7 : ∀ q : ClN w', q.w.cell? ⟨W.heap.size, 7, none⟩ = some (.slice none 0 0) := fun q => (HB.out.fr q.fr fun h => h).cell 7
  have d8 : ∀ q : ClN w', q.w.cell? ⟨W.heap.size, 8, none⟩ = some (.int .i64 0) := fun q => (HB.out.fr q.fr fun h => h).cell 8
  have d9 : ∀ q : ClN w', q.w.cell? ⟨W.heap.size, 9, none⟩ = some (.int .i64 0) := fun q => (HB.out.fr q.fr fun h => h).cell 9
  have d10 : ∀ q : ClN w', q.w.cell? ⟨W.heap.size, 10, none⟩ = some (.int .i64 ofr) := fun q => (HB.out.fr q.fr fun h => h).cell 10
  have d11 : ∀ q : ClN w', q.w.cell? ⟨W.heap.size, 11, none⟩ = some (.int .i64 0) := fun q => (HB.out.fr q.fr fun h => h).cell 11
  have d12 : ∀ q : ClN w', q.w.cell? ⟨W.heap.size, 12, none⟩ = some (.int .u8 0) := fun q => (HB.out.fr q.fr fun h => h).cell 12
  have d13 : ∀ q : ClN w', q.w.cell? ⟨W.heap.size, 13, none⟩ = some (.bool true) := fun q => (HB.out.fr q.fr fun h => h).cell 13
  have d14 : ∀ q : ClN w', q.w.cell? ⟨W.heap.size, 14, none⟩ = some (.slice none 0 0) := fun q => (HB.out.fr q.fr fun h => h).cell 14
  have d15 : ∀ q : ClN w', q.w.cell? ⟨W.heap.size, 15, none⟩ = some (.slice none 0 0) := fun q => (HB.out.fr q.fr fun h => h).cell 15
  have dq : ∀ q : ClN w', W.heap.size < q.w.heap.size := fun q => (HB.out.fr q.fr fun h => h).lt
  have hbx : ∀ q : ClN w', Blk q.w gx 138 (Th.cells ⟨13, (home : Int), tv, 0, 0, ofr, 0, 0, false⟩).toArray := fun q => ((HOK.out.no HF0.out).no q.fr).box _ (Wm.get_mem HG.out)
  obtain ⟨tk, tn, ts, tA, tcap, tl, tr⟩ := tv
  have e0 : ∀ q : ClN w', q.w.cell? ⟨gx, 0, none⟩ = some (.int .u8 13) := fun q => (hbx q).cell 0
  have e1 : ∀ q : ClN w', q.w.cell? ⟨gx, 1, none⟩ = some (.int .i64 (home : Int)) := fun q => (hbx q).cell 1
  have e10 : ∀ q : ClN w', q.w.cell? ⟨gx, 10, none⟩ = some (.int .i64 ofr) := fun q => (hbx q).cell 10
  have e11 : ∀ q : ClN w', q.w.cell? ⟨gx, 11, none⟩ = some (.int .i64 0) := fun q => (hbx q).cell 11
  have e12 : ∀ q : ClN w', q.w.cell? ⟨gx, 12, none⟩ = some (.int .u8 0) := fun q => (hbx q).cell 12
  have e13 : ∀ q : ClN w', q.w.cell? ⟨gx, 13, none⟩ = some (.bool false) := fun q => (hbx q).cell 13
  have HFq : Hid (∀ q : ClN w', Calls Tryz.prog 154 #[.pointer (some ⟨m.wb, 0, none⟩), .agg #[.int .u8 13, .int .i64 (home : Int), .int .u8 0, .int .i64 0, .string ⟨#[]⟩, .slice none 0 0, .int .i64 0, .slice none 0 0, .int .i64 0, .int .i64 0, .int .i64 ofr, .int .i64 0, .int .u8 0, .bool true, .slice none 0 0, .slice none 0 0]] q.w fun e w'' => e = .returned (.bool true) ∧ ∃ q' : ClN w', w'' = q'.w) := hide fun q => by
    refine (HF.out q.w (HF0.out.trans q.fr)).mono ?_
    rintro e w'' ⟨rfl, f⟩
    exact ⟨rfl, ⟨w'', q.fr.trans f⟩, rfl⟩
  have HBX := hide hbx
  clear hbx HF
  have hinst : Nonempty (ClN w') := ⟨⟨w', Fr.refl No w'⟩⟩
  go_cut [79] from 20 to 78 (fun b wc => b = .bool false ∧ Fr No w' wc)
  case first => as_aux_lemma =>
    refine wp_region_quiet_cl (fun W' => ∃ q : ClN w', W' = q.w) (by kernel_rfl) (by kernel_rfl) ⟨⟨_, (Fr.refl No w').drew⟩, rfl⟩ ?_
    iterate 60 (go_big_quiet_step ((go_at_call 154; exact HFq.out _)))
    refine wpQuiet_nil ?_
    rintro w1 ⟨⟨_, f3⟩, rfl⟩
    go_wp2_with fail
    go_meet
    case rel => exact ⟨rfl, f3⟩
  obtain ⟨rfl, f3⟩ := hcut
  obtain ⟨w1, rfl⟩ : ∃ w1 : World, w1 = wc := ⟨_, rfl⟩
  have hb := HB.out.fr f3 fun h => h
  replace HB := hide hb
  have HF1 := hide (HF0.out.trans f3)
  clear d0 d1 d2 d3 d4 d5 d6 d7 d8 d9 d10 d11 d12 d13 d14 d15 dq e0 e1 e10 e11 e12 e13 HFq hinst f3
  obtain ⟨d0, d1, d2, d3, d4, d5, d6, d7, d8, d9, d10, d11, d12, d13, d14, d15⟩ := hb.cells16
  have dq := hb.lt
  clear hb
  go_wp2_with fail
  refine (HN.out w1 HF1.out).mono ?_
  rintro e w2 ⟨rfl, ff⟩
  have hb := HB.out.fr ff fun h => h
  replace HB := hide hb
  replace HF1 := hide (HF1.out.trans ff)
  clear d0 d1 d2 d3 d4 d5 d6 d7 d8 d9 d10 d11 d12 d13 d14 d15 dq ff
  obtain ⟨d0, d1, d2, d3, d4, d5, d6, d7, d8, d9, d10, d11, d12, d13, d14, d15⟩ := hb.cells16
  have dq := hb.lt
  clear hb
  go_wp2_with fail
  refine (HO.out w2 HF1.out).mono ?_
  rintro e w8 ⟨t9, rfl, hv9, hsh9, f9⟩
  obtain rfl := zero_of hsh9 (hv9.trans T.zero_v)
  have hval : Th.val ⟨13, (home : Int), T.zero, 0, 0, ofr, 0, 0, true⟩ = .agg (th16 13 (home : Int) 0 0 ⟨#[]⟩ none 0 0 0 0 0 ofr 0 0 true) := rfl
  rw [hval]
  have hbx := (((HOK.out.no HF1.out).no f9).box _ (Wm.get_mem HG.out))
  have hbx' : Blk w8 gx 138 (th16 13 (home : Int) tk tn ts tA tl.length tcap tr 0 0 ofr 0 0 false) := hbx
  unfold th16 at hbx' ⊢
  obtain ⟨e0, e1, e2, e3, e4, e5, e6, e7, e8, e9, e10, e11, e12, e13, e14, e15⟩ := hbx'.cells16
  have ez := hbx'.frozen
  have eq_ := hbx'.lt
  have HBX' := hide hbx'
  have HF8 := hide (HF1.out.trans f9)
  have HSH := hide hsh9
  have hz8 := HF1.out.size
  have HZ8 := hide hz8
  clear d0 d1 d2 d3 d4 d5 d6 d7 d8 d9 d10 d11 d12 d13 d14 d15 dq f9 hval hv9 hsh9 hbx hbx' hz8 HBX
  go_wp2_with fail
  refine bodyPost_ret (v := .int .i64 0) (by simp [results, Tryz.results105, go_sem, *]) rfl ?_
  generalize hWe : World.setCell _ _ _ = We
  have fe : Fr (fun i => i = gx) w8 We := by
    rw [← hWe]
    repeat (first | with_reducible exact Fr.refl _ w8 | with_reducible refine Fr.set ?_ (by simp) _)
  have h16 := ((((((((((((((((HBX'.out.set_ 0 (.int .u8 13)).set_ 1 (.int .i64 (home : Int))).set_ 2 (.int .u8 0)).set_ 3 (.int .i64 0)).set_ 4 (.string ⟨#[]⟩)).set_ 5 (.slice none 0 0)).set_ 6 (.int .i64 0)).set_ 7 (.slice none 0 0)).set_ 8 (.int .i64 0)).set_ 9 (.int .i64 0)).set_ 10 (.int .i64 ofr)).set_ 11 (.int .i64 0)).set_ 12 (.int .u8 0)).set_ 13 (.bool true)).set_ 14 (.slice none 0 0)).set_ 15 (.slice none 0 0))
  simp only [List.setIfInBounds_toArray, List.set_cons_zero, List.set_cons_succ] at h16
  rw [hWe] at h16
  have hsh := HSH.out
  have hz8 := HZ8.out
  have hf := lay_fin (y := ⟨13, (home : Int), T.zero, 0, 0, ofr, 0, 0, true⟩) HOK.out HG.out HF8.out fe h16 rfl ((hsh.fr fe fun b hb hh => by
    obtain ⟨cs', hb'⟩ := T.Sp.typed _ hsh.sp b hb
    exact Blk.ne_ hb' HBX'.out (by decide) hh).more (by omega) fe.size)
  exact ⟨rfl, hf.1, hf.2⟩

end Go.Proofs.YtlejelbefmkakaaGreat

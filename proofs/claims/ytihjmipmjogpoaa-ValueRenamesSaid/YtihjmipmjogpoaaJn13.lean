/- Texts joined: G5, U9, H0. -/
import Derived.Test.YtihjmipmjogpoaaJn12
import Derived.Deep.CutRange
import Derived.Deep.RegionLaw
import Derived.Test.YtihjmipmjogpoaaRows
import Derived.ProofKit
import Derived.OpenShut
import Derived.ChangeOld
/- Chapter 2: ValueRenames: what it computes. -/
namespace Go.Proofs.Ytihjmipmjogpoaa
open Go.RowKit

/-- What a region leaves that renames into a fresh box. -/
structure Rb (wa wx : World) (x : V) (g : Nat) (tt : T) : Prop where
  b : Blk wx g 27 tt.cells.toArray
  v : tt.v = x
  sh : tt.Sh wx wa.heap.size wx.heap.size
  g0 : wa.heap.size ≤ g
  gn : g ∉ tt.blocks
  f : Fr No wa wx

def RbP (wa : World) (x : V) (e : Int) (p q : Value) (wx : World) : Prop :=
  ∃ g tt, p = .pointer (some ⟨g, 0, none⟩) ∧ q = .int .i64 e ∧ Rb wa wx x g tt

theorem rb_new {w8 w9 : World} {k n : Int} {s : ByteArray} {A : Option Addr} {c : Nat} {l : List T} {r : Int} {x : V} {er : Int} (f9 : Fr No w8.drew w9) (hv : (T.mk k n s A c l r).v = x) (sh : (T.mk k n s A c l r).Sh w9 w8.drew.heap.size w9.heap.size) :
    RbP w8 x er (.pointer (some ⟨w9.heap.size, 0, none⟩)) (.int .i64 er) (w9.alloc (.cells #[.int .u8 k, .int .i64 n, .string s, .slice A l.length c, .int .i64 r] 27)) := by
  have f9' : Fr No w8 w9 := (Fr.refl No w8).drew.trans f9
  refine ⟨_, T.mk k n s A c l r, rfl, rfl, Blk.new w9 27 _, hv, (sh.no ((Fr.refl No w9).alloc _)).more (Nat.le_refl _) (by simp), f9'.size, fun h => ?_, f9'.alloc _⟩
  have := T.In.blocks _ sh.inn _ h
  omega

theorem rb_old {w8 w9 : World} {k n : Int} {s : ByteArray} {A : Option Addr} {c : Nat} {l : List T} {r : Int} {x : V} {er : Int} (f9 : Fr No (w8.alloc (.cells #[.int .u8 0, .int .i64 0, .string ⟨#[]⟩, .slice none 0 0, .int .i64 0] 27)).drew w9) (hv : (T.mk k n s A c l r).v = x) (sh : (T.mk k n s A c l r).Sh w9 (w8.alloc (.cells #[.int .u8 0, .int .i64 0, .string ⟨#[]⟩, .slice none 0 0, .int .i64 0] 27)).drew.heap.size w9.heap.size) :
    RbP w8 x er (.pointer (some ⟨w8.heap.size, 0, none⟩)) (.int .i64 er) (((((w9.setCell ⟨w8.heap.size, 0, none⟩ (.int .u8 k)).setCell ⟨w8.heap.size, 1, none⟩ (.int .i64 n)).setCell ⟨w8.heap.size, 2, none⟩ (.string s)).setCell ⟨w8.heap.size, 3, none⟩ (.slice A l.length c)).setCell ⟨w8.heap.size, 4, none⟩ (.int .i64 r)) := by
  have bz9 : Blk w9 w8.heap.size 27 #[.int .u8 0, .int .i64 0, .string ⟨#[]⟩, .slice none 0 0, .int .i64 0] := Blk.fr (a := (w8.alloc (.cells #[.int .u8 0, .int .i64 0, .string ⟨#[]⟩, .slice none 0 0, .int .i64 0] 27)).drew) (Blk.new w8 27 #[.int .u8 0, .int .i64 0, .string ⟨#[]⟩, .slice none 0 0, .int .i64 0]) f9 fun h => h
  have f9' : Fr No w8 w9 := ((Fr.refl No w8).alloc (.cells #[.int .u8 0, .int .i64 0, .string ⟨#[]⟩, .slice none 0 0, .int .i64 0] 27)).drew.trans f9
  have hb := ((((bz9.set_ 0 (.int .u8 k)).set_ 1 (.int .i64 n)).set_ 2 (.string s)).set_ 3 (.slice A l.length c)).set_ 4 (.int .i64 r)
  have hn : w8.heap.size ∉ (T.mk k n s A c l r).blocks := fun h => by
    have := T.In.blocks _ sh.inn _ h
    simp at this
    omega
  have hst : Fr (fun i => i = w8.heap.size) w9 (((((w9.setCell ⟨w8.heap.size, 0, none⟩ (.int .u8 k)).setCell ⟨w8.heap.size, 1, none⟩ (.int .i64 n)).setCell ⟨w8.heap.size, 2, none⟩ (.string s)).setCell ⟨w8.heap.size, 3, none⟩ (.slice A l.length c)).setCell ⟨w8.heap.size, 4, none⟩ (.int .i64 r)) :=
    (Fr.refl (fun i => i = w8.heap.size) w9).five (g := w8.heap.size) (fun _ => rfl) 0 _ _ _ _ _
  exact ⟨_, T.mk k n s A c l r, rfl, rfl, hb, hv, (sh.fr hst (fun b hb h => hn (h ▸ hb))).more (by simp) hst.size, Nat.le_refl _, hn, f9'.trans' hst fun i hi h => by omega⟩

set_option maxRecDepth 100000 in
set_option maxHeartbeats 16000000 in
theorem valueRenames_any (t : T) (Af : Option Addr) (cf : Nat) (fs : List Int) (At : Option Addr) (ct : Nat) (ts : List Int) (w : World) (ht : t.In w 0 w.heap.size) (pf : Ints w 0 w.heap.size Af cf fs) (pt : Ints w 0 w.heap.size At ct ts) :
    Calls Try.prog 15 #[t.val, .slice Af fs.length cf, .slice At ts.length ct] w fun e w' => e = .returned (.bool true) ∧ Fr No w w' := by
  cases t with
  | mk k n s A cap l r =>
    rw [T.val_mk]
    have fr1 := (Fr.refl No w).alloc (.cells #[.int .u8 k, .int .i64 n, .string s, .slice A l.length cap, .int .i64 r] 27)
    have bv1 : Blk (w.alloc (.cells #[.int .u8 k, .int .i64 n, .string s, .slice A l.length cap, .int .i64 r] 27)) w.heap.size 27 (T.mk k n s A cap l r).cells.toArray := Blk.new w 27 _
    have hlf := pf.len
    have hlt := pt.len
    have hsm := small_any (T.mk k n s A cap l r) 1200 40 _ 0 w.heap.size (ht.no fr1 (Nat.le_refl _)) fr1.size (by omega) (by omega) (by omega) (by omega)
    rw [T.val_mk] at hsm
    generalize hu : (T.mk k n s A cap l r).v = u at *
    have HU := hide hu
    have HT := hide ht
    have PF := hide pf
    have PT := hide pt
    have HF1 := hide fr1
    have HB1 := hide bv1
    clear hu ht pf pt fr1 bv1
    by_cases hfit : ¬ ((u.size : Int) ≤ 1200 ∧ (u.ht : Int) ≤ 40) ∨ (600 : Int) < (fs.length : Int) ∨ (600 : Int) < (ts.length : Int)
    · have hz : ∃ z : Int, smallOf u 1200 40 = z ∧ ((z = -1 ∧ ¬ ((u.size : Int) ≤ 1200 ∧ (u.ht : Int) ≤ 40)) ∨ (decide (z < 0) = false ∧ ((u.size : Int) ≤ 1200 ∧ (u.ht : Int) ≤ 40))) := by
        by_cases h : (u.size : Int) ≤ 1200 ∧ (u.ht : Int) ≤ 40
        · exact ⟨_, rfl, .inr ⟨by rw [smallOf_yes h]; simp, h⟩⟩
        · exact ⟨_, rfl, .inl ⟨smallOf_no h, h⟩⟩
      obtain ⟨z, hz, hz2⟩ := hz
      rw [hz] at hsm
      have HZ := hide hz
      have HSM := hide hsm
      clear hsm hz
      rcases hz2 with ⟨rfl, -⟩ | ⟨hz2, hs2⟩
      · clear hfit
        go_enter Try.func15, Try.ntmps15
        go_wp2_with fail
        refine HSM.out.mono ?_
        rintro e w2 ⟨rfl, f2⟩
        have G := hide (HF1.out.trans f2)
        clear f2
        go_wp2_with fail
        refine (awake_any _).mono ?_
        rintro e w3 ⟨rfl, f3⟩
        go_wp2
        go_ret
        exact ⟨rfl, G.out.trans f3⟩
      · have hfit2 := hfit.resolve_left (fun h => h hs2)
        clear hfit hs2
        by_cases h1 : (600 : Int) < (fs.length : Int)
        · clear hfit2
          go_enter Try.func15, Try.ntmps15
          go_wp2_with fail
          refine HSM.out.mono ?_
          rintro e w2 ⟨rfl, f2⟩
          have G := hide (HF1.out.trans f2)
          clear f2
          go_wp2_with fail
          refine (awake_any _).mono ?_
          rintro e w3 ⟨rfl, f3⟩
          go_wp2
          go_ret
          exact ⟨rfl, G.out.trans f3⟩
        have h2 := hfit2.resolve_left h1
        clear hfit2
        go_enter Try.func15, Try.ntmps15
        go_wp2_with fail
        refine HSM.out.mono ?_
        rintro e w2 ⟨rfl, f2⟩
        have G := hide (HF1.out.trans f2)
        clear f2
        go_wp2_with fail
        refine (awake_any _).mono ?_
        rintro e w3 ⟨rfl, f3⟩
        go_wp2
        go_ret
        exact ⟨rfl, G.out.trans f3⟩
    have hfs : (u.size : Int) ≤ 1200 ∧ (u.ht : Int) ≤ 40 := Classical.byContradiction fun h => hfit (.inl h)
    have h1 : ¬ (600 : Int) < (fs.length : Int) := fun h => hfit (.inr (.inl h))
    have h2 : ¬ (600 : Int) < (ts.length : Int) := fun h => hfit (.inr (.inr h))
    rw [smallOf_yes hfs] at hsm
    have hnn : decide ((u.size : Int) < 0) = false := by simp
    have HSM := hide hsm
    clear hfit hfs hsm
    generalize hqq : u.size = qq at *
    clear hqq
    obtain ⟨i0, hi0, hz0, hz1, hz2⟩ := info_parts ref_info
    go_enter Try.func15, Try.ntmps15
    go_wp2_with fail
    generalize World.alloc w _ = w1 at *
    refine HSM.out.mono ?_
    rintro e w2 ⟨rfl, f2⟩
    have bv2 := HB1.out.fr f2 fun h => h
    have f02 := HF1.out.trans f2
    obtain ⟨c0, c1, c2, c3, c4, -⟩ := Blk.cells5 bv2
    have q0 := bv2.lt
    have hle := lent_any (T.mk k n s A cap l r) w2 0 w.heap.size (HT.out.no f02 (Nat.le_refl _)) f02.size
    rw [T.val_mk, HU.out] at hle
    have HLE := hide hle
    have HB2 := hide bv2
    have HF2 := hide f02
    clear hle bv2 f02 f2 HSM HB1 HF1
    go_wp2_with fail
    refine HLE.out.mono ?_
    rintro e w3 ⟨⟨ko, no, so, Ao, co, lo, ro⟩, rfl, hvo, hino, hmko, f3⟩
    rw [T.val_mk]
    have L4 : Lo w (w3.alloc (.cells #[.int .u8 ko, .int .i64 no, .string so, .slice Ao lo.length co, .int .i64 ro] 27)) w.heap.size w3.heap.size (T.mk k n s A cap l r) (T.mk ko no so Ao co lo ro) w2.heap.size w3.heap.size :=
      ⟨(HB2.out.fr f3 fun h => h).alloc _, Blk.new w3 27 _, (HT.out.no (HF2.out.trans f3) (Nat.le_refl _)).no ((Fr.refl No w3).alloc _) (HF2.out.trans f3).size, hino.no ((Fr.refl No w3).alloc _) (Nat.le_refl _),
        T.Mk.no ((Fr.refl No w3).alloc _) (Nat.le_refl _) hino hmko, (HF2.out.trans f3).alloc _, Nat.le_refl _, HB2.out.lt, f3.size, Nat.le_refl _⟩
    have hg3 := L4.bo.lt
    have hs02 := HF2.out.size
    have hs23 := f3.size
    have pf4 := PF.out.no L4.f (Nat.le_refl _)
    have HL4 := hide L4
    have HPF4 := hide pf4
    have HVO := hide hvo
    clear L4 pf4 hvo hino hmko f3 HLE HB2 HF2 c0 c1 c2 c3 c4 q0
    have hfl : fs.length ≤ 1000000 := by omega
    have htl : ts.length ≤ 1000000 := by omega
    go_upto_region 4 with (fail)
    generalize hW4 : World.alloc w3 _ = w4 at *
    have hs4 : w4.heap.size = w3.heap.size + 1 := by rw [← hW4]; simp
    clear hW4
    go_wp2_with (first
      | (at_builtin; refine wpList_copy_refs w4 (by rfl) _ _ (by rfl) (by rfl) Af cf fs (by rfl) 0 w.heap.size HPF4.out hfl ?_; intro vf w5 of5 f5; have of5' := of5.alloc (.cells #[.int .i64 77] 25); have HOF5 := hide of5; have HF5 := hide f5; have hs5 := f5.size; clear of5 f5)
      | (at_builtin; refine wpList_append_lies _ (by rfl) _ _ _ (by rfl) w4.heap.size 25 i0 _ 1 8 Try.underlying100 hi0 hz0 hz1 hz2 (by rfl) (by omega) vf fs.length (refCells fs) (by rfl) of5' ⟨w5.heap.size, 0, none⟩ 1 1 [.int .i64 77] (by rfl) (by rfl) (World.news_of_block (Blk.new w5 25 #[.int .i64 77])) (by simp [Value.oneCell']) (by omega) (by unfold maxLen; omega) (by omega) (by simp; omega) (w5.heap.size + 1) (by simp) ?_; intro gf kf w6 of6 g6 at6 lt6; have f46 : Fr No w4 w6 := (HF5.out.alloc (.cells #[.int .i64 77] 25)).trans' (fr_grown g6) (fun i hi h => by have := owns_lt HOF5.out i h.symm; omega); have HOF6 := hide of6; have hs6 := f46.size; have HPT6 := hide (PT.out.no (HL4.out.f.trans f46) (Nat.le_refl _)); have HF46 := hide f46; clear of6 g6 at6 of5' HOF5 HF5 f46)
      | (at_builtin; refine wpList_copy_refs w6 (by rfl) _ _ (by rfl) (by rfl) At ct ts (by rfl) 0 w.heap.size HPT6.out htl ?_; intro vt w7 ot7 f7; have ot7' := ot7.alloc (.cells #[.int .i64 78] 25); have HOT7 := hide ot7; have HF7 := hide f7; have hs7 := f7.size; clear ot7 f7)
      | (at_builtin; refine wpList_append_lies _ (by rfl) _ _ _ (by rfl) w6.heap.size 25 i0 _ 1 8 Try.underlying100 hi0 hz0 hz1 hz2 (by rfl) (by omega) vt ts.length (refCells ts) (by rfl) ot7' ⟨w7.heap.size, 0, none⟩ 1 1 [.int .i64 78] (by rfl) (by rfl) (World.news_of_block (Blk.new w7 25 #[.int .i64 78])) (by simp [Value.oneCell']) (by omega) (by unfold maxLen; omega) (by omega) (by simp; omega) (w7.heap.size + 1) (by simp) ?_; intro gt kt w8 ot8 g8 at8 lt8; have f68 : Fr No w6 w8 := (HF7.out.alloc (.cells #[.int .i64 78] 25)).trans' (fr_grown g8) (fun i hi h => by have := owns_lt HOT7.out i h.symm; omega); have HOT8 := hide ot8; have hs8 := f68.size; have HF68 := hide f68; clear ot8 g8 at8 ot7' HOT7 HF7 f68))
    have L8 := (HL4.out.no HF46.out).no HF68.out
    have PF8 := ints_of_front HOF6.out hfl (HPF4.out.rng)
    have pt8 := ints_of_front HOT8.out htl (HPT6.out.rng)
    have pf8 := PF8.1.no HF68.out (Nat.le_refl _)
    have hg0 : w4.heap.size ≤ gf := PF8.2.2.2.1
    have hg1 : gf < w6.heap.size := lt6
    have hkf : fs.length + 1 ≤ kf := PF8.2.2.2.2.2
    have hkt : ts.length + 1 ≤ kt := pt8.2.2.2.2.2
    have cl : ∀ w', Fr No w8 w' → Calls Try.prog 72 #[(T.mk ko no so Ao co lo ro).val, .slice (some ⟨gf, 0, none⟩) fs.length kf, .slice (some ⟨gt, 0, none⟩) ts.length kt] w' (OwnE2 (renV u fs ts).1 (renV u fs ts).2 w') := fun w' f => by
      have h := Rename_any (T.mk ko no so Ao co lo ro) w' w2.heap.size w3.heap.size (L8.no f).io (by have := f.size; omega) (some ⟨gf, 0, none⟩) (some ⟨gt, 0, none⟩) kf kt fs ts w4.heap.size w6.heap.size w6.heap.size w8.heap.size (pf8.no f (by omega)) (by have := f.size; omega) (pt8.1.no f (Nat.le_refl _)) f.size
      rw [HVO.out] at h
      exact h
    rw [T.val_mk] at cl
    have HCL := hide cl
    have HL8 := hide L8
    obtain ⟨x0, x1, x2, x3, x4, -⟩ := Blk.cells5 L8.bo
    have q1 := L8.bo.lt
    have hkf1 : (fs.length : Int) ≤ (kf : Int) := by omega
    have hkt1 : (ts.length : Int) ≤ (kt : Int) := by omega
    generalize hER : (renV u fs ts).2 = er at *
    generalize hXX : (renV u fs ts).1 = X at *
    have HER := hide hER
    have HXX := hide hXX
    clear hER hXX
    clear L8 PF8 pt8 pf8 cl
    go_cut [10, 11] from 42 to 54 (fun p q wx => RbP w8 X er p q wx)
    case first =>
      go_region_with (first
        | (go_at_call 72; (with_reducible refine (HCL.out _ (Fr.drew (Fr.refl No w8))).mono ?_); rintro e w9 ⟨⟨kx, nx, sx, Ax, cx, lx, rx⟩, rfl, hvx, hshx, f9⟩; rw [T.val_mk]; have hal : True := trivial)
        | (go_at_call 72; (with_reducible refine (HCL.out _ (Fr.drew (Fr.alloc (Fr.refl No w8) _))).mono ?_); rintro e w9 ⟨⟨kx, nx, sx, Ax, cx, lx, rx⟩, rfl, hvx, hshx, f9⟩; rw [T.val_mk]; have bz9 : Blk w9 w8.heap.size 27 #[.int .u8 0, .int .i64 0, .string ⟨#[]⟩, .slice none 0 0, .int .i64 0] := Blk.fr (a := (w8.alloc (.cells #[.int .u8 0, .int .i64 0, .string ⟨#[]⟩, .slice none 0 0, .int .i64 0] 27)).drew) (Blk.new w8 27 #[.int .u8 0, .int .i64 0, .string ⟨#[]⟩, .slice none 0 0, .int .i64 0]) f9 fun h => h; obtain ⟨d0, d1, d2, d3, d4, df⟩ := bz9.cells5; have qz := bz9.lt))
      all_goals
        go_simp
        go_wp2_with fail
        go_meet
        first | exact rb_new f9 hvx hshx | exact rb_old f9 hvx hshx
    case rest =>
      obtain ⟨ga, ta, rfl, rfl, rb⟩ := hcut
      obtain ⟨wp, rfl⟩ : ∃ wp : World, wp = wc := ⟨_, rfl⟩
      have Lc := HL8.out.no rb.f
      clear x0 x1 x2 x3 x4 q1
      obtain ⟨x0, x1, x2, x3, x4, -⟩ := Blk.cells5 Lc.bo
      have q1 := Lc.bo.lt
      have hcc := fun w' (f : Fr No wp w') => HCL.out w' (rb.f.trans f)
      have HCC := hide hcc
      have HRB := hide rb
      have HLC := hide Lc
      clear rb Lc hcc HCL
      go_upto_region 7 with (fail)
      go_cut [12, 13] from 55 to 67 (fun p q wx => RbP wp X er p q wx)
      case first =>
        go_region_with (first
          | (go_at_call 72; (with_reducible refine (HCC.out _ (Fr.drew (Fr.refl No wp))).mono ?_); rintro e w9 ⟨⟨kx, nx, sx, Ax, cx, lx, rx⟩, rfl, hvx, hshx, f9⟩; rw [T.val_mk]; have hal : True := trivial)
          | (go_at_call 72; (with_reducible refine (HCC.out _ (Fr.drew (Fr.alloc (Fr.refl No wp) _))).mono ?_); rintro e w9 ⟨⟨kx, nx, sx, Ax, cx, lx, rx⟩, rfl, hvx, hshx, f9⟩; rw [T.val_mk]; have bz9 : Blk w9 wp.heap.size 27 #[.int .u8 0, .int .i64 0, .string ⟨#[]⟩, .slice none 0 0, .int .i64 0] := Blk.fr (a := (wp.alloc (.cells #[.int .u8 0, .int .i64 0, .string ⟨#[]⟩, .slice none 0 0, .int .i64 0] 27)).drew) (Blk.new wp 27 #[.int .u8 0, .int .i64 0, .string ⟨#[]⟩, .slice none 0 0, .int .i64 0]) f9 fun h => h; obtain ⟨d0, d1, d2, d3, d4, df⟩ := bz9.cells5; have qz := bz9.lt))
        all_goals
          go_simp
          go_wp2_with fail
          go_meet
          first | exact rb_new f9 hvx hshx | exact rb_old f9 hvx hshx
      case rest =>
        obtain ⟨gb, tb, rfl, rfl, rb2⟩ := hcut
        obtain ⟨wq, rfl⟩ : ∃ wq : World, wq = wc := ⟨_, rfl⟩
        have Lq := HLC.out.no rb2.f
        clear x0 x1 x2 x3 x4 q1
        obtain ⟨x0, x1, x2, x3, x4, -⟩ := Blk.cells5 Lq.bv
        have q1 := Lq.bv.lt
        have hrr := refRename_any (T.mk k n s A cap l r) wq 0 w.heap.size Lq.iv Lq.f.size Af At cf ct fs ts 0 w.heap.size 0 w.heap.size (PF.out.no Lq.f (Nat.le_refl _)) Lq.f.size (PT.out.no Lq.f (Nat.le_refl _)) Lq.f.size
        rw [T.val_mk, HU.out, HER.out, HXX.out] at hrr
        have HRR := hide hrr
        have HRB2 := hide rb2
        have HLQ := hide Lq
        clear hrr rb2 Lq
        go_wp2_with fail
        refine HRR.out.mono ?_
        rintro e wz ⟨⟨kz, nz, sz, Az, cz, lz, rz⟩, rfl, hvz, hinz, fz⟩
        rw [T.val_mk]
        obtain ⟨ka, na, sa, Aa, ca, la, ra⟩ := ta
        obtain ⟨kb, nb, sb, Ab, cb, lb, rb⟩ := tb
        have fx := fz.alloc (.cells #[.int .u8 kz, .int .i64 nz, .string sz, .slice Az lz.length cz, .int .i64 rz] 27)
        have fy := (Fr.refl No wz).alloc (.cells #[.int .u8 kz, .int .i64 nz, .string sz, .slice Az lz.length cz, .int .i64 rz] 27)
        have xc := Blk.new wz 27 #[.int .u8 kz, .int .i64 nz, .string sz, .slice Az lz.length cz, .int .i64 rz]
        have hxc := xc.lt
        have icz := hinz.no fy (Nat.le_refl _)
        have xa := (HRB.out.b.fr HRB2.out.f fun h => h).fr fx fun h => h
        have sa' := (HRB.out.sh.no HRB2.out.f).no fx
        have xb := HRB2.out.b.fr fx fun h => h
        have sb' := HRB2.out.sh.no fx
        have La := HLQ.out.no fx
        have F8 := (HRB.out.f.trans HRB2.out.f).trans fx
        have OF := owns_fr HOF6.out (HF68.out.trans F8) fun _ _ h => h
        have OT := owns_fr HOT8.out F8 fun _ _ h => h
        have hszz := fz.size
        have hszp := HRB.out.f.size
        have hszq := HRB2.out.f.size
        have hbl : ∀ i ∈ (T.mk ka na sa Aa ca la ra).blocks, w8.heap.size ≤ i ∧ i < wp.heap.size := fun i hi => T.In.blocks _ sa'.inn i hi
        have hh := held_any (T.mk ka na sa Aa ca la ra) (T.mk kb nb sb Ab cb lb rb) (T.mk kz nz sz Az cz lz rz) X _ w8.heap.size wp.heap.size wp.heap.size wq.heap.size wq.heap.size wz.heap.size sa' (by omega) (by omega) sb'.inn (by omega) (fun i h0 _ hi => by have := hbl i hi; omega) icz (by omega) (fun i h0 _ hi => by have := hbl i hi; omega) HRB.out.v HRB2.out.v hvz (by have := renV_may u fs ts; rw [HXX.out] at this; exact this)
        rw [T.val_mk, T.val_mk, T.val_mk] at hh
        have HH := hide hh
        have HBL := hide hbl
        have HLA := hide La
        have HOF := hide OF
        have HOT := hide OT
        obtain ⟨a0, a1, a2, a3, a4, -⟩ := Blk.cells5 xa
        obtain ⟨b0, b1, b2, b3, b4, -⟩ := Blk.cells5 xb
        have aq := xa.lt
        have bq := xb.lt
        clear hh hbl La OF OT xa xb xc icz sa' sb' fx fy F8 fz hinz hvz HRR HRB HRB2 HLQ HLC HCC x0 x1 x2 x3 x4 q1 HOF6 HOT8 HPF4 HPT6 HF46 HL4 HL8
        go_wp2_with fail
        generalize World.alloc wz _ = wA at *
        refine HH.out.mono ?_
        rintro e wB ⟨rfl, fB⟩
        have hnb : ∀ i, i < w8.heap.size → ¬ i ∈ (T.mk ka na sa Aa ca la ra).blocks := fun i hi h => by have := HBL.out i h; omega
        have Lb := HLA.out.fr fB (fun i hi h => hnb i (by omega) h)
        have OF := owns_fr HOF.out fB (fun g hg h => by simp [Value.ownBlock] at hg; subst hg; exact hnb _ (by omega) h)
        have OT := owns_fr HOT.out fB (fun g hg h => by simp [Value.ownBlock] at hg; subst hg; exact hnb _ (by have := owns_lt HOT.out _ rfl; omega) h)
        have hPF := ints_of_front OF hfl PF.out.rng
        have hPT := ints_of_front OT htl PT.out.rng
        have hcf : ∀ wr, Fr No wB wr → ∀ i x, fs[i]? = some x → wr.cell? ⟨gf, i, none⟩ = some (.int .i64 x) := fun wr f i x hx => (f.cell hPF.2.2.2.2.1 (fun h => h)).trans (hPF.2.2.1 i x hx)
        have hct : ∀ wr, Fr No wB wr → ∀ i x, ts[i]? = some x → wr.cell? ⟨gt, i, none⟩ = some (.int .i64 x) := fun wr f i x hx => (f.cell hPT.2.2.2.2.1 (fun h => h)).trans (hPT.2.2.1 i x hx)
        have hm77 := hPF.2.1
        have hm78 := hPT.2.1
        have hgf2 := hPF.2.2.2.2.1
        have hgt2 := hPT.2.2.2.2.1
        have HCF := hide hcf
        have HCT := hide hct
        have HLB := hide Lb
        have HGB := hide Lb.f
        have hszB := Lb.f.size
        clear hnb Lb OF OT hPF hPT hcf hct HBL HLA HOF HOT fB HH a0 a1 a2 a3 a4 b0 b1 b2 b3 b4 aq bq
        go_wp2_with fail
        go_loopw [16] (fun i wr => ∃ j : Nat, j ≤ fs.length ∧ i = .int .i64 j ∧ Fr No wB wr) (fun i _ => fs.length - (intOf i).toNat)
        case atStart => exact ⟨0, Nat.zero_le _, rfl, Fr.refl _ _⟩
        case round =>
          obtain ⟨j, hj, rfl, fr⟩ := hrel
          by_cases hjl : j < fs.length
          · obtain ⟨bf, off, rfl, hbf0, hbf1, hcf⟩ := (PF.out.no (HGB.out.trans fr) (Nat.le_refl _)).elem hjl
            have hx : fs[j]? = some fs[j] := List.getElem?_eq_getElem hjl
            have hco := HCF.out wr fr j _ hx
            have hsr := (HGB.out.trans fr).size
            have g0 : bf < wr.heap.size := by omega
            have g1 : gf < wr.heap.size := by have := fr.size; omega
            generalize fs[j] = x at *
            have HF := hide fr
            clear hx fr
            go_wp2_with fail
            go_quiet (fail)
            go_wp2
            go_roundw
            case rel => exact ⟨j + 1, hjl, by go_num, HF.out.drewN _⟩
            case measure => simp [intOf]; omega
          · obtain rfl : j = fs.length := by omega
            obtain ⟨wC, rfl⟩ : ∃ wC : World, wC = wr := ⟨_, rfl⟩
            have HFP := hide fr
            have hsBC := fr.size
            clear fr hj hjl
            go_wp2_with fail
            go_loopw [17] (fun i wr => ∃ j : Nat, j ≤ ts.length ∧ i = .int .i64 j ∧ Fr No wC wr) (fun i _ => ts.length - (intOf i).toNat)
            case atStart => exact ⟨0, Nat.zero_le _, rfl, Fr.refl _ _⟩
            case round =>
              obtain ⟨j, hj, rfl, fr⟩ := hrel
              by_cases hjl : j < ts.length
              · obtain ⟨bf, off, rfl, hbf0, hbf1, hcf⟩ := (PT.out.no (HGB.out.trans (HFP.out.trans fr)) (Nat.le_refl _)).elem hjl
                have hx : ts[j]? = some ts[j] := List.getElem?_eq_getElem hjl
                have hco := HCT.out wr (HFP.out.trans fr) j _ hx
                have hsr := (HGB.out.trans (HFP.out.trans fr)).size
                have g0 : bf < wr.heap.size := by omega
                have g1 : gt < wr.heap.size := by have := fr.size; have := HFP.out.size; omega
                generalize ts[j] = x at *
                have HF := hide fr
                clear hx fr
                go_wp2_with fail
                go_quiet (fail)
                go_wp2
                go_roundw
                case rel => exact ⟨j + 1, hjl, by go_num, HF.out.drewN _⟩
                case measure => simp [intOf]; omega
              · obtain rfl : j = ts.length := by omega
                have Le := HLB.out.no (HFP.out.trans fr)
                obtain ⟨c0, c1, c2, c3, c4, -⟩ := Blk.cells5 Le.bv
                obtain ⟨x0, x1, x2, x3, x4, -⟩ := Blk.cells5 Le.bo
                have q0 := Le.bv.lt
                have q1 := Le.bo.lt
                have hke := kept_any (T.mk ko no so Ao co lo ro) (T.mk k n s A cap l r) wr _ _ _ _ Le.io Le.lt Le.mo Le.iv Le.f.size (HVO.out.trans HU.out.symm)
                rw [T.val_mk, T.val_mk] at hke
                have HKE := hide hke
                have HGE := hide (HGB.out.trans (HFP.out.trans fr))
                clear hke Le fr hj hjl
                go_wp2_with fail
                refine HKE.out.mono ?_
                rintro e wf ⟨rfl, ff⟩
                have HGF := hide (HGE.out.trans ff)
                clear ff
                go_wp2_with fail
                refine (awake_any _).mono ?_
                rintro e wl ⟨rfl, fl⟩
                go_wp2
                go_ret
                exact ⟨rfl, HGF.out.trans fl⟩

end Go.Proofs.Ytihjmipmjogpoaa

/- An argument that is a row of whole numbers. -/
namespace Go.Proofs.Ytihjmipmjogpoaa
open Go.Joins Go.ChangeShapes Go.WideShapes Go.RowKit Go.Deep

section
variable {H : Type} {enc : TypeId × Value → H}

set_option maxRecDepth 100000 in
theorem open_ints {ty el : TypeId} (hty : Try.prog.underlying ty = some (.slice el)) (hel0 : Try.prog.underlying el = some (.int .i64)) (hcells : Try.prog.cellsOf el = 1) (hbytes : Try.prog.bytesOf el = 8)
    {W : World} {b0 : Nat} {v : Value} {d : DataW H} {p : List MemPlace} (hv : Value.okWide Try.prog W .any b0 ty v) (h : DataW.Trod enc Try.prog W 0 (fun _ => true) true ty v d p) (hw : ∀ m ∈ d.weights Try.prog ty, m ≤ reachBytes) :
    ∃ A cap l, v = .slice A l.length cap ∧ Ints W 0 W.heap.size A cap l := by
  obtain ⟨A, len, cap, rfl⟩ := okWide_slice hty hv
  obtain ⟨fuel, hf⟩ := h
  have hcs : Value.cells (.slice A len cap) = #[.slice A len cap] := rfl
  rw [hcs] at hf
  rcases DataW.trod_slice hty hf with ⟨e3, -⟩ | ⟨a, len', cap', elems, rest, n', rfl, e3, e5, -, hcap, hmax, hel, hat, hsp, -⟩
  · simp at e3
    obtain ⟨rfl, rfl, rfl⟩ := e3
    exact ⟨none, 0, [], rfl, by simp, Nat.le_refl _, fun h => absurd rfl h, by simp⟩
  · simp at e3
    obtain ⟨rfl, rfl, rfl⟩ := e3
    simp only [Prod.mk.injEq] at e5
    obtain ⟨rfl, -⟩ := e5
    have hlen1 : len * 8 ≤ 140737488351232 := by
      have := hw ((elems.length + rest.length) * 8) (by rw [DataW.weights, hty]; simp [hbytes])
      rw [reach_eq, hel] at this
      omega
    rw [hcells] at hat
    have hone : ∀ i, i < len → ∃ x : Int, W.cell? (a.add i) = some (.int .i64 x) ∧ -9223372036854775808 ≤ x ∧ x ≤ 9223372036854775807 := by
      intro i hi
      have h1 := hat i hi
      rw [Nat.mul_one] at h1
      have h2 : elems[i]? = some (elems[i]'(by omega)) := List.getElem?_eq_getElem (by omega)
      rw [h2] at h1
      obtain ⟨cs', hc, ht'⟩ := Option.bind_eq_some_iff.1 h1
      obtain ⟨r, rfl, -, wr⟩ := DataW.trod_int hel0 ht'
      obtain ⟨-, -, hcell⟩ := World.cells?_some hc
      have hc0 := hcell 0 (by omega)
      refine ⟨r, ?_, wf_i64 wr⟩
      have e0 : (a.add i).add 0 = a.add i := by unfold Addr.add; split <;> simp_all
      rw [e0] at hc0
      simpa using hc0
    obtain ⟨l, hl, hq⟩ := choose_list len hone
    subst hl
    obtain ⟨b, o, sp⟩ := a
    refine ⟨some ⟨b, o, sp⟩, cap, l, rfl, hlen1, hcap, fun hne => ?_, fun x hx => ?_⟩
    · have hlp : 0 < l.length := List.length_pos_iff.2 hne
      obtain ⟨hcc, -⟩ := hq 0 _ (List.getElem?_eq_getElem hlp)
      have hspot : sp = none := by simpa [Addr.add] using World.cell?_spot hcc
      subst hspot
      have hlt := cell_lt hcc
      refine ⟨b, o, rfl, Nat.zero_le _, by simpa [Addr.add] using hlt, fun i x hx => ?_⟩
      have := (hq i x hx).1
      rw [add_at] at this
      exact this
    · obtain ⟨i, hi, rfl⟩ := List.mem_iff_getElem.1 hx
      exact (hq i _ (List.getElem?_eq_getElem hi)).2

set_option maxRecDepth 100000 in
theorem open_refs {W : World} {b0 : Nat} {v : Value} {d : DataW H} {p : List MemPlace} (hv : Value.okWide Try.prog W .any b0 100 v) (h : DataW.Trod enc Try.prog W 0 (fun _ => true) true 100 v d p) (hw : ∀ m ∈ d.weights Try.prog 100, m ≤ reachBytes) :
    ∃ A cap l, v = .slice A l.length cap ∧ Ints W 0 W.heap.size A cap l :=
  open_ints Try.underlying100 Try.underlying25 (by kernel_rfl) (by kernel_rfl) hv h hw

set_option maxRecDepth 100000 in
theorem open_place {W : World} {b0 : Nat} {v : Value} {d : DataW H} {p : List MemPlace} (hv : Value.okWide Try.prog W .any b0 77 v) (h : DataW.Trod enc Try.prog W 0 (fun _ => true) true 77 v d p) (hw : ∀ m ∈ d.weights Try.prog 77, m ≤ reachBytes) :
    ∃ A cap l, v = .slice A l.length cap ∧ Ints W 0 W.heap.size A cap l :=
  open_ints Try.underlying77 Try.underlying3 (by kernel_rfl) (by kernel_rfl) hv h hw
end

end Go.Proofs.Ytihjmipmjogpoaa

/- Two closed facts for the lifts. -/
namespace Go.Proofs.Ytihjmipmjogpoaa
theorem knob0 : ownKnob Try.prog.godebug = none := by kernel_rfl
theorem laidOut0 : laidOutB Try.prog = true := by kernel_rfl
end Go.Proofs.Ytihjmipmjogpoaa

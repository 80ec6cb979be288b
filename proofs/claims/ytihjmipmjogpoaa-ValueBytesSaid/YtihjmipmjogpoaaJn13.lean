/- Texts joined: J24, H0. -/
import Derived.Test.YtihjmipmjogpoaaJn12
import Derived.Test.YtihjmipmjogpoaaRows
import Derived.ProofKit
import Derived.OpenShut
import Derived.ChangeOld
/- Chapter 2: ValueBytes: what it computes. -/
namespace Go.Proofs.Ytihjmipmjogpoaa
open Go.RowKit

theorem bytes_both (u : V) : ∃ (tt : ByteArray) (en : Int), ∀ w e w', BytesP u w e w' → e = .returned (.tuple #[.string tt, .int .i64 en]) ∧ Fr No w w' := by
  by_cases h : u.hasBytes
  · exact ⟨u.encS, 0, fun w e w' hp => ⟨hp.2.1 h, hp.1⟩⟩
  · exact ⟨⟨#[]⟩, 2, fun w e w' hp => ⟨hp.2.2 h, hp.1⟩⟩

theorem read_both (s : ByteArray) : ∃ (u : V) (en : Int), u.may = true ∧ (∀ w e w', ReadS s w e w' → ∃ t : T, e = .returned (.tuple #[t.val, .int .i64 en]) ∧ t.v = u ∧ t.Sh w' w.heap.size w'.heap.size ∧ Fr No w w') ∧
    (∀ w e w', ReadP s w e w' → ∃ t : T, e = .returned (.tuple #[t.val, .int .i64 en]) ∧ t.v = u ∧ t.In w' w.heap.size w'.heap.size ∧ Fr No w w') := by
  by_cases hb : 262144 < s.size
  · exact ⟨V.zero, 4, vzero_may, fun w e w' h => ⟨T.zero, h.big hb, T.zero_v, T.zero_sh _ _ _, h.fr⟩, fun w e w' h => ⟨T.zero, h.big hb, T.zero_v, (T.zero_sh _ _ _).inn, h.fr⟩⟩
  by_cases hp : ∃ u n', parse 16 s 512 = some (u, ⟨#[]⟩, n')
  · obtain ⟨u, n', hp⟩ := hp
    refine ⟨u, 0, (parse_has hp).1.1, fun w e w' h => ?_, fun w e w' h => ?_⟩
    · obtain ⟨t, h1, h2, h3⟩ := h.yes u n' (by omega) hp
      exact ⟨t, h2, h1, h3, h.fr⟩
    · obtain ⟨t, h1, h2, h3⟩ := h.yes u n' (by omega) hp
      exact ⟨t, h2, h1, h3, h.fr⟩
  · have hno : ∀ u n', parse 16 s 512 ≠ some (u, ⟨#[]⟩, n') := fun u n' h => hp ⟨u, n', h⟩
    exact ⟨V.zero, 20, vzero_may, fun w e w' h => ⟨T.zero, h.no (by omega) hno, T.zero_v, T.zero_sh _ _ _, h.fr⟩, fun w e w' h => ⟨T.zero, h.no (by omega) hno, T.zero_v, (T.zero_sh _ _ _).inn, h.fr⟩⟩

theorem front_both (s : ByteArray) : ∃ (u : V) (rest : ByteArray) (en : Int), u.may = true ∧ (∀ w e w', FrontP s w e w' → ∃ t : T, e = .returned (.tuple #[t.val, .string rest, .int .i64 en]) ∧ t.v = u ∧ t.In w' w.heap.size w'.heap.size ∧ Fr No w w') := by
  cases hp : parse 16 s 512 with
  | none => exact ⟨V.zero, ⟨#[]⟩, 20, vzero_may, fun w e w' h => ⟨T.zero, h.no hp, T.zero_v, (T.zero_sh _ _ _).inn, h.fr⟩⟩
  | some q =>
    obtain ⟨u, s', n'⟩ := q
    refine ⟨u, s', 0, (parse_has hp).1.1, fun w e w' h => ?_⟩
    obtain ⟨t, h1, h2, h3⟩ := h.yes u s' n' hp
    exact ⟨t, h2, h1, h3, h.fr⟩

set_option maxRecDepth 100000 in
set_option maxHeartbeats 16000000 in
theorem valueBytes_any (t : T) (str : ByteArray) (w : World) (ht : t.In w 0 w.heap.size) : Calls Try.prog 9 #[t.val, .string str] w fun e w' => e = .returned (.bool true) ∧ Fr No w w' := by
  cases t with
  | mk k n s A cap l r =>
    rw [T.val_mk]
    have fr1 := (Fr.refl No w).alloc (.cells #[.int .u8 k, .int .i64 n, .string s, .slice A l.length cap, .int .i64 r] 27)
    have bv1 : Blk (w.alloc (.cells #[.int .u8 k, .int .i64 n, .string s, .slice A l.length cap, .int .i64 r] 27)) w.heap.size 27 (T.mk k n s A cap l r).cells.toArray := Blk.new w 27 _
    have hsm := small_any (T.mk k n s A cap l r) 1200 40 _ 0 w.heap.size (ht.no fr1 (Nat.le_refl _)) fr1.size (by omega) (by omega) (by omega) (by omega)
    rw [T.val_mk] at hsm
    generalize hu : (T.mk k n s A cap l r).v = u at *
    have HU := hide hu
    have HT := hide ht
    have HF1 := hide fr1
    have HB1 := hide bv1
    clear hu ht fr1 bv1
    by_cases hfs : ¬ ((u.size : Int) ≤ 1200 ∧ (u.ht : Int) ≤ 40)
    · rw [smallOf_no hfs] at hsm
      have HSM := hide hsm
      clear hsm hfs
      go_enter Try.func9, Try.ntmps9
      go_wp2_with fail
      refine HSM.out.mono ?_
      rintro e w2 ⟨rfl, f2⟩
      have G := hide (HF1.out.trans f2)
      clear f2
      go_wp2_with fail
      refine (awake_any _).mono ?_
      rintro e w3 ⟨rfl, f3⟩
      go_wp2
      go_ret
      exact ⟨rfl, G.out.trans f3⟩
    have hfs2 := Classical.byContradiction hfs
    rw [smallOf_yes hfs2] at hsm
    have hnn : decide ((u.size : Int) < 0) = false := by simp
    have HSM := hide hsm
    clear hfs hfs2 hsm
    generalize hqq : u.size = qq at *
    clear hqq
    by_cases hbig : (1048576 : Int) < (str.size : Int)
    · skip
      go_enter Try.func9, Try.ntmps9
      go_wp2_with fail
      refine HSM.out.mono ?_
      rintro e w2 ⟨rfl, f2⟩
      have G := hide (HF1.out.trans f2)
      clear f2
      go_wp2_with fail
      refine (awake_any _).mono ?_
      rintro e w3 ⟨rfl, f3⟩
      go_wp2
      go_ret
      exact ⟨rfl, G.out.trans f3⟩
    have hss : str.size ≤ 4000000 := by omega
    obtain ⟨tt, en, hby⟩ := bytes_both u
    obtain ⟨xu, er, hxm, hrs, hrp⟩ := read_both str
    obtain ⟨yu, rest, ef, hym, hfp⟩ := front_both str
    have HBY := hide hby
    have HXM := hide hxm
    have HRS := hide hrs
    have HRP := hide hrp
    have HYM := hide hym
    have HFP := hide hfp
    have HSS := hide hss
    clear hby hxm hrs hrp hym hfp hss
    go_enter Try.func9, Try.ntmps9
    go_wp2_with fail
    generalize World.alloc w _ = w1 at *
    refine HSM.out.mono ?_
    rintro e w2 ⟨rfl, f2⟩
    have bv2 := HB1.out.fr f2 fun h => h
    have f02 := HF1.out.trans f2
    obtain ⟨c0, c1, c2, c3, c4, -⟩ := Blk.cells5 bv2
    have q0 := bv2.lt
    have hle := lent_any (T.mk k n s A cap l r) w2 0 w.heap.size (HT.out.no f02 (Nat.le_refl _)) f02.size
    rw [T.val_mk, HU.out] at hle
    have HLE := hide hle
    have HB2 := hide bv2
    have HF2 := hide f02
    clear hle bv2 f02 f2 HSM HB1 HF1
    go_wp2_with fail
    refine HLE.out.mono ?_
    rintro e w3 ⟨⟨ko, no, so, Ao, co, lo, ro⟩, rfl, hvo, hino, hmko, f3⟩
    rw [T.val_mk]
    have L4 : Lo w (w3.alloc (.cells #[.int .u8 ko, .int .i64 no, .string so, .slice Ao lo.length co, .int .i64 ro] 27)) w.heap.size w3.heap.size (T.mk k n s A cap l r) (T.mk ko no so Ao co lo ro) w2.heap.size w3.heap.size :=
      ⟨(HB2.out.fr f3 fun h => h).alloc _, Blk.new w3 27 _, (HT.out.no (HF2.out.trans f3) (Nat.le_refl _)).no ((Fr.refl No w3).alloc _) (HF2.out.trans f3).size, hino.no ((Fr.refl No w3).alloc _) (Nat.le_refl _),
        T.Mk.no ((Fr.refl No w3).alloc _) (Nat.le_refl _) hino hmko, (HF2.out.trans f3).alloc _, Nat.le_refl _, HB2.out.lt, f3.size, Nat.le_refl _⟩
    have hbt := Bytes_any (T.mk ko no so Ao co lo ro) _ w2.heap.size w3.heap.size L4.io L4.lt
    rw [T.val_mk, hvo] at hbt
    have HL4 := hide L4
    have HVO := hide hvo
    have HBT := hide hbt
    clear L4 hvo hino hmko f3 HLE HB2 HF2 c0 c1 c2 c3 c4 q0 hbt
    go_wp2_with fail
    generalize World.alloc w3 _ = w4 at *
    refine HBT.out.mono ?_
    rintro e w5 hP
    obtain ⟨rfl, f5⟩ := HBY.out _ _ _ hP
    have L5 := HL4.out.no f5
    obtain ⟨c0, c1, c2, c3, c4, -⟩ := Blk.cells5 L5.bv
    have q0 := L5.bv.lt
    have hwr := refWrite_any (T.mk k n s A cap l r) w5 0 w.heap.size L5.iv L5.f.size
    rw [T.val_mk, HU.out] at hwr
    have HWR := hide hwr
    have HL5 := hide L5
    clear hP f5 L5 hwr HBT HL4
    go_wp2_with fail
    refine HWR.out.mono ?_
    rintro e w6 hP
    obtain ⟨rfl, f6⟩ := HBY.out _ _ _ hP
    have L6 := HL5.out.no f6
    clear c0 c1 c2 c3 c4 q0
    obtain ⟨c0, c1, c2, c3, c4, -⟩ := Blk.cells5 L6.bv
    obtain ⟨x0, x1, x2, x3, x4, -⟩ := Blk.cells5 L6.bo
    have q0 := L6.bv.lt
    have q1 := L6.bo.lt
    have hke := kept_any (T.mk ko no so Ao co lo ro) (T.mk k n s A cap l r) w6 _ _ _ _ L6.io L6.lt L6.mo L6.iv L6.f.size (HVO.out.trans HU.out.symm)
    rw [T.val_mk, T.val_mk] at hke
    have HKE := hide hke
    have HG6 := hide L6.f
    clear hP f6 L6 hke HWR HL5 HBY
    go_wp2_with fail
    refine HKE.out.mono ?_
    rintro e w7 ⟨rfl, f7⟩
    have HG7 := hide (HG6.out.trans f7)
    have HS7 := hide (HG6.out.trans f7).size
    clear f7 HKE HG6 c0 c1 c2 c3 c4 q0 x0 x1 x2 x3 x4 q1
    go_wp2_with fail
    refine (ReadS_any str w7).mono ?_
    rintro e w8 hP
    obtain ⟨⟨ka, na, sa, Aa, ca, la, ra⟩, rfl, eva, sha, f8⟩ := HRS.out _ _ _ hP
    rw [T.val_mk]
    have fy := (Fr.refl No w8).alloc (.cells #[.int .u8 ka, .int .i64 na, .string sa, .slice Aa la.length ca, .int .i64 ra] 27)
    have xa9 : Blk (w8.alloc (.cells #[.int .u8 ka, .int .i64 na, .string sa, .slice Aa la.length ca, .int .i64 ra] 27)) w8.heap.size 27 (T.mk ka na sa Aa ca la ra).cells.toArray := Blk.new w8 27 _
    have sa9 := sha.no fy
    have hs78 := f8.size
    have hs89 : w8.heap.size < (w8.alloc (.cells #[.int .u8 ka, .int .i64 na, .string sa, .slice Aa la.length ca, .int .i64 ra] 27)).heap.size := xa9.lt
    have HG9 := hide ((HG7.out.trans f8).trans fy)
    have HXA := hide xa9
    have HSA := hide sa9
    have HEVA := hide eva
    clear hP sha f8 fy xa9 sa9 eva HG7
    go_wp2_with fail
    generalize World.alloc w8 _ = w9 at *
    refine (ReadS_any str w9).mono ?_
    rintro e w10 hP
    obtain ⟨⟨kb, nb, sb, Ab, cb, lb, rb⟩, rfl, evb, shb, f10⟩ := HRS.out _ _ _ hP
    rw [T.val_mk]
    have fy := (Fr.refl No w10).alloc (.cells #[.int .u8 kb, .int .i64 nb, .string sb, .slice Ab lb.length cb, .int .i64 rb] 27)
    have xb11 : Blk (w10.alloc (.cells #[.int .u8 kb, .int .i64 nb, .string sb, .slice Ab lb.length cb, .int .i64 rb] 27)) w10.heap.size 27 (T.mk kb nb sb Ab cb lb rb).cells.toArray := Blk.new w10 27 _
    have sb11 := shb.no fy
    have hs910 := f10.size
    have hs1011 : w10.heap.size < (w10.alloc (.cells #[.int .u8 kb, .int .i64 nb, .string sb, .slice Ab lb.length cb, .int .i64 rb] 27)).heap.size := xb11.lt
    have F11 := f10.trans fy
    have HG11 := hide (HG9.out.trans F11)
    have HXA2 := hide (HXA.out.fr F11 fun h => h)
    have HSA2 := hide (HSA.out.no F11)
    have HXB := hide xb11
    have HSB := hide sb11
    have HEVB := hide evb
    clear hP shb f10 fy xb11 sb11 evb F11 HG9 HXA HSA HRS
    go_wp2_with fail
    generalize World.alloc w10 _ = w11 at *
    refine (refRead_any str w11).mono ?_
    rintro e w12 hP
    obtain ⟨⟨kc, nc, sc, Ac, cc, lc, rc⟩, rfl, evc, inc, f12⟩ := HRP.out _ _ _ hP
    rw [T.val_mk]
    have fy := (Fr.refl No w12).alloc (.cells #[.int .u8 kc, .int .i64 nc, .string sc, .slice Ac lc.length cc, .int .i64 rc] 27)
    have xc13 := Blk.new w12 27 #[.int .u8 kc, .int .i64 nc, .string sc, .slice Ac lc.length cc, .int .i64 rc]
    have ic13 := inc.no fy (Nat.le_refl _)
    have hs1112 := f12.size
    have hs1213 := xc13.lt
    have F13 := f12.trans fy
    have xa13 := HXA2.out.fr F13 fun h => h
    have xb13 := HXB.out.fr F13 fun h => h
    have sa13 := HSA2.out.no F13
    have sb13 := HSB.out.no F13
    have HG13 := hide (HG11.out.trans F13)
    obtain ⟨a0, a1, a2, a3, a4, -⟩ := Blk.cells5 xa13
    obtain ⟨b0, b1, b2, b3, b4, -⟩ := Blk.cells5 xb13
    have aq := xa13.lt
    have bq := xb13.lt
    have hbl : ∀ i ∈ (T.mk ka na sa Aa ca la ra).blocks, w7.heap.size ≤ i ∧ i < w8.heap.size := fun i hi => T.In.blocks _ sa13.inn i hi
    have hh := held_any (T.mk ka na sa Aa ca la ra) (T.mk kb nb sb Ab cb lb rb) (T.mk kc nc sc Ac cc lc rc) xu _ w7.heap.size w8.heap.size w9.heap.size w10.heap.size w11.heap.size w12.heap.size sa13 (by omega) (by omega) sb13.inn (by omega) (fun i h0 _ hi => by have := hbl i hi; omega) ic13 (by omega) (fun i h0 _ hi => by have := hbl i hi; omega) HEVA.out HEVB.out evc HXM.out
    rw [T.val_mk, T.val_mk, T.val_mk] at hh
    have HH := hide hh
    have HBL := hide hbl
    clear hP inc f12 fy xc13 ic13 F13 xa13 xb13 sa13 sb13 hh hbl evc HG11 HXA2 HXB HSA2 HSB HRP
    go_wp2_with fail
    generalize World.alloc w12 _ = w13 at *
    refine HH.out.mono ?_
    rintro e w14 ⟨rfl, f14⟩
    have HG14 := hide (HG13.out.trans' f14 (fun i hi h => by have := HBL.out i h; have := HS7.out; omega))
    clear f14 HG13 HH HBL a0 a1 a2 a3 a4 b0 b1 b2 b3 b4 aq bq
    go_wp2_with fail
    refine (Front_any str w14 HSS.out).mono ?_
    rintro e w15 hP
    obtain ⟨⟨kd, nd, sd, Ad, cd, ld, rd⟩, rfl, evd, ind, f15⟩ := HFP.out _ _ _ hP
    rw [T.val_mk]
    have fy := (Fr.refl No w15).alloc (.cells #[.int .u8 kd, .int .i64 nd, .string sd, .slice Ad ld.length cd, .int .i64 rd] 27)
    have xd16 : Blk (w15.alloc (.cells #[.int .u8 kd, .int .i64 nd, .string sd, .slice Ad ld.length cd, .int .i64 rd] 27)) w15.heap.size 27 (T.mk kd nd sd Ad cd ld rd).cells.toArray := Blk.new w15 27 _
    have id16 := ind.no fy (Nat.le_refl _)
    have hs1415 := f15.size
    have hs1516 : w15.heap.size < (w15.alloc (.cells #[.int .u8 kd, .int .i64 nd, .string sd, .slice Ad ld.length cd, .int .i64 rd] 27)).heap.size := xd16.lt
    have HG16 := hide ((HG14.out.trans f15).trans fy)
    have HXD := hide xd16
    have HID := hide id16
    have HEVD := hide evd
    clear hP ind f15 fy xd16 id16 evd HG14
    go_wp2_with fail
    generalize World.alloc w15 _ = w16 at *
    refine (refFront_any str w16 HSS.out).mono ?_
    rintro e w17 hP
    obtain ⟨⟨ke, ne, se, Ae, ce, le, re⟩, rfl, eve, ine, f17⟩ := HFP.out _ _ _ hP
    rw [T.val_mk]
    have fy := (Fr.refl No w17).alloc (.cells #[.int .u8 ke, .int .i64 ne, .string se, .slice Ae le.length ce, .int .i64 re] 27)
    have xe18 : Blk (w17.alloc (.cells #[.int .u8 ke, .int .i64 ne, .string se, .slice Ae le.length ce, .int .i64 re] 27)) w17.heap.size 27 (T.mk ke ne se Ae ce le re).cells.toArray := Blk.new w17 27 _
    have ie18 := ine.no fy (Nat.le_refl _)
    have hs1617 := f17.size
    have hs1718 : w17.heap.size < (w17.alloc (.cells #[.int .u8 ke, .int .i64 ne, .string se, .slice Ae le.length ce, .int .i64 re] 27)).heap.size := xe18.lt
    have F18 := f17.trans fy
    have xd18 := HXD.out.fr F18 fun h => h
    have id18 := HID.out.no F18 (by omega)
    have HG18 := hide (HG16.out.trans F18)
    obtain ⟨a0, a1, a2, a3, a4, -⟩ := Blk.cells5 xd18
    have aq := xd18.lt
    have hsame := refSame_any (T.mk kd nd sd Ad cd ld rd) (T.mk ke ne se Ae ce le re) _ 0 _ (T.In.more (Nat.zero_le _) (by omega) _ id18) (T.In.more (Nat.zero_le _) (by omega) _ ie18) (Nat.le_refl _)
    rw [T.val_mk, T.val_mk, HEVD.out, eve, same2_self HYM.out] at hsame
    have HSAME := hide hsame
    clear hP ine f17 fy xe18 ie18 F18 xd18 id18 hsame eve HG16 HXD HID
    go_wp2_with fail
    generalize World.alloc w17 _ = w18 at *
    refine HSAME.out.mono ?_
    rintro e w19 ⟨rfl, f19⟩
    have HG19 := hide (HG18.out.trans f19)
    clear f19
    go_wp2_with fail
    refine (awake_any _).mono ?_
    rintro e w20 ⟨rfl, f20⟩
    go_wp2
    go_ret
    exact ⟨rfl, HG19.out.trans f20⟩

end Go.Proofs.Ytihjmipmjogpoaa

/- Two closed facts for the lifts. -/
namespace Go.Proofs.Ytihjmipmjogpoaa
theorem knob0 : ownKnob Try.prog.godebug = none := by kernel_rfl
theorem laidOut0 : laidOutB Try.prog = true := by kernel_rfl
end Go.Proofs.Ytihjmipmjogpoaa

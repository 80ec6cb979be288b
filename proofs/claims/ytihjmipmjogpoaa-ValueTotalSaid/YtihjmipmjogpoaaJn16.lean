/- Texts joined: S22, H0. -/
import Derived.Test.YtihjmipmjogpoaaJn15
import Derived.Deep.RegionHeld3
import Derived.Deep.CutRange
import Derived.Test.YtihjmipmjogpoaaRows
import Derived.ProofKit
import Derived.OpenShut
import Derived.ChangeOld
/- Chapter 2: ValueTotal: what it computes. -/
namespace Go.Proofs.Ytihjmipmjogpoaa
open Go.RowKit

set_option maxRecDepth 100000 in
set_option maxHeartbeats 16000000 in
theorem valueTotal_any (ta tb tc : T) (Al : Option Addr) (capl : Nat) (L : List T) (w : World) (ha : ta.In w 0 w.heap.size) (hb : tb.In w 0 w.heap.size) (hc : tc.In w 0 w.heap.size) (hl : (T.row Al capl L).In w 0 w.heap.size) :
    Calls Try.prog 18 #[ta.val, tb.val, tc.val, .slice Al L.length capl] w fun e w' => e = .returned (.bool true) ∧ Fr No w w' := by
  have hplen := (T.in_mk.1 hl).1.len1
  obtain ⟨i0, hi0, hz0, hz1, hz2⟩ := info_parts value_info
  obtain ⟨k, n, s, B, cb, la, r⟩ := ta
  obtain ⟨k1, n1, s1, B1, cb1, lb, r1⟩ := tb
  obtain ⟨k2, n2, s2, B2, cb2, lc, r2⟩ := tc
  rw [T.val_mk, T.val_mk, T.val_mk]
  have fr0 := (((Fr.refl No w).alloc (.cells #[.int .u8 k, .int .i64 n, .string s, .slice B la.length cb, .int .i64 r] 27)).alloc (.cells #[.int .u8 k1, .int .i64 n1, .string s1, .slice B1 lb.length cb1, .int .i64 r1] 27)).alloc (.cells #[.int .u8 k2, .int .i64 n2, .string s2, .slice B2 lc.length cb2, .int .i64 r2] 27)
  have habc0 : ABC w (((w.alloc (.cells #[.int .u8 k, .int .i64 n, .string s, .slice B la.length cb, .int .i64 r] 27)).alloc (.cells #[.int .u8 k1, .int .i64 n1, .string s1, .slice B1 lb.length cb1, .int .i64 r1] 27)).alloc (.cells #[.int .u8 k2, .int .i64 n2, .string s2, .slice B2 lc.length cb2, .int .i64 r2] 27)) Al capl L (T.mk k n s B cb la r) (T.mk k1 n1 s1 B1 cb1 lb r1) (T.mk k2 n2 s2 B2 cb2 lc r2) :=
    ⟨((Blk.new w 27 _).alloc _).alloc _, (Blk.new' (w.alloc _) 27 _ (by simp)).alloc _, Blk.new' ((w.alloc _).alloc _) 27 _ (by simp), ha.no fr0 (Nat.le_refl _), hb.no fr0 (Nat.le_refl _), hc.no fr0 (Nat.le_refl _), hl.no fr0 (Nat.le_refl _), fr0⟩
  clear fr0 ha hb hc hl
  go_enter Try.func18, Try.ntmps18
  go_wp2_with fail
  have hbl := Blk.new (((w.alloc (.cells #[.int .u8 k, .int .i64 n, .string s, .slice B la.length cb, .int .i64 r] 27)).alloc (.cells #[.int .u8 k1, .int .i64 n1, .string s1, .slice B1 lb.length cb1, .int .i64 r1] 27)).alloc (.cells #[.int .u8 k2, .int .i64 n2, .string s2, .slice B2 lc.length cb2, .int .i64 r2] 27)) 27 #[.int .u8 k, .int .i64 n, .string s, .slice B la.length cb, .int .i64 r, .int .u8 k1, .int .i64 n1, .string s1, .slice B1 lb.length cb1, .int .i64 r1, .int .u8 k2, .int .i64 n2, .string s2, .slice B2 lc.length cb2, .int .i64 r2]
  have habc1 := habc0.no ((Fr.refl No _).alloc (.cells #[.int .u8 k, .int .i64 n, .string s, .slice B la.length cb, .int .i64 r, .int .u8 k1, .int .i64 n1, .string s1, .slice B1 lb.length cb1, .int .i64 r1, .int .u8 k2, .int .i64 n2, .string s2, .slice B2 lc.length cb2, .int .i64 r2] 27))
  have hsz : (((w.alloc (.cells #[.int .u8 k, .int .i64 n, .string s, .slice B la.length cb, .int .i64 r] 27)).alloc (.cells #[.int .u8 k1, .int .i64 n1, .string s1, .slice B1 lb.length cb1, .int .i64 r1] 27)).alloc (.cells #[.int .u8 k2, .int .i64 n2, .string s2, .slice B2 lc.length cb2, .int .i64 r2] 27)).heap.size = w.heap.size + 1 + 1 + 1 := by simp
  rw [hsz] at hbl
  clear habc0 hsz
  generalize World.alloc (World.alloc (World.alloc (World.alloc w _) _) _) _ = w1 at *
  have hrow : (T.row (some ⟨w.heap.size + 1 + 1 + 1, 0, none⟩) 3 [T.mk k n s B cb la r, T.mk k1 n1 s1 B1 cb1 lb r1, T.mk k2 n2 s2 B2 cb2 lc r2]).In w1 0 w1.heap.size :=
    row_blk hbl (fun x hx => by
      simp at hx
      rcases hx with rfl | rfl | rfl
      · exact T.In.more (Nat.le_refl _) habc1.f.size _ habc1.ia
      · exact T.In.more (Nat.le_refl _) habc1.f.size _ habc1.ib
      · exact T.In.more (Nat.le_refl _) habc1.f.size _ habc1.ic) (Nat.zero_le _) hbl.lt (by simp) (by simp)
  refine (smallAll_any _ _ _ w1 0 _ hrow (Nat.le_refl _)).mono ?_
  rintro e w2 ⟨⟨q, rfl, -⟩, f2⟩
  have H2 := hide (habc1.no f2)
  clear habc1 hbl hrow f2
  cases q with
  | false =>
    go_wp2_with fail
    refine (awake_any _).mono ?_
    rintro e w3 ⟨rfl, f3⟩
    go_wp2
    go_ret
    exact ⟨rfl, H2.out.f.trans f3⟩
  | true =>
  go_wp2_with fail
  refine (smallAll_any Al capl L w2 0 w.heap.size H2.out.il H2.out.f.size).mono ?_
  rintro e w3 ⟨⟨q, rfl, hq⟩, f3⟩
  have H3 := hide (H2.out.no f3)
  clear f3 H2
  cases q with
  | false =>
    clear hq
    go_wp2_with fail
    refine (awake_any _).mono ?_
    rintro e w4 ⟨rfl, f4⟩
    go_wp2
    go_ret
    exact ⟨rfl, H3.out.f.trans f4⟩
  | true =>
  have hL6 : L.length ≤ 600 := by have := (hq rfl).1; simpa using this
  clear hq
  have hab := fun w' (f : Fr No w3 w') => vorderX_any (T.mk k n s B cb la r) (T.mk k1 n1 s1 B1 cb1 lb r1) w' 0 w.heap.size ((H3.out.no f).ia) ((H3.out.no f).ib) (H3.out.no f).f.size
  have hba := fun w' (f : Fr No w3 w') => vorderX_any (T.mk k1 n1 s1 B1 cb1 lb r1) (T.mk k n s B cb la r) w' 0 w.heap.size ((H3.out.no f).ib) ((H3.out.no f).ia) (H3.out.no f).f.size
  have hbc := fun w' (f : Fr No w3 w') => vorderX_any (T.mk k1 n1 s1 B1 cb1 lb r1) (T.mk k2 n2 s2 B2 cb2 lc r2) w' 0 w.heap.size ((H3.out.no f).ib) ((H3.out.no f).ic) (H3.out.no f).f.size
  have hac := fun w' (f : Fr No w3 w') => vorderX_any (T.mk k n s B cb la r) (T.mk k2 n2 s2 B2 cb2 lc r2) w' 0 w.heap.size ((H3.out.no f).ia) ((H3.out.no f).ic) (H3.out.no f).f.size
  have hsab := fun w' (f : Fr No w3 w') => vsame_any (T.mk k n s B cb la r) (T.mk k1 n1 s1 B1 cb1 lb r1) w' 0 w.heap.size ((H3.out.no f).ia) ((H3.out.no f).ib) (H3.out.no f).f.size
  rw [T.val_mk, T.val_mk] at hab hba hbc hac hsab
  have hone := ord_one (T.mk k n s B cb la r).v (T.mk k1 n1 s1 B1 cb1 lb r1).v
  have hways := ord_ways (T.mk k n s B cb la r).v (T.mk k1 n1 s1 B1 cb1 lb r1).v (T.mk k2 n2 s2 B2 cb2 lc r2).v
  have hanti := ordX_anti (T.mk k n s B cb la r).v (T.mk k1 n1 s1 B1 cb1 lb r1).v
  have hcomm := ordE_comm (T.mk k n s B cb la r).v (T.mk k1 n1 s1 B1 cb1 lb r1).v
  rw [hcomm] at hba
  generalize (T.mk k n s B cb la r).v = u at *
  generalize (T.mk k1 n1 s1 B1 cb1 lb r1).v = v at *
  generalize (T.mk k2 n2 s2 B2 cb2 lc r2).v = z at *
  generalize ordX v u = Y at *
  generalize ordX u v = X at *
  generalize ordE u v = E at *
  generalize ordX v z = Z at *
  generalize ordE v z = G at *
  generalize ordX u z = W at *
  generalize ordE u z = H at *
  generalize u.same2 v = S at *
  have HAB := hide hab
  have HBA := hide hba
  have HBC := hide hbc
  have HAC := hide hac
  have HS := hide hsab
  have HONE := hide hone
  have HWAYS := hide hways
  have HANTI := hide hanti
  clear hab hba hbc hac hsab hone hways hanti hcomm
  obtain ⟨⟨a0, a1, a2, a3, a4⟩, ⟨b0, b1, b2, b3, b4⟩, -, l1, l2, -⟩ := H3.out.cells
  go_wp2_with fail
  refine (HAB.out w3 (Fr.refl No w3)).mono ?_
  rintro e w4 ⟨rfl, f4⟩
  have F4 := hide f4
  clear a0 a1 a2 a3 a4 b0 b1 b2 b3 b4 l1 l2 f4
  obtain ⟨⟨a0, a1, a2, a3, a4⟩, ⟨b0, b1, b2, b3, b4⟩, -, l1, l2, -⟩ := (H3.out.no F4.out).cells
  go_wp2_with fail
  refine (HBA.out w4 F4.out).mono ?_
  rintro e w5 ⟨rfl, f5⟩
  have F5 := hide (F4.out.trans f5)
  clear a0 a1 a2 a3 a4 b0 b1 b2 b3 b4 l1 l2 f5 F4
  go_upto_region 5 with (fail)
  go_cut [68] from 48 to 67 (fun s68 wx => s68 = Value.bool false ∧ Fr No w5 wx)
  case first =>
    obtain ⟨⟨a0, a1, a2, a3, a4⟩, ⟨b0, b1, b2, b3, b4⟩, -, l1, l2, -⟩ := (H3.out.no F5.out).cells
    have h1 := HONE.out
    have h2 := HANTI.out
    unfold OneO at h1
    clear HWAYS HONE HANTI HAB HBA HBC HAC
    rcases h1 with ⟨rfl, rfl, rfl⟩ | ⟨rfl, rfl, rfl⟩ | ⟨rfl, rfl, rfl⟩ | ⟨rfl, rfl, rfl⟩
    all_goals
      try simp at h2
      subst h2
      go_wp2_with fail
      refine (HS.out w5 F5.out).mono ?_
      rintro e w6 ⟨rfl, f6⟩
      have F6 := hide f6
      clear f6
      go_wp2_with fail
      go_meet
      exact ⟨rfl, F6.out⟩
  case rest =>
    obtain ⟨rfl, f6⟩ := hcut
    obtain ⟨w6, rfl⟩ : ∃ w6 : World, w6 = wc := ⟨_, rfl⟩
    have F6 := hide (F5.out.trans f6)
    clear f6 F5
    obtain ⟨-, ⟨b0, b1, b2, b3, b4⟩, ⟨c0, c1, c2, c3, c4⟩, -, l2, l3⟩ := (H3.out.no F6.out).cells
    go_wp2_with fail
    refine (HBC.out w6 F6.out).mono ?_
    rintro e w7 ⟨rfl, f7⟩
    have F7 := hide (F6.out.trans f7)
    clear b0 b1 b2 b3 b4 c0 c1 c2 c3 c4 l2 l3 f7
    obtain ⟨⟨a0, a1, a2, a3, a4⟩, -, ⟨c0, c1, c2, c3, c4⟩, l1, -, l3⟩ := (H3.out.no F7.out).cells
    go_wp2_with fail
    refine (HAC.out w7 F7.out).mono ?_
    rintro e w8 ⟨rfl, f8⟩
    have F8 := hide (F7.out.trans f8)
    clear a0 a1 a2 a3 a4 c0 c1 c2 c3 c4 l1 l3 f8 F6 F7
    go_upto_region 9 with (fail)
    go_cut [114] from 81 to 113 (fun s114 wx => s114 = Value.bool false ∧ wx = w8)
    case first =>
      have h1 := HWAYS.out
      unfold ThreeO at h1
      clear HWAYS HONE HANTI HAB HBA HBC HAC HS
      rcases h1 with rfl | ⟨rfl, rfl⟩ | ⟨rfl, rfl, rfl, rfl | ⟨rfl, rfl⟩ | ⟨rfl, rfl⟩ | ⟨rfl, rfl, rfl⟩ | ⟨rfl, rfl, rfl⟩ | ⟨rfl, rfl, rfl⟩ | ⟨rfl, rfl, rfl⟩⟩
      all_goals
        go_wp2_with fail
        go_meet
        exact ⟨rfl, rfl⟩
    case rest =>
      obtain ⟨rfl, hwx⟩ := hcut
      have H8 : Hid (ABC w wc Al capl L (T.mk k n s B cb la r) (T.mk k1 n1 s1 B1 cb1 lb r1) (T.mk k2 n2 s2 B2 cb2 lc r2)) := by rw [hwx]; exact H3.out.no F8.out
      clear hwx HWAYS HONE HANTI HAB HBA HBC HAC HS F8 H3
      have hst := sort_any Al capl L (by omega) wc 0 w.heap.size H8.out.il H8.out.f.size
      have HST := hide hst
      clear hst
      go_wp2_with fail
      refine HST.out.mono ?_
      rintro e w9 hs9
      cases hall : (L.map T.v).all V.may with
      | false =>
        obtain ⟨rfl, f9⟩ := hs9.2 hall
        have F9 := hide (H8.out.f.trans f9)
        clear hs9 f9 hall HST
        go_wp2_with fail
        refine (awake_any _).mono ?_
        rintro e wz ⟨rfl, fz⟩
        go_wp2
        go_ret
        exact ⟨rfl, F9.out.trans fz⟩
      | true =>
        obtain ⟨As, cs, Cs, rfl, R9⟩ := hs9.1 hall
        have hlen : Cs.length = L.length := by have := R9.perm.length_eq; simpa using this
        rw [hlen]
        have own1 : w9.ownsRow wc.heap.size 27 5 (.slice As L.length cs) L.length (rowCells Cs) := by have := R9.own; rw [hlen] at this; exact this
        have HALL := hide hall
        have HR9 := hide R9
        have HLEN := hide hlen
        have H9 := hide (H8.out.no R9.fr)
        have OWN1 := hide own1
        clear hs9 hall R9 hlen own1 HST
        go_wp2_with fail
        go_loopw [18, 19] (fun vv sv wr => ∃ (m : Nat) (A2 : Option Addr) (cap2 : Nat) (Bk : List T), m ≤ L.length ∧ sv = .int .i64 ((m : Int) - 1) ∧ vv = .slice A2 (L.length - m) cap2 ∧ Bck w9 L m A2 cap2 Bk wr) (fun _ sv _ => (intOf sv + 1).toNat)
        case atStart => exact ⟨L.length, none, 0, [], Nat.le_refl _, rfl, by simp, by simp, by rw [Nat.sub_self]; exact World.ownsRow_nil _ _ _ _, Fr.refl _ _, fun _ => ⟨rfl, rfl⟩⟩
        case round =>
          obtain ⟨m, A2, cap2, Bk, hm, rfl, rfl, inv⟩ := hrel
          by_cases h0 : 0 < m
          · obtain ⟨m1, rfl⟩ : ∃ m1, m = m1 + 1 := ⟨m - 1, by omega⟩
            have e1 : (((m1 + 1 : Nat) : Int) - 1) = (m1 : Int) := by omega
            rw [e1]
            have hlt : m1 < L.length := by omega
            have hs9 := inv.fr.size
            have hsw := H9.out.f.size
            obtain ⟨b, o, kx, nx, sx, Ax, capx, lx, rx, rfl, hb0, hb1, hx, hin, q0, q1, q2, q3, q4⟩ := T.elem (H9.out.il.no inv.fr hsw) hlt
            have g0 : b < wr.heap.size := by omega
            have hxl : L[m1]? = some (T.mk kx nx sx Ax capx lx rx) := by rw [List.getElem?_eq_getElem hlt, hx]
            have hmi : (m1 : Int) ≤ 1000000 := by omega
            have ownA := inv.own.alloc (.cells #[.int .u8 kx, .int .i64 nx, .string sx, .slice Ax lx.length capx, .int .i64 rx] 27)
            have HI := hide inv
            have HXL := hide hxl
            have hbase : w9.heap.size ≤ wr.heap.size := hs9
            obtain ⟨nn, hnn⟩ : ∃ nn, L.length - (m1 + 1) = nn := ⟨_, rfl⟩
            rw [hnn] at ownA ⊢
            have hn6 : nn ≤ 600 := by omega
            have HNN := hide hnn
            clear inv hxl hx hin hs9 hsw e1 hnn
            go_wp2_with (at_builtin; refine wpList_append_lies _ (by rfl) _ _ _ (by rfl) w9.heap.size 27 i0 _ 5 64 Try.underlying24 hi0 hz0 hz1 hz2 (by rfl) (by omega) (.slice A2 nn cap2) nn (rowCells Bk) (by rfl) ownA ⟨wr.heap.size, 0, none⟩ 1 1 [.int .u8 kx, .int .i64 nx, .string sx, .slice Ax lx.length capx, .int .i64 rx] (by rfl) (by rfl) (World.news_of_block (heap_alloc_new wr _)) (by simp [Value.oneCell']) (by omega) (by unfold maxLen; omega) (by omega) (by simp; omega) (wr.heap.size + 1) (by simp) ?_; intro g cp w4 hown1 hgrow hat hlt1)
            have hn' := HNN.out
            subst hn'
            have HNX := hide (Bck.next HI.out hlt HXL.out hown1 hgrow)
            clear hown1 hgrow hat ownA
            go_wp2
            go_roundw
            case rel => exact ⟨m1, _, _, _, by omega, by first | rfl | go_num, by first | rfl | (congr 1; omega), HNX.out⟩
            case measure => simp [intOf]
          · obtain rfl : m = 0 := by omega
            have hBk : Bk = L.reverse := by have := inv.eq; simpa using this
            have hBl : Bk.length = L.length := by rw [hBk]; simp
            have hsw := H9.out.f.size
            have hs9 := inv.fr.size
            have hown := inv.own
            rw [Nat.sub_zero] at hown
            have hrow : (T.row A2 cap2 Bk).In wr 0 wr.heap.size :=
              T.In.more (Nat.zero_le _) (Nat.le_refl _) _ (owns_row (lo := 0) (hi := w.heap.size) (base := w9.heap.size) (by rw [hBl]; exact hown) (fun x hx => (((T.in_mk.1 H9.out.il).2.2 x (by rw [hBk] at hx; exact List.mem_reverse.1 hx)).no inv.fr hsw)) (by rw [hBl]; omega) (Nat.zero_le _) (by omega))
            have hst := sort_any A2 cap2 Bk (by rw [hBl]; omega) wr 0 wr.heap.size hrow (Nat.le_refl _)
            rw [hBl] at hst
            have hpm : (Bk.map T.v).Perm (L.map T.v) := by rw [hBk]; exact (List.reverse_perm L).map T.v
            have hall2 : (Bk.map T.v).all V.may = true := by
              have := HALL.out
              rw [List.all_eq_true] at this ⊢
              exact fun v hv => this v (hpm.mem_iff.1 hv)
            have HST := hide hst
            have HPM := hide hpm
            have HALL2 := hide hall2
            have HBL := hide hBl
            have F11 := hide inv.fr
            clear inv hBk hBl hown hrow hst hpm hall2 hsw hs9
            go_wp2_with fail
            refine HST.out.mono ?_
            rintro e w11 hs11
            obtain ⟨At, ct, Ct, rfl, R11⟩ := hs11.1 HALL2.out
            have hlen : Ct.length = L.length := by have := R11.perm.length_eq; simp at this; rw [this]; exact HBL.out
            rw [hlen]
            have own2 : w11.ownsRow wr.heap.size 27 5 (.slice At L.length ct) L.length (rowCells Ct) := by have := R11.own; rw [hlen] at this; exact this
            have own1 := owns_fr OWN1.out (F11.out.trans R11.fr) (fun _ _ h => h)
            have heq : Cs.map T.v = Ct.map T.v := sorted_one HALL.out HR9.out.perm (R11.perm.trans HPM.out) HR9.out.srt R11.srt
            have hinC : ∀ x ∈ Cs, x.In w11 0 w11.heap.size := fun x hx => T.In.more (Nat.zero_le _) (F11.out.trans R11.fr).size _ ((T.Sp.inn x (HR9.out.sp x hx)).no (F11.out.trans R11.fr) (Nat.le_refl _))
            have hinD : ∀ x ∈ Ct, x.In w11 0 w11.heap.size := fun x hx => T.In.more (Nat.zero_le _) (Nat.le_refl _) _ (T.Sp.inn x (R11.sp x hx))
            have hmayC : ∀ x ∈ Cs, x.v.may = true := fun x hx => List.all_eq_true.1 HALL.out _ (HR9.out.perm.mem_iff.1 (List.mem_map_of_mem hx))
            have HO1 := hide own1
            have HO2 := hide own2
            have HEQ := hide heq
            have HLD := hide hlen
            have HIC := hide hinC
            have HID := hide hinD
            have HMC := hide hmayC
            have FW := hide (H9.out.f.trans (F11.out.trans R11.fr))
            clear hs11 R11 hlen own2 own1 heq hinC hinD hmayC HST
            obtain ⟨wo, rfl⟩ : ∃ wo : World, wo = wr := ⟨_, rfl⟩
            go_wp2_with fail
            go_loopw [21] (fun sv wr => ∃ i : Nat, sv = .int .i64 i ∧ i ≤ L.length ∧ Fr No w11 wr) (fun sv _ => L.length - (intOf sv).toNat)
            case atStart => exact ⟨0, rfl, Nat.zero_le _, Fr.refl _ _⟩
            case round =>
              obtain ⟨i, rfl, hi, fr⟩ := hrel
              by_cases hlt : i < L.length
              · obtain ⟨ga, c0, hva, -⟩ := HO1.out.form (by omega)
                obtain ⟨gb, c1, hvb, -⟩ := HO2.out.form (by omega)
                simp only [Value.slice.injEq, true_and] at hva hvb
                obtain ⟨rfl, rfl⟩ := hva
                obtain ⟨rfl, rfl⟩ := hvb
                obtain ⟨x, hx⟩ : ∃ x, Cs[i]? = some x := ⟨_, List.getElem?_eq_getElem (by rw [HLEN.out]; exact hlt)⟩
                obtain ⟨y, hy⟩ : ∃ y, Ct[i]? = some y := ⟨_, List.getElem?_eq_getElem (by rw [HLD.out]; exact hlt)⟩
                have hxm : x ∈ Cs := List.mem_of_getElem? hx
                have hym : y ∈ Ct := List.mem_of_getElem? hy
                have hxy : x.v = y.v := by
                  have h1 : (Cs.map T.v)[i]? = some x.v := by rw [List.getElem?_map, hx]; rfl
                  have h2 : (Ct.map T.v)[i]? = some y.v := by rw [List.getElem?_map, hy]; rfl
                  rw [HEQ.out, h2] at h1
                  injection h1 with h1
                  exact h1.symm
                have hsm : x.v.same2 y.v = true := by rw [← hxy]; exact same2_self (HMC.out x hxm)
                have hc1 := fun w' (f : Fr No wr w') => vsame_any x y w' 0 w11.heap.size ((HIC.out x hxm).no (fr.trans f) (Nat.le_refl _)) ((HID.out y hym).no (fr.trans f) (Nat.le_refl _)) (fr.trans f).size
                rw [hsm] at hc1
                have o1 := owns_fr HO1.out fr (fun _ _ h => h)
                have o2 := owns_fr HO2.out fr (fun _ _ h => h)
                have HX := hide hx
                have HF := hide fr
                have hii : (i : Int) ≤ 1000000 := by omega
                obtain ⟨kx, nx, sx, Ax, capx, lx, rx⟩ := x
                obtain ⟨ky, ny, sy, Ay, capy, ly, ry⟩ := y
                rw [T.val_mk, T.val_mk] at hc1
                have HC1 := hide hc1
                obtain ⟨p0, p1, p2, p3, p4, pf, pl⟩ := owns_five o1 hx
                obtain ⟨q0, q1, q2, q3, q4, qf, ql⟩ := owns_five o2 hy
                clear hx hy hxm hym hxy hsm hc1 o1 o2 fr
                go_wp2_with fail
                go_still_tail 8, (by kernel_rfl)
                change wpList _ _ _ _ _ wr.drew
                have F2 := (Fr.refl No wr).drew
                generalize wr.drew = wd at F2 ⊢
                have hc2 := HC1.out wd F2
                have HF2 := hide F2
                clear p0 p1 p2 p3 p4 pf pl q0 q1 q2 q3 q4 qf ql F2
                go_wp2_with fail
                refine hc2.mono ?_
                rintro e we ⟨rfl, fe⟩
                have HFE := hide ((HF.out.trans HF2.out).trans fe)
                clear fe hc2 HC1
                by_cases hi0 : 0 < i
                · obtain ⟨i1, hi1⟩ : ∃ i1, i = i1 + 1 := ⟨i - 1, by omega⟩
                  obtain ⟨x0, hx0⟩ : ∃ x0, Cs[i1]? = some x0 := ⟨_, List.getElem?_eq_getElem (by rw [HLEN.out]; omega)⟩
                  have hx0m : x0 ∈ Cs := List.mem_of_getElem? hx0
                  have hxm : T.mk kx nx sx Ax capx lx rx ∈ Cs := List.mem_of_getElem? HX.out
                  have hle := sorted_at HR9.out.srt hx0 HX.out (by omega)
                  have hc3 := fun w' (f : Fr No we w') => vorderX_any x0 (T.mk kx nx sx Ax capx lx rx) w' 0 w11.heap.size ((HIC.out x0 hx0m).no (HFE.out.trans f) (Nat.le_refl _)) ((HIC.out _ hxm).no (HFE.out.trans f) (Nat.le_refl _)) (HFE.out.trans f).size
                  have hm2 : (x0.v.may && (T.mk kx nx sx Ax capx lx rx).v.may) = true := by rw [HMC.out x0 hx0m, HMC.out _ hxm]; rfl
                  have hE : ordE x0.v (T.mk kx nx sx Ax capx lx rx).v = 0 := by unfold ordE; rw [if_pos hm2]
                  have hX : ordX x0.v (T.mk kx nx sx Ax capx lx rx).v ≤ 0 := by unfold ordX; rw [if_pos hm2]; exact hle
                  rw [hE] at hc3
                  generalize ordX x0.v (T.mk kx nx sx Ax capx lx rx).v = kk at hc3 hX
                  have o1 := owns_fr HO1.out HFE.out (fun _ _ h => h)
                  obtain ⟨kz, nz, sz, Az, capz, lz, rz⟩ := x0
                  rw [T.val_mk, T.val_mk] at hc3
                  have HC3 := hide hc3
                  obtain ⟨p0, p1, p2, p3, p4, pf, pl⟩ := owns_five o1 HX.out
                  obtain ⟨q0, q1, q2, q3, q4, qf, ql⟩ := owns_five o1 hx0
                  have ei : (i : Int) - 1 = (i1 : Int) := by omega
                  have hwi : IntKind.i64.wrap (i1 : Int) = (i1 : Int) := IntWalk.i64_in _ (by omega)
                  have hi1L : i1 < L.length := by omega
                  have hi1i : (i1 : Int) ≤ 1000000 := by omega
                  have h1i : (1 : Int) ≤ (i : Int) := by omega
                  have hkk : decide (0 < kk) = false := by simpa using hX
                  clear hx0 hx0m hxm hle hc3 hm2 hE hX o1 hi1
                  go_upto_region 28 with (fail)
                  go_cut [22, 23] from 185 to 197 (fun kv ev wx => kv = Value.int .i64 kk ∧ ev = Value.int .i64 0 ∧ Fr No we wx)
                  case first =>
                    go_region_held3 (fun w' => (∀ c i, c < we.heap.size → w'.cell? ⟨c, i, none⟩ = we.cell? ⟨c, i, none⟩) ∧ Fr No we w')
                      (first | exact ⟨fun _ _ _ => rfl, Fr.drew (Fr.refl No we)⟩ | (have hq : Fr No we _ := (‹_ ∧ Fr No we _›).2.trans ‹Fr No _ _›; exact ⟨hq.cells, hq⟩))
                      (first
                        | (go_at_call 55; have hs0 := (‹_ ∧ Fr No we _›).2; ((with_reducible refine (HC3.out _ hs0).mono ?_); rintro e w8 ⟨rfl, fr8⟩)))
                    all_goals
                      have F8 := hide (‹_ ∧ Fr No we _›).2
                      go_simp
                      go_wp2_with fail
                      go_meet
                      exact ⟨rfl, rfl, F8.out⟩
                  case rest =>
                    obtain ⟨rfl, rfl, fx⟩ := hcut
                    have HFX := hide (HFE.out.trans fx)
                    clear fx p0 p1 p2 p3 p4 pf pl q0 q1 q2 q3 q4 qf ql hwi ei
                    go_wp2
                    go_roundw
                    case rel => exact ⟨i + 1, by go_num, hlt, HFX.out⟩
                    case measure => simp [intOf]; omega
                · go_wp2
                  go_roundw
                  case rel => exact ⟨i + 1, by go_num, hlt, HFE.out⟩
                  case measure => simp [intOf]; omega
              · have HF := hide fr
                clear fr
                go_wp2_with fail
                refine (awake_any _).mono ?_
                rintro e wz ⟨rfl, fz⟩
                go_wp2
                go_ret
                exact ⟨rfl, (FW.out.trans HF.out).trans fz⟩

end Go.Proofs.Ytihjmipmjogpoaa

/- Two closed facts for the lifts. -/
namespace Go.Proofs.Ytihjmipmjogpoaa
theorem knob0 : ownKnob Try.prog.godebug = none := by kernel_rfl
theorem laidOut0 : laidOutB Try.prog = true := by kernel_rfl
end Go.Proofs.Ytihjmipmjogpoaa

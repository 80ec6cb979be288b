/- Texts joined: Bt22, H0. -/
import Derived.Test.YtihjmipmjogpoaaJn17
import Derived.Test.YtihjmipmjogpoaaRows
import Derived.ProofKit
import Derived.OpenShut
import Derived.ChangeOld
/- BrandTables: the law's walk. -/
namespace Go.Proofs.Ytihjmipmjogpoaa
open Go.RowKit
attribute [local go_sem ↓] Go.wp_at_zero Go.wp_at_succ

/-- Which of the two. -/
def KN (k : Int) (kn : Nat) : Prop := k = 0 ∧ kn = 0 ∨ k = 1 ∧ kn = 1

/-- What no call writes. -/
def CellsOf (bt br g6 : Nat) (wc w' : World) : Prop := ∀ c i, (c = bt ∨ c = br ∨ c = g6) → w'.cell? ⟨c, i, none⟩ = wc.cell? ⟨c, i, none⟩

theorem cells_step {w wc W W' : World} {bt br g6 : Nat} {k : Int} {p q p2 : PT} {j : Nat} {lo hi0 n : Nat} (h : LI w bt br k p q j wc) (h6 : ¬ p.B g6) (h6l : g6 < wc.heap.size) (f : Fr No wc W) (hn : p.Next p2 lo hi0 n W W') : CellsOf bt br g6 wc W' := by
  intro c i hc
  have hs := f.size
  have h1 := h.tbx.lt
  have h2 := h.rbx.lt
  have hl : c < wc.heap.size := by rcases hc with rfl | rfl | rfl <;> assumption
  have hb : ¬ p.B c := by
    rcases hc with rfl | rfl | rfl
    · exact h.nt.1
    · exact h.nt.2.2.1
    · exact h6
  exact (hn.fr.cell (by omega) hb).trans (f.cell hl fun h => h)

set_option maxRecDepth 100000 in
set_option maxHeartbeats 8000000 in
theorem tables_any (A : Option Addr) (cap : Nat) (l : List Stp) (w : World) (h : Stps w w.heap.size A cap l) : Calls Try.prog 6 #[.slice A l.length cap] w fun e w' => e = .returned (.bool true) ∧ Fr No w w' := by
  have HL := hide lives_any
  have hlen := h.len
  by_cases h400 : 400 < l.length
  · have h1 : (400 : Int) < (l.length : Int) := by omega
    clear h h400
    go_enter Try.func6, Try.ntmps6
    go_wp2_with fail
    refine (New_any w).mono ?_
    rintro e w1 ⟨tb, rfl, hT, fr1⟩
    clear hT
    go_wp2_with fail
    refine (New_any w1).mono ?_
    rintro e w2 ⟨tb2, rfl, hT, fr2⟩
    clear hT
    have HF := hide (fr1.trans fr2)
    clear fr1 fr2
    go_wp2_with fail
    refine (HL.out _).mono ?_
    rintro e w3 ⟨rfl, f3⟩
    go_wp2
    go_ret
    exact ⟨rfl, ((((HF.out.alloc _).alloc _).alloc _).alloc _).trans f3⟩
  · have h1 : decide ((400 : Int) < (l.length : Int)) = false := by simp; omega
    have h2 : l.length ≤ 400 := by omega
    have HS := hide h
    clear h h400
    go_enter Try.func6, Try.ntmps6
    go_wp2_with fail
    refine (New_any w).mono ?_
    rintro e w1 ⟨tb, rfl, hT, fr1⟩
    have HT := hide hT
    have HF1 := hide fr1
    clear hT fr1
    go_wp2_with fail
    refine (New_any w1).mono ?_
    rintro e w2 ⟨tb2, rfl, hT2, fr2⟩
    have hst := li_start HT.out HF1.out hT2 fr2
    have HST := hide hst
    clear hT2 fr2 hst HT HF1
    generalize hbt : w2.heap.size = bt at *
    go_wp2_with fail
    obtain ⟨p0, q0, hst⟩ := HST.out
    have HST0 := hide hst
    clear hst HST hbt
    go_loopw [5] (fun i wr => ∃ (j : Nat) (p q : PT), j ≤ l.length ∧ i = .int .i64 j ∧ LI w bt (bt + 1 + 1 + 1) 0 p q j wr) (fun i _ => l.length - (intOf i).toNat)
    case atStart => exact ⟨0, _, _, Nat.zero_le _, rfl, HST0.out⟩
    case round =>
      obtain ⟨j, p, q, hj, rfl, inv⟩ := hrel
      obtain ⟨wo, rfl⟩ : ∃ wo : World, wo = wr := ⟨_, rfl⟩
      generalize hbr : bt + 1 + 1 + 1 = br at *
      by_cases hlt : j < l.length
      · obtain ⟨b, o, how, on, leave, k1, n1, s1, A1, c1, l1, r1, k2, n2, s2, A2, c2, l2, r2, rfl, hb, hx, hkin, hvin, hl64, c00, c01, c02, c03, c04, c05, c06, c07, c08, c09, c10, c11, c12⟩ := (HS.out.no inv.fr (Nat.le_refl _)).at' hlt
        obtain ⟨k, kn, p, q, hbit, hk, inv⟩ : ∃ (k : Int) (kn : Nat) (p q : PT), bits .and .i64 on 1 = k ∧ (k = 0 ∧ kn = 0 ∨ k = 1 ∧ kn = 1) ∧ LI w bt br k p q j wo := by
          rcases and_one on with h | h
          · exact ⟨0, 0, p, q, h, .inl ⟨rfl, rfl⟩, inv⟩
          · exact ⟨1, 1, q, p, h, .inr ⟨rfl, rfl⟩, inv.swap⟩
        have g0 : b < wo.heap.size := by have := inv.fr.size; omega
        have HI := hide inv
        have HKI := hide hkin
        have HVI := hide hvin
        have HL64 := hide hl64
        have HX := hide hx
        clear hx hkin hvin hl64 inv
        go_upto_if 50 with (fail)
        have fx := (Fr.refl No wo).alloc (.cells #[.int .i64 how, .int .i64 on, .int .i64 leave, .int .u8 k1, .int .i64 n1, .string s1, .slice A1 l1.length c1, .int .i64 r1, .int .u8 k2, .int .i64 n2, .string s2, .slice A2 l2.length c2, .int .i64 r2] 58)
        have hb6 := Blk.new wo 58 #[.int .i64 how, .int .i64 on, .int .i64 leave, .int .u8 k1, .int .i64 n1, .string s1, .slice A1 l1.length c1, .int .i64 r1, .int .u8 k2, .int .i64 n2, .string s2, .slice A2 l2.length c2, .int .i64 r2]
        generalize World.alloc wo _ = W1 at *
        generalize hg6 : wo.heap.size = g6 at *
        have INV1 := hide (HI.out.no fx)
        have HB6 := hide hb6
        have HK0 : KN k kn := hk
        have hq6 : ∀ i, q.B i → i < g6 := fun i hi => by rw [← hg6]; exact (HI.out.qo.lt i hi).2
        have hp6 : ∀ i, p.B i → i < g6 := fun i hi => by rw [← hg6]; exact (HI.out.po.lt i hi).2
        have HQ6 := hide hq6
        have HP6 := hide hp6
        have hg6w : w.heap.size ≤ g6 := by rw [← hg6]; exact HI.out.fr.size
        have HG6 := hide hg6w
        clear hq6 hp6 fx hb6 HI c00 c01 c02 c03 c04 c05 c06 c07 c08 c09 c10 c11 c12 hg6w
        go_cut [] from 35 to 89 (fun wx => ∃ p', LI w bt br k p' q j wx ∧ ¬ p'.B g6 ∧ Blk wx g6 58 #[.int .i64 how, .int .i64 on, .int .i64 leave, .int .u8 k1, .int .i64 n1, .string s1, .slice A1 l1.length c1, .int .i64 r1, .int .u8 k2, .int .i64 n2, .string s2, .slice A2 l2.length c2, .int .i64 r2])
        case first =>
          by_cases h4 : how = 4
          · subst h4
            have HCP := hide (Copy_any W1 w.heap.size q.tb q.M q.O q.l q.came INV1.out.qo.tab)
            rcases hk with ⟨rfl, rfl⟩ | ⟨rfl, rfl⟩
            all_goals
              have hbt := INV1.out.tbx
              first | rw [two0] at hbt | rw [two1] at hbt
              obtain ⟨t0, t1⟩ := hbt.cells2
              have tq := hbt.lt
              clear hbt
              go_wp2_with fail
              refine HCP.out.mono ?_
              rintro e W2 ⟨tb', M', O', l', rfl, hT', hperm, f2⟩
              have hbt := INV1.out.tbx.fr f2 fun h => h
              clear t0 t1 tq
              have t0 := hbt.frozen 0
              have t1 := hbt.frozen 1
              first | rw [two0] at hbt | rw [two1] at hbt
              obtain ⟨t2, t3⟩ := hbt.cells2
              have tq := hbt.lt
              have HT' := hide hT'
              have HPM := hide hperm
              have F2 := hide f2
              clear hT' hperm f2 hbt
              go_upto_region 12 with (fail)
              generalize hW3 : World.setCell W2 _ _ = W3 at *
              have f3 : Fr (fun i => i = bt) W2 W3 := by rw [← hW3]; exact (Fr.refl (fun i => i = bt) W2).set (fun _ => rfl) _
              have hne : br ≠ bt := Blk.ne_ INV1.out.rbx INV1.out.tbx (by decide)
              have hge := INV1.out.ge
              have q3 := (INV1.out.qo.no F2.out).fr f3 (fun i hi h => by subst h; exact INV1.out.nt.2.1 hi) (fun i hi h => by omega)
              have HDC := hide (dcopy_any q.R W3 w.heap.size w.heap.size q.rb q.A q.cap q3.dt q3.hl)
              have hrb := (INV1.out.rbx.fr F2.out fun h => h).fr f3 hne
              clear t0 t1 t2 t3 tq q3
              first | rw [two0] at hrb | rw [two1] at hrb
              obtain ⟨rr0, rr1⟩ := hrb.cells2
              have rq := hrb.lt
              have HRB := hide hrb
              have HW3 := hide hW3
              clear f3 hne hge hrb hW3
              go_wp2_with fail
              refine HDC.out.mono ?_
              rintro e W4 ⟨rb', A', cap', rfl, hD, f4⟩
              have hrb := HRB.out.fr f4 fun h => h
              clear rr0 rr1 rq
              have rr0 := hrb.frozen 0
              have rr1 := hrb.frozen 1
              obtain ⟨rr2, rr3⟩ := hrb.cells2
              have rq := hrb.lt
              have HD := hide hD
              have F4 := hide f4
              clear hD f4 hrb
              go_upto_region 13 with (fail)
              generalize hW5 : World.setCell W4 _ _ = W5 at *
              have hD := HD.out
              have f4 := F4.out
              rw [← HW3.out] at hD f4
              have hres := li_copy HK0 INV1.out HT'.out HPM.out F2.out hD f4
              rw [hW5] at hres
              clear hD f4
              have hb6 : Blk W5 g6 58 #[.int .i64 4, .int .i64 on, .int .i64 leave, .int .u8 k1, .int .i64 n1, .string s1, .slice A1 l1.length c1, .int .i64 r1, .int .u8 k2, .int .i64 n2, .string s2, .slice A2 l2.length c2, .int .i64 r2] := by
                have f3 : Fr (fun i => i = bt) W2 W3 := by rw [← HW3.out]; exact (Fr.refl (fun i => i = bt) W2).set (fun _ => rfl) _
                have f5 : Fr (fun i => i = br) W4 W5 := by rw [← hW5]; exact (Fr.refl (fun i => i = br) W4).set (fun _ => rfl) _
                exact (((HB6.out.fr F2.out fun h => h).fr f3 (Blk.ne_ HB6.out INV1.out.tbx (by decide))).fr F4.out fun h => h).fr f5 (Blk.ne_ HB6.out INV1.out.rbx (by decide))
              have hbt := hres.tbx
              first | rw [two0] at hbt | rw [two1] at hbt
              obtain ⟨t0, t1⟩ := hbt.cells2
              have tq := hbt.lt
              have HRES := hide hres
              have HB65 := hide hb6
              clear rr0 rr1 rr2 rr3 rq hbt hres hb6 hW5
              go_wp2_with fail
              go_meet
              refine ⟨_, HRES.out, fun hi => ?_, HB65.out⟩
              have h6 := HB6.out.lt
              rcases hi with hi | hi
              · have := (HT'.out.lt _ hi).1; omega
              · have h1 := (HD.out.lt _ hi).1
                have h2 : W2.heap.size ≤ W3.heap.size := by rw [← HW3.out]; simp
                have h3 := F2.out.size
                omega
          · have e4 : (how == 4) = false := by simpa using h4
            clear h4
            go_wp2_with fail
            go_meet
            exact ⟨p, INV1.out, fun hi => by have := HP6.out _ hi; omega, HB6.out⟩
        obtain ⟨p1, hinv, hn6, hb6⟩ := hcut
        have hj9 : j < 1000 := by omega
        have hl6 := hb6.lt
        have hst : ∀ W, Fr No wc W → Calls Try.prog 33 #[.pointer (some ⟨p1.tb, 0, none⟩), .pointer (some ⟨p1.rb, 0, none⟩), .agg #[.int .i64 how, .int .i64 on, .int .i64 leave, .int .u8 k1, .int .i64 n1, .string s1, .slice A1 l1.length c1, .int .i64 r1, .int .u8 k2, .int .i64 n2, .string s2, .slice A2 l2.length c2, .int .i64 r2]] W
            fun e w' => e = .returned (.bool true) ∧ (∃ p2, LI w bt br k p2 q (j + 1) w') ∧ CellsOf bt br g6 wc w' := fun W f => by
          have hks := HS.out.ok _ (List.getElem_mem hlt)
          rw [HX.out] at hks
          obtain ⟨-, -, -, hk1, hk2⟩ := hks
          have fw := hinv.fr.trans f
          refine (step_any p1 ⟨how, on, leave, .mk k1 n1 s1 A1 c1 l1 r1, .mk k2 n2 s2 A2 c2 l2 r2⟩ W w.heap.size w.heap.size j (hinv.po.no f) hj9 (hk1.no fw (Nat.le_refl _)) (hk2.no fw (Nat.le_refl _)) HL64.out).mono ?_
          rintro e w' ⟨rfl, p2, hn⟩
          exact ⟨rfl, ⟨p2, (hinv.no f).next hn⟩, cells_step hinv hn6 hl6 f hn⟩
        have hwk : ∀ W, (∃ p2, LI w bt br k p2 q (j + 1) W) → CellsOf bt br g6 wc W → Calls Try.prog 34 #[.pointer (some ⟨q.tb, 0, none⟩), .pointer (some ⟨q.rb, 0, none⟩), .int .i64 0] W
            fun e w' => e = .returned (.bool true) ∧ (∃ p2, LI w bt br k p2 q (j + 1) w') ∧ CellsOf bt br g6 wc w' := fun W hi hc => by
          obtain ⟨p2, hi⟩ := hi
          have ho := hi.qo
          have h6 : g6 < W.heap.size := by
            have h0 := hc g6 0 (.inr (.inr rfl))
            rw [hb6.cell 0] at h0
            exact cell_lt h0
          have hlt : ∀ c, (c = bt ∨ c = br ∨ c = g6) → c < W.heap.size := fun c h => by
            rcases h with rfl | rfl | rfl
            · exact hi.tbx.lt
            · exact hi.rbx.lt
            · exact h6
          refine (walk4_any W w.heap.size w.heap.size q.tb q.M q.O q.l q.came q.rb q.A q.cap q.R 0 (by omega) ho.tab ho.dt ho.hl ho.rel).mono ?_
          rintro e w' ⟨rfl, f'⟩
          exact ⟨rfl, ⟨p2, hi.no f'⟩, fun c i h => (f'.cell (hlt c h) fun h => h).trans (hc c i h)⟩
        have HST := hide hst
        have HWK := hide hwk
        have hbt := hinv.tbx
        have hbr' := hinv.rbx
        have HINV := hide hinv
        clear hst hwk hinv
        obtain ⟨x0, x1, x2, x3, x4, x5, x6, x7, x8, x9, x10, x11, x12⟩ := hb6.cells13
        have q6 := hb6.lt
        clear hb6
        rcases hk with ⟨rfl, rfl⟩ | ⟨rfl, rfl⟩
        all_goals
          first | rw [two0] at hbt hbr' | rw [two1] at hbt hbr'
          obtain ⟨t0, t1⟩ := hbt.cells2
          have tq := hbt.lt
          obtain ⟨rr0, rr1⟩ := hbr'.cells2
          have rq := hbr'.lt
          clear hbt hbr'
          have hw0 : IntKind.i64.wrap 0 = 0 := by decide
          have hw1 : IntKind.i64.wrap 1 = 1 := by decide
          go_upto_region 15 with (fail)
          go_region_held3 (fun w' => ∀ c i, (c = bt ∨ c = br ∨ c = g6) → w'.cell? ⟨c, i, none⟩ = wc.cell? ⟨c, i, none⟩)
            (first | with_reducible exact HC3.out | with_reducible exact HC2.out | exact fun _ _ _ => rfl)
            (first
              | (go_at_call 33; ((with_reducible refine (HST.out _ (Fr.drew (Fr.refl No wc))).mono ?_); rintro e w2 ⟨rfl, hi2, hc2⟩; have HI2 := hide hi2; unfold CellsOf at hc2; have HC2 := hide hc2; clear hi2))
              | (go_at_call 34; ((refine (HWK.out _ HI2.out HC2.out).mono ?_); rintro e w3 ⟨rfl, hi3, hc3⟩; have HI3 := hide hi3; unfold CellsOf at hc3; have HC3 := hide hc3; clear hi3)))
          all_goals
            go_simp
            go_wp2_with fail
            go_roundw
            case rel =>
              obtain ⟨p2, hi3⟩ := HI3.out
              first
                | exact ⟨j + 1, p2, q, hlt, by go_num, hi3⟩
                | exact ⟨j + 1, q, p2, hlt, by go_num, hi3.swap'⟩
                | ((repeat apply Exists.intro); exact ⟨⟨j + 1, p2, q, hlt, by go_num, hi3⟩, rfl⟩)
                | ((repeat apply Exists.intro); exact ⟨⟨j + 1, q, p2, hlt, by go_num, hi3.swap'⟩, rfl⟩)
            case measure => simp [intOf]; omega
      · obtain rfl : j = l.length := by omega
        have hbt := inv.tbx
        have hbr' := inv.rbx
        rw [two0] at hbt hbr'
        obtain ⟨t0, t1⟩ := hbt.cells2
        have tq := hbt.lt
        obtain ⟨rr0, rr1⟩ := hbr'.cells2
        have rq := hbr'.lt
        have HI := hide inv
        clear hbt hbr' inv
        go_wp2_with fail
        refine (walk4_any wo w.heap.size w.heap.size p.tb p.M p.O p.l p.came p.rb p.A p.cap p.R 0 (by omega) HI.out.po.tab HI.out.po.dt HI.out.po.hl HI.out.po.rel).mono ?_
        rintro e w3 ⟨rfl, f3⟩
        have HI3 := hide (HI.out.no f3)
        have hbt := HI3.out.tbx
        have hbr' := HI3.out.rbx
        rw [two0] at hbt hbr'
        clear t0 t1 tq rr0 rr1 rq f3
        obtain ⟨t0, t1⟩ := hbt.cells2
        have tq := hbt.lt
        obtain ⟨rr0, rr1⟩ := hbr'.cells2
        have rq := hbr'.lt
        clear hbt hbr'
        go_wp2_with fail
        refine (walk4_any w3 w.heap.size w.heap.size q.tb q.M q.O q.l q.came q.rb q.A q.cap q.R 1 (by omega) HI3.out.qo.tab HI3.out.qo.dt HI3.out.qo.hl HI3.out.qo.rel).mono ?_
        rintro e w4 ⟨rfl, f4⟩
        have F4 := hide (HI3.out.fr.trans f4)
        clear t0 t1 tq rr0 rr1 rq f4
        go_wp2_with fail
        refine (HL.out _).mono ?_
        rintro e w5 ⟨rfl, f5⟩
        go_wp2
        go_ret
        exact ⟨rfl, F4.out.trans f5⟩

end Go.Proofs.Ytihjmipmjogpoaa

/- Two closed facts for the lifts. -/
namespace Go.Proofs.Ytihjmipmjogpoaa
theorem knob0 : ownKnob Try.prog.godebug = none := by kernel_rfl
theorem laidOut0 : laidOutB Try.prog = true := by kernel_rfl
end Go.Proofs.Ytihjmipmjogpoaa

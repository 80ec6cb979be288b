/- Texts joined: P8, G2, H0. -/
import Derived.Test.YtihjmipmjogpoaaJn9
import Derived.Deep.Cut
import Derived.Laws.OwnMore
import Derived.Deep.QuietTactic
import Derived.BigQuiet
import Derived.IntWalk
import Derived.Test.YtihjmipmjogpoaaRows
import Derived.ProofKit
import Derived.OpenShut
import Derived.ChangeOld
/- Chapter 2: a value that came in, and its lent likeness, in a world behind. -/
namespace Go.Proofs.Ytihjmipmjogpoaa
open Go.RowKit

structure Lo (w wi : World) (b0 go : Nat) (v own : T) (lo hi : Nat) : Prop where
  bv : Blk wi b0 27 v.cells.toArray
  bo : Blk wi go 27 own.cells.toArray
  iv : v.In wi 0 w.heap.size
  io : own.In wi lo hi
  mo : own.Mk wi
  f : Fr No w wi
  h0 : w.heap.size ≤ b0
  h1 : b0 < lo
  h2 : lo ≤ hi
  h3 : hi ≤ go

theorem Lo.fr {S : Nat → Prop} {w wi wj : World} {b0 go : Nat} {v own : T} {lo hi : Nat} (h : Lo w wi b0 go v own lo hi) (f : Fr S wi wj) (hs : ∀ i, i ≤ go → ¬ S i) : Lo w wj b0 go v own lo hi := by
  have a := h.bo.lt
  have b := h.f.size
  have c := h.h0
  have d := h.h1
  have e := h.h2
  have g := h.h3
  exact ⟨h.bv.fr f (hs _ (by omega)), h.bo.fr f (hs _ (by omega)), h.iv.fr f b (fun i _ hi => hs i (by omega)), h.io.fr f (by omega) (fun i _ hi => hs i (by omega)),
    T.Mk.fr f (by omega) _ h.io (fun i hi => hs i (by have := T.In.blocks _ h.io i hi; omega)) h.mo, h.f.trans' f (fun i hi hS => hs i (by omega) hS), h.h0, h.h1, h.h2, h.h3⟩

theorem Lo.no {w wi wj : World} {b0 go : Nat} {v own : T} {lo hi : Nat} (h : Lo w wi b0 go v own lo hi) (f : Fr No wi wj) : Lo w wj b0 go v own lo hi := h.fr f fun _ _ h => h

theorem Lo.lt {w wi : World} {b0 go : Nat} {v own : T} {lo hi : Nat} (h : Lo w wi b0 go v own lo hi) : hi ≤ wi.heap.size := by have := h.bo.lt; have := h.h3; omega

theorem may_small {v : V} (h : v.may = true) : (v.size : Int) ≤ 1200 ∧ (v.ht : Int) ≤ 40 := by
  have h1 := ht_le_dep v (may_ok h)
  simp only [V.may, V.fits, Bool.and_eq_true, decide_eq_true_eq] at h
  omega

theorem rf_rng {w : World} {lo hi : Nat} (t : T) : t.In w lo hi → ∀ r ∈ t.v.rf, -9223372036854775808 ≤ r ∧ r ≤ 9223372036854775807 := by
  induction t using T.ind with
  | h k n s A cap l r ih =>
    intro h x hx
    obtain ⟨f, _, hl⟩ := T.in_mk.1 h
    rw [T.v_mk, V.rf_mk] at hx
    split at hx
    · simp at hx; subst hx; exact ⟨f.r0, f.r1⟩
    · obtain ⟨L, hL, hx⟩ := List.mem_flatten.1 hx
      obtain ⟨u, hu, rfl⟩ := List.mem_map.1 hL
      obtain ⟨y, hy, rfl⟩ := List.mem_map.1 hu
      exact ih y hy (hl y hy) x hx

theorem rf_pos (v : V) : v.ok = true → ∀ r ∈ v.rf, 1 ≤ r := by
  induction v using V.ind with
  | h k n s l r ih =>
    intro h x hx
    rw [V.ok_mk, Bool.and_eq_true, List.all_eq_true] at h
    rw [V.rf_mk] at hx
    split at hx
    · rename_i h4
      subst h4
      simp at hx
      subst hx
      have := h.1
      simp [fok] at this
      omega
    · obtain ⟨L, hL, hx⟩ := List.mem_flatten.1 hx
      obtain ⟨u, hu, rfl⟩ := List.mem_map.1 hL
      exact ih u hu (h.2 u hu) x hx

end Go.Proofs.Ytihjmipmjogpoaa

/- Chapter 2: ValueLooks: what it computes. -/
namespace Go.Proofs.Ytihjmipmjogpoaa
open Go.RowKit

def negR (R : List Int) (j : Nat) : List Int := (R.take j).map (fun r => -r - 1) ++ R.drop j

theorem negR_set {R : List Int} {j : Nat} (h : j < R.length) : (refCells (negR R j)).set j (.int .i64 (-R[j] - 1)) = refCells (negR R (j + 1)) := by
  have hl : ((R.take j).map (fun r => -r - 1)).length = j := by simp; omega
  unfold negR refCells
  rw [List.map_append, List.map_append, List.set_append_right _ _ (by simp; omega), List.length_map, hl, Nat.sub_self, List.drop_eq_getElem_cons h, List.map_cons, List.set_cons_zero, List.take_succ_eq_append_getElem h, List.map_append, List.map_append, List.append_assoc]
  rfl

theorem refCells_get {R : List Int} {j : Nat} (h : j < R.length) : (refCells R)[j]? = some (.int .i64 R[j]) := by simp [refCells, h]

theorem refCells_at {R : List Int} {j : Nat} (h : j < R.length) : (refCells (negR R j))[j]? = some (.int .i64 R[j]) := by
  unfold negR refCells
  rw [List.map_append, List.getElem?_append_right (by simp; omega)]
  simp [Nat.min_eq_left (Nat.le_of_lt h), h]

theorem negR_all {R : List Int} {j : Nat} (h : j < R.length) : (refCells (negR R R.length))[j]? = some (.int .i64 (-R[j] - 1)) := by
  simp [negR, refCells, h]

set_option maxRecDepth 100000 in
set_option maxHeartbeats 16000000 in
theorem valueLooks_any (t : T) (w : World) (ht : t.In w 0 w.heap.size) : Calls Try.prog 11 #[t.val] w fun e w' => e = .returned (.bool true) ∧ Fr No w w' := by
  cases t with
  | mk k n s A cap l r =>
    rw [T.val_mk]
    have fr1 := (Fr.refl No w).alloc (.cells #[.int .u8 k, .int .i64 n, .string s, .slice A l.length cap, .int .i64 r] 27)
    have bv1 := Blk.new w 27 #[.int .u8 k, .int .i64 n, .string s, .slice A l.length cap, .int .i64 r]
    have iv1 := ht.no fr1 (Nat.le_refl _)
    have hs1 := fr1.size
    have hsm := small_any (T.mk k n s A cap l r) 1200 40 _ 0 w.heap.size iv1 hs1 (by omega) (by omega) (by omega) (by omega)
    rw [T.val_mk] at hsm
    generalize hu : (T.mk k n s A cap l r).v = u at *
    have HU := hide hu
    clear hu ht
    by_cases hf : (u.size : Int) ≤ 1200 ∧ (u.ht : Int) ≤ 40
    case neg =>
      rw [smallOf_no hf] at hsm
      have hm : u.may = false := by
        cases hm : u.may with
        | false => rfl
        | true => exact absurd (may_small hm) hf
      have h1 : u.meas = 0 := by simp [V.meas, hm]
      have h2 : u.refs = [] := by simp [V.refs, hm]
      have HM := hide hm
      have H1 := hide h1
      have H2 := hide h2
      clear hf hm h1 h2
      go_enter Try.func11, Try.ntmps11
      go_wp2_with fail
      generalize World.alloc w _ = w1 at *
      refine hsm.mono ?_
      rintro e w2 ⟨rfl, f2⟩
      have bv2 := bv1.fr f2 fun h => h
      have iv2 := iv1.no f2 hs1
      have g2 := fr1.trans f2
      clear hsm bv1 iv1 fr1 f2 hs1
      obtain ⟨c0, c1, c2, c3, c4, -⟩ := bv2.cells5
      have q0 := bv2.lt
      go_wp2_with fail
      have hc := Parts_any (T.mk k n s A cap l r) w2 0 w.heap.size iv2 g2.size
      rw [T.val_mk, HU.out, H1.out] at hc
      refine hc.mono ?_
      rintro e w3 ⟨rfl, f3⟩
      have bv3 := bv2.fr f3 fun h => h
      have iv3 := iv2.no f3 g2.size
      have g3 := g2.trans f3
      clear hc bv2 iv2 g2 f3 c0 c1 c2 c3 c4 q0
      obtain ⟨c0, c1, c2, c3, c4, -⟩ := bv3.cells5
      have q0 := bv3.lt
      go_wp2_with fail
      have hc := Deep_any (T.mk k n s A cap l r) w3 0 w.heap.size iv3 g3.size
      rw [T.val_mk, HU.out, HM.out] at hc
      simp only [Bool.false_eq_true, if_false] at hc
      refine hc.mono ?_
      rintro e w4 ⟨rfl, f4⟩
      have bv4 := bv3.fr f4 fun h => h
      have iv4 := iv3.no f4 g3.size
      have g4 := g3.trans f4
      clear hc bv3 iv3 g3 f4 c0 c1 c2 c3 c4 q0
      obtain ⟨c0, c1, c2, c3, c4, -⟩ := bv4.cells5
      have q0 := bv4.lt
      go_wp2_with fail
      have hc := may_any (T.mk k n s A cap l r) w4 0 w.heap.size iv4 g4.size
      rw [T.val_mk, HU.out, HM.out] at hc
      refine hc.mono ?_
      rintro e w5 ⟨rfl, f5⟩
      have bv5 := bv4.fr f5 fun h => h
      have iv5 := iv4.no f5 g4.size
      have g5 := g4.trans f5
      clear hc bv4 iv4 g4 f5 c0 c1 c2 c3 c4 q0
      obtain ⟨c0, c1, c2, c3, c4, -⟩ := bv5.cells5
      have q0 := bv5.lt
      go_wp2_with fail
      have hc := Refs_any (T.mk k n s A cap l r) w5 0 w.heap.size iv5 g5.size
      rw [T.val_mk, HU.out, H2.out] at hc
      refine hc.mono ?_
      rintro e w6 ⟨x6, rfl, o6, f6⟩
      obtain ⟨A6, c6, rfl⟩ := owns_form o6
      have g6 := g5.trans f6
      clear hc bv5 iv5 g5 f6 c0 c1 c2 c3 c4 q0 o6
      go_wp2_with fail
      refine (awake_any _).mono ?_
      rintro e w7 ⟨rfl, f7⟩
      go_wp2
      go_ret
      exact ⟨rfl, g6.trans f7⟩
    rw [smallOf_yes hf] at hsm
    have hnn : decide ((u.size : Int) < 0) = false := by simp
    have hus : u.size ≤ 1200 := by omega
    have HSM := hide hsm
    have hlen := lent_any (T.mk k n s A cap l r)
    rw [T.val_mk, HU.out] at hlen
    clear hf hsm
    generalize hqq : u.size = qq at *
    have HQQ := hide hqq
    clear hqq
    go_enter Try.func11, Try.ntmps11
    go_wp2_with fail
    generalize World.alloc w _ = w1 at *
    refine HSM.out.mono ?_
    rintro e w2 ⟨rfl, f2⟩
    have bv2 := bv1.fr f2 fun h => h
    have iv2 := iv1.no f2 hs1
    have g2 := fr1.trans f2
    clear bv1 iv1 fr1 f2 hs1
    obtain ⟨c0, c1, c2, c3, c4, -⟩ := bv2.cells5
    have q0 := bv2.lt
    have hl2 := hlen w2 0 w.heap.size iv2 g2.size
    have HL2 := hide hl2
    clear hl2 hlen
    go_wp2_with fail
    refine HL2.out.mono ?_
    rintro e w3 ⟨⟨ko, no, so, Ao, co, lo, ro⟩, rfl, ev3, in3, mk3, f3⟩
    rw [T.val_mk]
    have f4 := f3.alloc (.cells #[.int .u8 ko, .int .i64 no, .string so, .slice Ao lo.length co, .int .i64 ro] 27)
    have f34 := (Fr.refl No w3).alloc (.cells #[.int .u8 ko, .int .i64 no, .string so, .slice Ao lo.length co, .int .i64 ro] 27)
    have L4 : Lo w (w3.alloc (.cells #[.int .u8 ko, .int .i64 no, .string so, .slice Ao lo.length co, .int .i64 ro] 27)) w.heap.size w3.heap.size (T.mk k n s A cap l r) (T.mk ko no so Ao co lo ro) w2.heap.size w3.heap.size :=
      ⟨bv2.fr f4 fun h => h, Blk.new w3 27 _, iv2.no f4 g2.size, in3.no f34 (Nat.le_refl _), T.Mk.no f34 (Nat.le_refl _) in3 mk3, g2.trans f4, Nat.le_refl _, q0, f3.size, Nat.le_refl _⟩
    have HEO := hide ev3
    clear bv2 iv2 g2 c0 c1 c2 c3 c4 q0 ev3 in3 mk3 f3 f4 f34
    obtain ⟨cc0, cc1, cc2, cc3, cc4, -⟩ := Blk.cells5 L4.bv
    have ccq := L4.bv.lt
    go_wp2_with fail
    have hs23 : w2.heap.size ≤ w3.heap.size := L4.h2
    have hs34 := L4.bo.lt
    have hs02 := L4.h1
    generalize World.alloc w3 _ = w4 at *
    cases hm : u.may with
    | false =>
      have h1 : u.meas = 0 := by simp [V.meas, hm]
      have h2 : u.refs = [] := by simp [V.refs, hm]
      have HM := hide hm
      have HME := hide h1
      have H2 := hide h2
      clear hm h1 h2
      have hc := refParts_any (T.mk k n s A cap l r) w4 0 w.heap.size L4.iv L4.f.size
      rw [T.val_mk, HU.out, HME.out] at hc
      refine hc.mono ?_
      rintro e w5 ⟨rfl, f5⟩
      clear hc
      have L5 := L4.no f5
      have hz5 := Fr.size f5
      clear L4 
      clear cc0 cc1 cc2 cc3 cc4 ccq
      obtain ⟨c0, c1, c2, c3, c4, -⟩ := Blk.cells5 L5.bo
      have cq := Blk.lt L5.bo
      clear f5
      go_wp2_with fail
      have hc := Own2_any (T.mk ko no so Ao co lo ro) w5 w2.heap.size w3.heap.size L5.io L5.lt
      rw [T.val_mk, HEO.out, HM.out] at hc
      simp only [Bool.false_eq_true, if_false] at hc
      refine hc.mono ?_
      rintro e w6 ⟨⟨ka, na, sa, Aa, ca, la, ra⟩, rfl, eva, sha, f6⟩
      rw [T.val_mk]
      clear hc
      have fx := f6.alloc (.cells #[.int .u8 ka, .int .i64 na, .string sa, .slice Aa la.length ca, .int .i64 ra] 27)
      have fy := (Fr.refl No w6).alloc (.cells #[.int .u8 ka, .int .i64 na, .string sa, .slice Aa la.length ca, .int .i64 ra] 27)
      have Xa7 := Blk.new w6 27 #[.int .u8 ka, .int .i64 na, .string sa, .slice Aa la.length ca, .int .i64 ra]
      have Sa7 := hide (sha.no fy)
      have HVa := hide eva
      have hza := f6.size
      have L7 := L5.no fx
      clear L5  eva sha f6 fy fx
      clear c0 c1 c2 c3 c4 cq
      obtain ⟨c0, c1, c2, c3, c4, -⟩ := Blk.cells5 L7.bo
      have cq := Blk.lt L7.bo
      go_wp2_with fail
      have hy7 := Xa7.lt
      generalize World.alloc w6 _ = w7 at *
      have hc := Own2_any (T.mk ko no so Ao co lo ro) w7 w2.heap.size w3.heap.size L7.io L7.lt
      rw [T.val_mk, HEO.out, HM.out] at hc
      simp only [Bool.false_eq_true, if_false] at hc
      refine hc.mono ?_
      rintro e w8 ⟨⟨kb, nb, sb, Ab, cb, lb, rb⟩, rfl, evb, shb, f8⟩
      rw [T.val_mk]
      clear hc
      have fx := f8.alloc (.cells #[.int .u8 kb, .int .i64 nb, .string sb, .slice Ab lb.length cb, .int .i64 rb] 27)
      have fy := (Fr.refl No w8).alloc (.cells #[.int .u8 kb, .int .i64 nb, .string sb, .slice Ab lb.length cb, .int .i64 rb] 27)
      have Xb9 := Blk.new w8 27 #[.int .u8 kb, .int .i64 nb, .string sb, .slice Ab lb.length cb, .int .i64 rb]
      have Sb9 := hide (shb.no fy)
      have HVb := hide evb
      have hzb := f8.size
      have L9 := L7.no fx
      have Xa9 := Xa7.fr fx fun h => h
      have Sa9 := hide (Sa7.out.no fx)
      clear L7 Xa7 Sa7 evb shb f8 fy fx
      clear c0 c1 c2 c3 c4 cq
      obtain ⟨c0, c1, c2, c3, c4, -⟩ := Blk.cells5 L9.bo
      have cq := Blk.lt L9.bo
      go_wp2_with fail
      have hy9 := Xb9.lt
      generalize World.alloc w8 _ = w9 at *
      have hc := Parts_any (T.mk ko no so Ao co lo ro) w9 w2.heap.size w3.heap.size L9.io L9.lt
      rw [T.val_mk, HEO.out, HME.out] at hc
      refine hc.mono ?_
      rintro e w10 ⟨rfl, f10⟩
      clear hc
      have L10 := L9.no f10
      have hz10 := Fr.size f10
      have Xa10 := Xa9.fr f10 fun h => h
      have Sa10 := hide (Sa9.out.no f10)
      have Xb10 := Xb9.fr f10 fun h => h
      have Sb10 := hide (Sb9.out.no f10)
      clear L9 Xa9 Sa9 Xb9 Sb9
      clear c0 c1 c2 c3 c4 cq
      obtain ⟨c0, c1, c2, c3, c4, -⟩ := Blk.cells5 L10.bo
      have cq := Blk.lt L10.bo
      clear f10
      go_wp2_with fail
      have hc := may_any (T.mk ko no so Ao co lo ro) w10 w2.heap.size w3.heap.size L10.io L10.lt
      rw [T.val_mk, HEO.out, HM.out] at hc
      refine hc.mono ?_
      rintro e w11 ⟨rfl, f11⟩
      clear hc
      have L11 := L10.no f11
      have hz11 := Fr.size f11
      have Xa11 := Xa10.fr f11 fun h => h
      have Sa11 := hide (Sa10.out.no f11)
      have Xb11 := Xb10.fr f11 fun h => h
      have Sb11 := hide (Sb10.out.no f11)
      clear L10 Xa10 Sa10 Xb10 Sb10
      clear c0 c1 c2 c3 c4 cq
      obtain ⟨c0, c1, c2, c3, c4, -⟩ := Blk.cells5 L11.bo
      have cq := Blk.lt L11.bo
      obtain ⟨d0, d1, d2, d3, d4, -⟩ := Blk.cells5 Xa11
      have dq := Blk.lt Xa11
      clear f11
      go_wp2_with fail
      have hc := Deep_any (T.mk ko no so Ao co lo ro) w11 w2.heap.size w3.heap.size L11.io L11.lt
      rw [T.val_mk, HEO.out, HM.out] at hc
      simp only [Bool.false_eq_true, if_false] at hc
      refine hc.mono ?_
      rintro e w12 ⟨rfl, f12⟩
      clear hc
      have L12 := L11.no f12
      have hz12 := Fr.size f12
      have Xa12 := Xa11.fr f12 fun h => h
      have Sa12 := hide (Sa11.out.no f12)
      have Xb12 := Xb11.fr f12 fun h => h
      have Sb12 := hide (Sb11.out.no f12)
      clear L11 Xa11 Sa11 Xb11 Sb11
      clear c0 c1 c2 c3 c4 cq d0 d1 d2 d3 d4 dq
      obtain ⟨c0, c1, c2, c3, c4, -⟩ := Blk.cells5 L12.bo
      have cq := Blk.lt L12.bo
      obtain ⟨d0, d1, d2, d3, d4, -⟩ := Blk.cells5 Xa12
      have dq := Blk.lt Xa12
      clear f12
      go_wp2_with fail
      have hc := Refs_any (T.mk ko no so Ao co lo ro) w12 w2.heap.size w3.heap.size L12.io L12.lt
      rw [T.val_mk, HEO.out, H2.out] at hc
      refine hc.mono ?_
      rintro e w13 ⟨x13, rfl, o13, f13⟩
      obtain ⟨A13, c13, rfl⟩ := owns_form o13
      clear hc o13
      have L13 := L12.no f13
      have hz13 := Fr.size f13
      have Xa13 := Xa12.fr f13 fun h => h
      have Sa13 := hide (Sa12.out.no f13)
      have Xb13 := Xb12.fr f13 fun h => h
      have Sb13 := hide (Sb12.out.no f13)
      clear L12 Xa12 Sa12 Xb12 Sb12
      clear c0 c1 c2 c3 c4 cq d0 d1 d2 d3 d4 dq
      have hva := HVa.out
      rw [T.v_mk, V.zero] at hva
      injection hva with p1 p2 p3 p4 p5
      subst p1
      have hla : la.length = 0 := by rw [List.map_eq_nil_iff.1 p4]; rfl
      have hla2 : ((la.length : Int) == 0) = true := by simp [hla]
      have HLA := hide hla
      clear hla p2 p3 p4 p5
      obtain ⟨c0, c1, c2, c3, c4, -⟩ := Blk.cells5 L13.bo
      have cq := Blk.lt L13.bo
      obtain ⟨d0, d1, d2, d3, d4, -⟩ := Blk.cells5 Xa13
      have dq := Blk.lt Xa13
      obtain ⟨x0, x1, x2, x3, x4, -⟩ := Blk.cells5 L13.bv
      have xq := Blk.lt L13.bv
      clear f13
      go_wp2_with fail
      have hc := kept_any (T.mk ko no so Ao co lo ro) (T.mk k n s A cap l r) w13 w2.heap.size w3.heap.size 0 w.heap.size L13.io L13.lt L13.mo L13.iv L13.f.size (by rw [HEO.out, HU.out])
      rw [T.val_mk, T.val_mk] at hc
      refine hc.mono ?_
      rintro e w14 ⟨rfl, f14⟩
      have g14 := hide (L13.f.trans f14)
      clear c0 c1 c2 c3 c4 cq d0 d1 d2 d3 d4 dq x0 x1 x2 x3 x4 xq
      clear hc L13 Xa13 Sa13 Xb13 Sb13 f14
      go_wp2_with fail
      refine (awake_any _).mono ?_
      rintro e w15 ⟨rfl, f15⟩
      go_wp2
      go_ret
      exact ⟨rfl, g14.out.trans f15⟩
    | true =>
      have h1 : u.meas = qq := by simp [V.meas, hm, HQQ.out]
      have hqp : 0 < qq := by rw [← HQQ.out]; exact u.size_pos
      have hq1 : ((qq : Int) == 0) = false := by simp; omega
      have hq2 : (0 : Int) < (qq : Int) := by omega
      have HM := hide hm
      have HME := hide h1
      clear hm h1
      have hc := refParts_any (T.mk k n s A cap l r) w4 0 w.heap.size L4.iv L4.f.size
      rw [T.val_mk, HU.out, HME.out] at hc
      refine hc.mono ?_
      rintro e w5 ⟨rfl, f5⟩
      clear hc
      have L5 := L4.no f5
      have hz5 := Fr.size f5
      clear L4 
      clear cc0 cc1 cc2 cc3 cc4 ccq
      obtain ⟨c0, c1, c2, c3, c4, -⟩ := Blk.cells5 L5.bo
      have cq := Blk.lt L5.bo
      clear f5
      go_wp2_with fail
      have hc := Own2_any (T.mk ko no so Ao co lo ro) w5 w2.heap.size w3.heap.size L5.io L5.lt
      rw [T.val_mk, HEO.out, HM.out] at hc
      simp only [if_true] at hc
      refine hc.mono ?_
      rintro e w6 ⟨⟨ka, na, sa, Aa, ca, la, ra⟩, rfl, eva, sha, f6⟩
      rw [T.val_mk]
      clear hc
      have fx := f6.alloc (.cells #[.int .u8 ka, .int .i64 na, .string sa, .slice Aa la.length ca, .int .i64 ra] 27)
      have fy := (Fr.refl No w6).alloc (.cells #[.int .u8 ka, .int .i64 na, .string sa, .slice Aa la.length ca, .int .i64 ra] 27)
      have Xa7 := Blk.new w6 27 #[.int .u8 ka, .int .i64 na, .string sa, .slice Aa la.length ca, .int .i64 ra]
      have Sa7 := hide (sha.no fy)
      have HVa := hide eva
      have hza := f6.size
      have L7 := L5.no fx
      clear L5  eva sha f6 fy fx
      clear c0 c1 c2 c3 c4 cq
      obtain ⟨c0, c1, c2, c3, c4, -⟩ := Blk.cells5 L7.bo
      have cq := Blk.lt L7.bo
      go_wp2_with fail
      have hy7 := Xa7.lt
      generalize World.alloc w6 _ = w7 at *
      have hc := Own2_any (T.mk ko no so Ao co lo ro) w7 w2.heap.size w3.heap.size L7.io L7.lt
      rw [T.val_mk, HEO.out, HM.out] at hc
      simp only [if_true] at hc
      refine hc.mono ?_
      rintro e w8 ⟨⟨kb, nb, sb, Ab, cb, lb, rb⟩, rfl, evb, shb, f8⟩
      rw [T.val_mk]
      clear hc
      have fx := f8.alloc (.cells #[.int .u8 kb, .int .i64 nb, .string sb, .slice Ab lb.length cb, .int .i64 rb] 27)
      have fy := (Fr.refl No w8).alloc (.cells #[.int .u8 kb, .int .i64 nb, .string sb, .slice Ab lb.length cb, .int .i64 rb] 27)
      have Xb9 := Blk.new w8 27 #[.int .u8 kb, .int .i64 nb, .string sb, .slice Ab lb.length cb, .int .i64 rb]
      have Sb9 := hide (shb.no fy)
      have HVb := hide evb
      have hzb := f8.size
      have L9 := L7.no fx
      have Xa9 := Xa7.fr fx fun h => h
      have Sa9 := hide (Sa7.out.no fx)
      clear L7 Xa7 Sa7 evb shb f8 fy fx
      clear c0 c1 c2 c3 c4 cq
      obtain ⟨c0, c1, c2, c3, c4, -⟩ := Blk.cells5 L9.bo
      have cq := Blk.lt L9.bo
      go_wp2_with fail
      have hy9 := Xb9.lt
      generalize World.alloc w8 _ = w9 at *
      have hc := Parts_any (T.mk ko no so Ao co lo ro) w9 w2.heap.size w3.heap.size L9.io L9.lt
      rw [T.val_mk, HEO.out, HME.out] at hc
      refine hc.mono ?_
      rintro e w10 ⟨rfl, f10⟩
      clear hc
      have L10 := L9.no f10
      have hz10 := Fr.size f10
      have Xa10 := Xa9.fr f10 fun h => h
      have Sa10 := hide (Sa9.out.no f10)
      have Xb10 := Xb9.fr f10 fun h => h
      have Sb10 := hide (Sb9.out.no f10)
      clear L9 Xa9 Sa9 Xb9 Sb9
      clear c0 c1 c2 c3 c4 cq
      obtain ⟨c0, c1, c2, c3, c4, -⟩ := Blk.cells5 L10.bo
      have cq := Blk.lt L10.bo
      clear f10
      go_wp2_with fail
      have hc := may_any (T.mk ko no so Ao co lo ro) w10 w2.heap.size w3.heap.size L10.io L10.lt
      rw [T.val_mk, HEO.out, HM.out] at hc
      refine hc.mono ?_
      rintro e w11 ⟨rfl, f11⟩
      clear hc
      have L11 := L10.no f11
      have hz11 := Fr.size f11
      have Xa11 := Xa10.fr f11 fun h => h
      have Sa11 := hide (Sa10.out.no f11)
      have Xb11 := Xb10.fr f11 fun h => h
      have Sb11 := hide (Sb10.out.no f11)
      clear L10 Xa10 Sa10 Xb10 Sb10
      clear c0 c1 c2 c3 c4 cq
      obtain ⟨c0, c1, c2, c3, c4, -⟩ := Blk.cells5 L11.bo
      have cq := Blk.lt L11.bo
      clear f11
      go_wp2_with fail
      have hc := Refs_any (T.mk ko no so Ao co lo ro) w11 w2.heap.size w3.heap.size L11.io L11.lt
      rw [T.val_mk, HEO.out, refs_rf HM.out] at hc
      have hR1 := rf_rng _ L11.iv
      rw [HU.out] at hR1
      have hR2 := rf_pos u (may_ok HM.out)
      have hR3 := rf_length u
      rw [HQQ.out] at hR3
      generalize hRR : u.rf = R at *
      have HRR := hide hRR
      have HRB := hide (fun (r : Int) (hr : r ∈ R) => (⟨hR2 r hr, (hR1 r hr).2⟩ : 1 ≤ r ∧ r ≤ 9223372036854775807))
      have hRl : R.length ≤ 1200 := by omega
      clear hR1 hR2 hRR hR3
      refine hc.mono ?_
      rintro e w12 ⟨x12, rfl, ol, f12⟩
      obtain ⟨Al, cl, rfl⟩ := owns_form ol
      have OL12 := hide ol
      have HLB := hide (fun g hg => (owns_lt ol g hg).2)
      have hzl := f12.size
      clear hc ol
      have L12 := L11.no f12
      have hz12 := Fr.size f12
      have Xa12 := Xa11.fr f12 fun h => h
      have Sa12 := hide (Sa11.out.no f12)
      have Xb12 := Xb11.fr f12 fun h => h
      have Sb12 := hide (Sb11.out.no f12)
      clear L11 Xa11 Sa11 Xb11 Sb11
      clear c0 c1 c2 c3 c4 cq
      obtain ⟨c0, c1, c2, c3, c4, -⟩ := Blk.cells5 L12.bo
      have cq := Blk.lt L12.bo
      clear f12
      go_wp2_with fail
      have hc := Refs_any (T.mk ko no so Ao co lo ro) w12 w2.heap.size w3.heap.size L12.io L12.lt
      rw [T.val_mk, HEO.out, refs_rf HM.out, HRR.out] at hc
      refine hc.mono ?_
      rintro e w13 ⟨x13, rfl, om, f13⟩
      obtain ⟨Am, cm, rfl⟩ := owns_form om
      have OM13 := hide om
      have hzm := f13.size
      clear hc om
      have OL13 := hide (owns_fr OL12.out f13 fun _ _ h => h)
      clear OL12
      have L13 := L12.no f13
      have hz13 := Fr.size f13
      have Xa13 := Xa12.fr f13 fun h => h
      have Sa13 := hide (Sa12.out.no f13)
      have Xb13 := Xb12.fr f13 fun h => h
      have Sb13 := hide (Sb12.out.no f13)
      clear L12 Xa12 Sa12 Xb12 Sb12
      clear c0 c1 c2 c3 c4 cq
      obtain ⟨c0, c1, c2, c3, c4, -⟩ := Blk.cells5 L13.bv
      have cq := Blk.lt L13.bv
      clear f13
      go_wp2_with fail
      have hc := refRefs_any (T.mk k n s A cap l r) w13 0 w.heap.size L13.iv L13.f.size (by rw [HU.out, HQQ.out]; omega)
      rw [T.val_mk, HU.out, HRR.out] at hc
      refine hc.mono ?_
      rintro e w14 ⟨x14, rfl, ow, -, f14⟩
      obtain ⟨Aw, cw, rfl⟩ := owns_form ow
      have OW14 := hide ow
      have hzw := f14.size
      clear hc ow
      have OL14 := hide (owns_fr OL13.out f14 fun _ _ h => h)
      have OM14 := hide (owns_fr OM13.out f14 fun _ _ h => h)
      clear OL13 OM13
      have L14 := L13.no f14
      have hz14 := Fr.size f14
      have Xa14 := Xa13.fr f14 fun h => h
      have Sa14 := hide (Sa13.out.no f14)
      have Xb14 := Xb13.fr f14 fun h => h
      have Sb14 := hide (Sb13.out.no f14)
      clear L13 Xa13 Sa13 Xb13 Sb13
      clear c0 c1 c2 c3 c4 cq
      clear f14
      have hbl : ∀ i, i ∈ (T.mk ka na sa Aa ca la ra).blocks → w5.heap.size ≤ i ∧ i < w6.heap.size := fun i hi => T.In.blocks _ Sa14.out.inn i hi
      have hd : ∀ w', Fr No w14 w' → Calls Try.prog 57 #[(T.mk ko no so Ao co lo ro).val] w' fun e w2 => e = .returned (.int .i64 (u.dep : Int)) ∧ Fr No w' w2 := fun w' f => by
        have h := Deep_any (T.mk ko no so Ao co lo ro) w' w2.heap.size w3.heap.size (L14.no f).io (L14.no f).lt
        rw [HEO.out, if_pos HM.out] at h
        exact h
      have hrd : ∀ w', Fr No w14 w' → Calls Try.prog 63 #[(T.mk k n s A cap l r).val] w' fun e w2 => e = .returned (.int .i64 (u.dep : Int)) ∧ Fr No w' w2 := fun w' f => by
        have h := refDeep_any (T.mk k n s A cap l r) w' 0 w.heap.size (L14.no f).iv (L14.no f).f.size (by rw [HU.out]; exact may_dep HM.out)
        rw [HU.out] at h
        exact h
      have hh : ∀ w', Fr No w14 w' → Calls Try.prog 50 #[(T.mk ka na sa Aa ca la ra).val, (T.mk kb nb sb Ab cb lb rb).val, (T.mk k n s A cap l r).val] w' fun e w2 => e = .returned (.bool true) ∧ Fr (fun i => i ∈ (T.mk ka na sa Aa ca la ra).blocks) w' w2 := fun w' f => by
        have hz := f.size
        have h1 := L14.f.size
        have h2 := L14.h3
        have h3 := L14.bo.lt
        have h5 : w.heap.size ≤ w5.heap.size := by omega
        exact held_any _ _ _ u w' w5.heap.size w6.heap.size w7.heap.size w8.heap.size 0 w.heap.size (Sa14.out.no f) (by omega) (by omega) (Sb14.out.no f).inn (by omega) (fun i h0 _ hi => by have := hbl i hi; omega) (L14.no f).iv (by omega) (fun i _ h0 hi => by have := hbl i hi; omega) HVa.out HVb.out HU.out HM.out
      generalize hSA : (fun i => i ∈ (T.mk ka na sa Aa ca la ra).blocks) = SA at *
      have hSA2 : ∀ i, SA i → w5.heap.size ≤ i ∧ i < w6.heap.size := fun i hi => hbl i (by rw [← hSA] at hi; exact hi)
      have hcell : ∀ w', Fr SA w14 w' → (w'.cell? ⟨w.heap.size, 0, none⟩ = some (.int .u8 k) ∧ w'.cell? ⟨w.heap.size, 1, none⟩ = some (.int .i64 n) ∧ w'.cell? ⟨w.heap.size, 2, none⟩ = some (.string s) ∧ w'.cell? ⟨w.heap.size, 3, none⟩ = some (.slice A l.length cap) ∧ w'.cell? ⟨w.heap.size, 4, none⟩ = some (.int .i64 r)) ∧
          (w'.cell? ⟨w3.heap.size, 0, none⟩ = some (.int .u8 ko) ∧ w'.cell? ⟨w3.heap.size, 1, none⟩ = some (.int .i64 no) ∧ w'.cell? ⟨w3.heap.size, 2, none⟩ = some (.string so) ∧ w'.cell? ⟨w3.heap.size, 3, none⟩ = some (.slice Ao lo.length co) ∧ w'.cell? ⟨w3.heap.size, 4, none⟩ = some (.int .i64 ro)) ∧
          (w'.cell? ⟨w6.heap.size, 0, none⟩ = some (.int .u8 ka) ∧ w'.cell? ⟨w6.heap.size, 1, none⟩ = some (.int .i64 na) ∧ w'.cell? ⟨w6.heap.size, 2, none⟩ = some (.string sa) ∧ w'.cell? ⟨w6.heap.size, 3, none⟩ = some (.slice Aa la.length ca) ∧ w'.cell? ⟨w6.heap.size, 4, none⟩ = some (.int .i64 ra)) ∧
          (w'.cell? ⟨w8.heap.size, 0, none⟩ = some (.int .u8 kb) ∧ w'.cell? ⟨w8.heap.size, 1, none⟩ = some (.int .i64 nb) ∧ w'.cell? ⟨w8.heap.size, 2, none⟩ = some (.string sb) ∧ w'.cell? ⟨w8.heap.size, 3, none⟩ = some (.slice Ab lb.length cb) ∧ w'.cell? ⟨w8.heap.size, 4, none⟩ = some (.int .i64 rb)) := fun w' f => by
        have h2 := L14.h3
        have h3 := L14.bo.lt
        have h4 := L14.h0
        have h5 := L14.h1
        have h6 := L14.h2
        exact ⟨blk5 (Blk.fr L14.bv f fun h => by have := hSA2 _ h; omega), blk5 (Blk.fr L14.bo f fun h => by have := hSA2 _ h; omega), blk5 (Blk.fr Xa14 f fun h => by have := hSA2 _ h; omega), blk5 (Blk.fr Xb14 f fun h => by have := hSA2 _ h; omega)⟩
      have HSA := hide hSA2
      have HC := hide hcell
      rw [T.val_mk, T.val_mk, T.val_mk] at hh
      rw [T.val_mk] at hd hrd
      have HD := hide hd
      have HRD := hide hrd
      have HHE := hide hh
      have HL14 := hide L14
      have vq := L14.bv.lt
      have oq := L14.bo.lt
      have aq := Xa14.lt
      have bq := Xb14.lt
      obtain ⟨⟨c0, c1, c2, c3, c4⟩, ⟨d0, d1, d2, d3, d4⟩, ⟨x0, x1, x2, x3, x4⟩, ⟨y0, y1, y2, y3, y4⟩⟩ := hcell w14 (Fr.refl SA w14)
      generalize u.dep = dd at *
      clear hSA hSA2 hbl hd hrd hh hcell L14 Xa14 Xb14 Sa14 Sb14
      go_wp2_with fail
      go_region_held3 (fun w' => (w'.cell? ⟨w.heap.size, 0, none⟩ = some (.int .u8 k) ∧ w'.cell? ⟨w.heap.size, 1, none⟩ = some (.int .i64 n) ∧ w'.cell? ⟨w.heap.size, 2, none⟩ = some (.string s) ∧ w'.cell? ⟨w.heap.size, 3, none⟩ = some (.slice A l.length cap) ∧ w'.cell? ⟨w.heap.size, 4, none⟩ = some (.int .i64 r)) ∧
          (w'.cell? ⟨w3.heap.size, 0, none⟩ = some (.int .u8 ko) ∧ w'.cell? ⟨w3.heap.size, 1, none⟩ = some (.int .i64 no) ∧ w'.cell? ⟨w3.heap.size, 2, none⟩ = some (.string so) ∧ w'.cell? ⟨w3.heap.size, 3, none⟩ = some (.slice Ao lo.length co) ∧ w'.cell? ⟨w3.heap.size, 4, none⟩ = some (.int .i64 ro)) ∧
          (w'.cell? ⟨w6.heap.size, 0, none⟩ = some (.int .u8 ka) ∧ w'.cell? ⟨w6.heap.size, 1, none⟩ = some (.int .i64 na) ∧ w'.cell? ⟨w6.heap.size, 2, none⟩ = some (.string sa) ∧ w'.cell? ⟨w6.heap.size, 3, none⟩ = some (.slice Aa la.length ca) ∧ w'.cell? ⟨w6.heap.size, 4, none⟩ = some (.int .i64 ra)) ∧
          (w'.cell? ⟨w8.heap.size, 0, none⟩ = some (.int .u8 kb) ∧ w'.cell? ⟨w8.heap.size, 1, none⟩ = some (.int .i64 nb) ∧ w'.cell? ⟨w8.heap.size, 2, none⟩ = some (.string sb) ∧ w'.cell? ⟨w8.heap.size, 3, none⟩ = some (.slice Ab lb.length cb) ∧ w'.cell? ⟨w8.heap.size, 4, none⟩ = some (.int .i64 rb)))
        (first | ((with_reducible refine HC.out _ ?_); (repeat (first | with_reducible exact Fr.refl SA w14 | with_reducible exact Fr.no FN57.out | with_reducible exact Fr.no FN63.out | with_reducible exact FH.out | with_reducible refine Fr.drew ?_)); done) | fail)
        (first
          | (go_at_call 57; (with_reducible refine (HD.out _ ?_).mono ?_); (repeat (first | with_reducible exact Fr.refl No w14 | with_reducible exact FN63.out | with_reducible refine Fr.drew ?_)); rintro e wa ⟨rfl, fra⟩; have FN57 := hide (Fr.trans (a := w14) (by repeat (first | with_reducible exact Fr.refl No w14 | with_reducible exact FN63.out | with_reducible refine Fr.drew ?_)) fra); clear fra)
          | (go_at_call 63; (with_reducible refine (HRD.out _ ?_).mono ?_); (repeat (first | with_reducible exact Fr.refl No w14 | with_reducible exact FN57.out | with_reducible refine Fr.drew ?_)); rintro e wb ⟨rfl, frb⟩; have FN63 := hide (Fr.trans (a := w14) (by repeat (first | with_reducible exact Fr.refl No w14 | with_reducible exact FN57.out | with_reducible refine Fr.drew ?_)) frb); clear frb)
          | (go_at_call 50; (with_reducible refine (HHE.out _ ?_).mono ?_); (repeat (first | with_reducible exact Fr.refl No w14 | with_reducible exact FN57.out | with_reducible exact FN63.out | with_reducible refine Fr.drew ?_)); rintro e wh ⟨rfl, frh⟩; have FH := hide (Fr.trans' (a := w14) (S := SA) (S' := SA) (Fr.no (by repeat (first | with_reducible exact Fr.refl No w14 | with_reducible exact FN57.out | with_reducible exact FN63.out | with_reducible refine Fr.drew ?_))) frh (fun _ _ h => h)); clear frh))
      all_goals
        have hOLb := fun g hg => owns_lt OL14.out g hg
        have hOMb := fun g hg => owns_lt OM14.out g hg
        have hOWb := fun g hg => owns_lt OW14.out g hg
        have OLh := hide (owns_fr OL14.out FH.out fun g hg h => by have := HSA.out g h; have := hOLb g hg; omega)
        have OMh := hide (owns_fr OM14.out FH.out fun g hg h => by have := HSA.out g h; have := hOMb g hg; omega)
        have OWh := hide (owns_fr OW14.out FH.out fun g hg h => by have := HSA.out g h; have := hOWb g hg; omega)
        have HLh := hide (HL14.out.fr FH.out fun i hi h => by have := HSA.out i h; omega)
        have hNM : ∀ g, (Value.slice Am R.length cm).ownBlock = some g → (Value.slice Al R.length cl).ownBlock ≠ some g := fun g h1 h2 => by
          have a := hOMb g h1
          have b := hOLb g h2
          have c := HLB.out g h2
          omega
        have hNW : ∀ g, (Value.slice Aw R.length cw).ownBlock = some g → (Value.slice Al R.length cl).ownBlock ≠ some g := fun g h1 h2 => by
          have a := hOWb g h1
          have b := hOLb g h2
          have c := HLB.out g h2
          omega
        have HNM := hide hNM
        have HNW := hide hNW
        have hsh := FH.out.size
        have hOL2 := hide hOLb
        clear hNM hNW hOLb hOMb hOWb c0 c1 c2 c3 c4 d0 d1 d2 d3 d4 x0 x1 x2 x3 x4 y0 y1 y2 y3 y4 vq oq aq bq
        go_wp2_with fail
        go_loopw [12] (fun i wr => ∃ j : Nat, j ≤ R.length ∧ i = .int .i64 j ∧ Fr (fun i => (Value.slice Al R.length cl).ownBlock = some i) wh wr ∧ wr.ownsRow w11.heap.size 25 1 (.slice Al R.length cl) R.length (refCells (negR R j))) (fun i _ => R.length - (intOf i).toNat)
        case atStart => exact ⟨0, Nat.zero_le _, rfl, Fr.refl _ _, by simpa [negR] using OLh.out⟩
        case round =>
          obtain ⟨j, hj, rfl, fr, own⟩ := hrel
          by_cases hlt : j < R.length
          · obtain ⟨gl, cl', hAl, hg0, hg1⟩ := own.form (by omega)
            simp only [Value.slice.injEq, true_and] at hAl
            obtain ⟨rfl, rfl⟩ := hAl
            have hcx := (own.cellAt j (by omega)).trans (refCells_at hlt)
            have hcf := own.frozenAt j
            obtain ⟨hx1, hx2⟩ := HRB.out _ (List.getElem_mem hlt)
            have hst := own.stored j (.int .i64 (-R[j] - 1))
            rw [negR_set hlt] at hst
            generalize R[j] = x at *
            have HST := hide hst.1
            have HF := hide fr
            have HG := hide hst.2
            clear hst fr own
            go_wp2
            go_roundw
            case rel => exact ⟨j + 1, hlt, by go_num, HF.out.trans' (fr_grown HG.out) (fun i _ h => h.symm), HST.out⟩
            case measure => simp [intOf]; omega
          · obtain rfl : R.length = j := by omega
            obtain ⟨wy, rfl⟩ : ∃ wy : World, wy = wr := ⟨_, rfl⟩
            have OLy := hide own
            have OMy := hide (owns_fr OMh.out fr fun g hg h => HNM.out g hg h)
            have OWy := hide (owns_fr OWh.out fr fun g hg h => HNW.out g hg h)
            have HLy := hide (HLh.out.fr fr fun i hi h => by have := hOL2.out i h; omega)
            clear fr own hj hlt
            go_wp2_with fail
            go_loopw [13] (fun i wr => ∃ j : Nat, j ≤ R.length ∧ i = .int .i64 j ∧ Fr No wy wr) (fun i _ => R.length - (intOf i).toNat)
            case atStart => exact ⟨0, Nat.zero_le _, rfl, Fr.refl _ _⟩
            case round =>
              obtain ⟨j, hj, rfl, fr⟩ := hrel
              by_cases hlt : j < R.length
              · have ol := owns_fr OLy.out fr fun _ _ h => h
                have om := owns_fr OMy.out fr fun _ _ h => h
                have ow := owns_fr OWy.out fr fun _ _ h => h
                obtain ⟨gl, cl', hAl, -, hg1⟩ := ol.form (by omega)
                obtain ⟨gm, cm', hAm, -, hg2⟩ := om.form (by omega)
                obtain ⟨gw, cw', hAw, -, hg3⟩ := ow.form (by omega)
                simp only [Value.slice.injEq, true_and] at hAl hAm hAw
                obtain ⟨rfl, rfl⟩ := hAl
                obtain ⟨rfl, rfl⟩ := hAm
                obtain ⟨rfl, rfl⟩ := hAw
                have e1 := (ol.cellAt j (by omega)).trans (negR_all hlt)
                have e2 := (om.cellAt j (by omega)).trans (refCells_get hlt)
                have e3 := (ow.cellAt j (by omega)).trans (refCells_get hlt)
                obtain ⟨hx1, hx2⟩ := HRB.out _ (List.getElem_mem hlt)
                generalize R[j] = x at *
                have hw1 : IntKind.i64.wrap (-x) = -x := IntWalk.i64_in _ (by omega)
                have hw2 : IntKind.i64.wrap (-x - 1) = -x - 1 := IntWalk.i64_in _ (by omega)
                have HF := hide fr
                clear fr ol om ow
                go_wp2_with fail
                go_quiet (fail)
                clear hw1 hw2
                go_wp2
                go_roundw
                case rel => exact ⟨j + 1, hlt, by go_num, HF.out.drewN _⟩
                case measure => simp [intOf]; omega
              · obtain rfl : R.length = j := by omega
                have Lz := HLy.out.no fr
                clear fr
                obtain ⟨c0, c1, c2, c3, c4, -⟩ := Blk.cells5 Lz.bo
                obtain ⟨d0, d1, d2, d3, d4, -⟩ := Blk.cells5 Lz.bv
                have cq := Lz.bo.lt
                have dq := Lz.bv.lt
                go_wp2_with fail
                have hc := kept_any (T.mk ko no so Ao co lo ro) (T.mk k n s A cap l r) wr w2.heap.size w3.heap.size 0 w.heap.size Lz.io Lz.lt Lz.mo Lz.iv Lz.f.size (by rw [HEO.out, HU.out])
                rw [T.val_mk, T.val_mk] at hc
                refine hc.mono ?_
                rintro e wp ⟨rfl, fp⟩
                have gp := hide (Lz.f.trans fp)
                clear hc Lz fp c0 c1 c2 c3 c4 d0 d1 d2 d3 d4 cq dq
                go_wp2_with fail
                refine (awake_any _).mono ?_
                rintro e wq ⟨rfl, fq⟩
                go_wp2
                go_ret
                exact ⟨rfl, gp.out.trans fq⟩

end Go.Proofs.Ytihjmipmjogpoaa

/- Two closed facts for the lifts. -/
namespace Go.Proofs.Ytihjmipmjogpoaa
theorem knob0 : ownKnob Try.prog.godebug = none := by kernel_rfl
theorem laidOut0 : laidOutB Try.prog = true := by kernel_rfl
end Go.Proofs.Ytihjmipmjogpoaa

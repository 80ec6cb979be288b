/- BrandNone: what it computes. -/
import Derived.Test.YtihjmipmjogpoaaN2
import Derived.Test.YtihjmipmjogpoaaL1
import Derived.Deep.Cut
import Derived.Deep.CutRange
import Derived.Deep.DrawnRows
import Derived.LoopN
namespace Go.Proofs.Ytihjmipmjogpoaa
open Go.RowKit
attribute [local go_sem ↓] Go.wp_at_zero Go.wp_at_succ

theorem same_zero (w : World) : Calls Try.prog 37 #[.agg #[.int .u8 0, .int .i64 0, .string ⟨#[]⟩, .slice none 0 0, .int .i64 0], .agg #[.int .u8 0, .int .i64 0, .string ⟨#[]⟩, .slice none 0 0, .int .i64 0]] w fun e w' => e = .returned (.bool true) ∧ Fr No w w' := by
  have h := same_any T.zero T.zero w 0 0 0 0 (T.zero_ow _ _ _).inn (Nat.zero_le _) (T.zero_ow _ _ _).inn (Nat.zero_le _)
  rw [T.zero_val] at h
  refine h.mono ?_
  rintro e w' ⟨q, rfl, hq, fr⟩
  exact ⟨by rw [hq.2 rfl], fr⟩

def zero5 : Array Value := #[.int .u8 0, .int .i64 0, .string ⟨#[]⟩, .slice none 0 0, .int .i64 0]

/-- What a call that answers a value leaves. -/
def ZeroCut (w : World) (s8 s9 s10 : Value) (wx : World) : Prop :=
  ∃ g : Nat, s8 = .pointer (some ⟨g, 0, none⟩) ∧ s9 = .bool false ∧ s10 = .int .i64 1 ∧ Blk wx g 27 zero5 ∧ Fr No w wx

theorem zerocut_after {w w2 : World} (fr : Fr No w w2) : ZeroCut w (.pointer (some ⟨w2.heap.size, 0, none⟩)) (.bool false) (.int .i64 1) (w2.alloc (.cells #[.int .u8 0, .int .i64 0, .string ⟨#[]⟩, .slice none 0 0, .int .i64 0] 27)) :=
  ⟨_, rfl, rfl, rfl, Blk.new _ _ _, fr.alloc _⟩

theorem zerocut_before {w w2 : World} {g : Nat} (hb : Blk w2 g 27 #[.int .u8 0, .int .i64 0, .string ⟨#[]⟩, .slice none 0 0, .int .i64 0]) (fr : Fr No w w2) (hg : w.heap.size ≤ g) : ZeroCut w (.pointer (some ⟨g, 0, none⟩)) (.bool false) (.int .i64 1)
    (((((w2.setCell ⟨g, 0, none⟩ (.int .u8 0)).setCell ⟨g, 1, none⟩ (.int .i64 0)).setCell ⟨g, 2, none⟩ (.string ⟨#[]⟩)).setCell ⟨g, 3, none⟩ (.slice none 0 0)).setCell ⟨g, 4, none⟩ (.int .i64 0)) :=
  ⟨_, rfl, rfl, rfl, (sets5 w2 g 27 _ _ _ _ _ _ _ _ _ _ hb).1, ((((fr.setNew hg _).setNew hg _).setNew hg _).setNew hg _).setNew hg _⟩

/-- What lies there all the while. -/
structure NS (w : World) (ka va : Array Value) (tb ar : Nat) (W : World) : Prop where
  fr : Fr No w W
  bk : Blk W w.heap.size 27 ka
  bv : Blk W (w.heap.size + 1) 27 va
  br : Blk W (w.heap.size + 1 + 1) 4 #[.bool false]
  bt : Blk W tb 66 #[.map none, .map none, .int .i64 0]
  ba : Blk W ar 51 #[.pointer none, .pointer (some ⟨tb, 0, none⟩)]

theorem NS.no {w W W' : World} {ka va : Array Value} {tb ar : Nat} (h : NS w ka va tb ar W) (f : Fr No W W') : NS w ka va tb ar W' :=
  ⟨h.fr.trans f, h.bk.fr f fun h => h, h.bv.fr f fun h => h, h.br.fr f fun h => h, h.bt.fr f fun h => h, h.ba.fr f fun h => h⟩

theorem NS.p0 {w W : World} {ka va : Array Value} {tb ar : Nat} (_ : NS w ka va tb ar W) : NoTab W none := .inl rfl
theorem NS.p1 {w W : World} {ka va : Array Value} {tb ar : Nat} (h : NS w ka va tb ar W) : NoTab W (some ⟨tb, 0, none⟩) := .inr ⟨tb, rfl, h.bt⟩

theorem fr_both {w W : World} (h : Fr No w W) : (∀ c i, c < w.heap.size → W.cell? ⟨c, i, none⟩ = w.cell? ⟨c, i, none⟩) ∧ Fr No w W := ⟨h.cells, h⟩

theorem enters_fn {P : Program} {f : FuncId} {fn : Func} {c : Code} (hf : P.funcs[f]? = some fn) (hname : (fn.name == "runtime.NumGoroutine") = false) (hb : fn.body = some c) : ∀ args w, (callFunc f args).run P w = .ok (.enter f args) w := by
  intro args w
  have h1 : fn.name ≠ "runtime.NumGoroutine" := by simpa using hname
  simp [callFunc, hf, h1, hb, mark]

theorem func_eql_nil (w : World) (g : Nat) : (binOp .eql 68 (.func (.func 100) #[] #[.pointer (some ⟨g, 0, none⟩)]) .nilFunc).run Try.prog w = .ok (.bool false) w := by kernel_rfl

theorem def_kept {w W : World} {D : Nat} {o : Obj} (h : w.heap[D]? = some o) (f : Fr No w W) : W.heap[D]? = some o := (f.block D (lt_of_heap h) (fun h => h)).trans h

theorem five_new {w W : World} (h : Fr No w W) {g : Nat} (hg : w.heap.size ≤ g) (x0 x1 x2 x3 x4 : Value) : Fr No w (((((W.setCell ⟨g, 0, none⟩ x0).setCell ⟨g, 1, none⟩ x1).setCell ⟨g, 2, none⟩ x2).setCell ⟨g, 3, none⟩ x3).setCell ⟨g, 4, none⟩ x4) :=
  ((((h.setNew hg _).setNew hg _).setNew hg _).setNew hg _).setNew hg _

theorem box_keptN {wr w2 : World} {cs : Array Value} (fr : Fr No (wr.alloc (.cells cs 27)).drew w2) : Blk w2 wr.heap.size 27 cs :=
  Blk.fr (a := (wr.alloc (.cells cs 27)).drew) ((Blk.new' wr 27 cs rfl).drew) fr fun h => h

theorem Blk.cells2 {w : World} {g : Nat} {t : TypeId} {a b : Value} (h : Blk w g t #[a, b]) : w.cell? ⟨g, 0, none⟩ = some a ∧ w.cell? ⟨g, 1, none⟩ = some b := ⟨h.cell 0, h.cell 1⟩

set_option maxRecDepth 100000 in
set_option maxHeartbeats 8000000 in
theorem none_any (a b : T) (w : World) (ha : a.In w 0 w.heap.size) (hb : b.In w 0 w.heap.size) : Calls Try.prog 7 #[a.val, b.val] w fun e w' => e = .returned (.bool true) ∧ Fr No w w' := by
  have hL := lives_any
  have hP := fun p w' h => Put_no p a.val b.val (by cases a; exact ⟨_, _, _, _, _, _, _, rfl⟩) (by cases b; exact ⟨_, _, _, _, _, _, _, rfl⟩) w' h
  have hG := fun p w' h => Get_no p a.val (by cases a; exact ⟨_, _, _, _, _, _, _, rfl⟩) w' h
  have hD := fun p w' h => Drop_no p a.val (by cases a; exact ⟨_, _, _, _, _, _, _, rfl⟩) w' h
  have hC := Copy_no
  have hLen := Len_no
  have hAll := All_val
  have hS := same_zero
  have hfn := func_eql_nil
  clear ha hb
  cases a with
  | mk k n s A cap l r =>
  cases b with
  | mk k' n' s' A' cap' l' r' =>
    rw [T.val_mk] at hP hG hD
    rw [T.val_mk] at hP
    rw [T.val_mk, T.val_mk]
    generalize l.length = ll at *
    generalize l'.length = ll' at *
    refine (callsIn_wide (n := 5)).1 ?_
    refine callsIn_of_wp_marks Try.func7 rfl trivial ?_
    simp only [Try.ntmps7, List.size_toArray, List.length_cons, List.length_nil, Nat.reduceAdd, Nat.reduceSub, Array.replicate_succ, Array.replicate_zero, List.push_toArray, List.append_toArray, List.nil_append, List.cons_append]
    refine wpIn_wide.2 ?_
    go_wp2_with fail
    have hb0 := ((((Blk.new' w 27 #[.int .u8 k, .int .i64 n, .string s, .slice A ll cap, .int .i64 r] rfl).alloc (.cells #[.int .u8 k', .int .i64 n', .string s', .slice A' ll' cap', .int .i64 r'] 27)).alloc (.cells #[.bool false] 4)))
    have hb1 := ((Blk.new' (w.alloc (.cells #[.int .u8 k, .int .i64 n, .string s, .slice A ll cap, .int .i64 r] 27)) 27 #[.int .u8 k', .int .i64 n', .string s', .slice A' ll' cap', .int .i64 r'] (g := w.heap.size + 1) (by simp)).alloc (.cells #[.bool false] 4))
    have hb2 := (Blk.new' ((w.alloc (.cells #[.int .u8 k, .int .i64 n, .string s, .slice A ll cap, .int .i64 r] 27)).alloc (.cells #[.int .u8 k', .int .i64 n', .string s', .slice A' ll' cap', .int .i64 r'] 27)) 4 #[.bool false] (g := w.heap.size + 1 + 1) (by simp))
    have hf0 := (((Fr.refl No w).alloc (.cells #[.int .u8 k, .int .i64 n, .string s, .slice A ll cap, .int .i64 r] 27)).alloc (.cells #[.int .u8 k', .int .i64 n', .string s', .slice A' ll' cap', .int .i64 r'] 27)).alloc (.cells #[.bool false] 4)
    generalize World.alloc _ (.cells #[.bool false] 4) = W0 at *
    refine (hL _).mono ?_
    rintro e w1 ⟨rfl, fr1⟩
    have hns : NS w #[.int .u8 k, .int .i64 n, .string s, .slice A ll cap, .int .i64 r] #[.int .u8 k', .int .i64 n', .string s', .slice A' ll' cap', .int .i64 r'] w1.heap.size (w1.heap.size + 1)
        ((w1.alloc (.cells #[.map none, .map none, .int .i64 0] 66)).alloc (.cells #[.pointer none, .pointer (some ⟨w1.heap.size, 0, none⟩)] 51)) :=
      ⟨((hf0.trans fr1).alloc _).alloc _, ((hb0.fr fr1 fun h => h).alloc _).alloc _, ((hb1.fr fr1 fun h => h).alloc _).alloc _, ((hb2.fr fr1 fun h => h).alloc _).alloc _, (Blk.new' w1 66 _ rfl).alloc _, Blk.new' (w1.alloc _) 51 _ (by simp)⟩
    have HNS := hide hns
    clear hb0 hb1 hb2 hf0 fr1 hns
    go_wp2_with fail

    generalize World.alloc (World.alloc w1 _) _ = w2 at *
    refine wp_loop_rounds 3 ?_
    rw [rounds_succ]
    obtain ⟨k0, k1, k2, k3, k4, -⟩ := HNS.out.bk.cells5
    obtain ⟨v0, v1, v2, v3, v4, -⟩ := HNS.out.bv.cells5
    obtain ⟨a0, a1⟩ := HNS.out.ba.cells2
    have q0 := HNS.out.bk.lt
    have q1 := HNS.out.bv.lt
    have q2 := HNS.out.ba.lt
    go_upto_region 8 with (fail)
    go_cut [8, 9, 10] from 23 to 109 (fun s8 s9 s10 wx => ZeroCut w2 s8 s9 s10 wx)
    case first =>
      go_region_held3 (fun w' => (∀ c i, c < w2.heap.size → w'.cell? ⟨c, i, none⟩ = w2.cell? ⟨c, i, none⟩) ∧ Fr No w2 w')
          (first
            | with_reducible exact fr_both (Fr.drew (Fr.refl No w2))
            | with_reducible exact fr_both HW2.out
            | with_reducible exact fr_both (Fr.trans (‹_ ∧ Fr No w2 _›).2 ‹Fr No _ _›)
            | with_reducible exact fr_both (Fr.drew (Fr.alloc (Fr.refl No w2) _))
            | with_reducible exact fr_both (Fr.alloc HW2.out _)
            | with_reducible exact fr_both (five_new HW2.out (Nat.le_refl _) _ _ _ _ _))
          (first
            | (go_at_call 26; have hs0 := (‹_ ∧ Fr No w2 _›).2; ((with_reducible refine (hP _ _ ((HNS.out.p0).fr hs0)).mono ?_); rintro e wa ⟨rfl, frA⟩; have HW2 := hide (hs0.trans frA); unfold tripZ; (try (have hbx := box_keptN frA; have HBX := hide hbx; obtain ⟨x0, x1, x2, x3, x4, xf⟩ := hbx.cells5; have q9 := hbx.lt; clear hbx)))))
      all_goals
        go_simp
        go_wp2_with fail
        go_meet
        first
          | with_reducible exact zerocut_after HW2.out
          | with_reducible exact zerocut_before HBX.out HW2.out (Nat.le_refl _)
    obtain ⟨g8, rfl, rfl, rfl, g8b, w3f⟩ := hcut
    obtain ⟨w3, rfl⟩ : ∃ w3 : World, w3 = wc := ⟨_, rfl⟩
    clear k0 k1 k2 k3 k4 v0 v1 v2 v3 v4 a0 a1 q0 q1 q2
    replace HNS := hide (HNS.out.no w3f)
    obtain ⟨k0, k1, k2, k3, k4, -⟩ := HNS.out.bk.cells5
    obtain ⟨v0, v1, v2, v3, v4, -⟩ := HNS.out.bv.cells5
    obtain ⟨a0, a1⟩ := HNS.out.ba.cells2
    have q0 := HNS.out.bk.lt
    have q1 := HNS.out.bv.lt
    have q2 := HNS.out.ba.lt
    have Bg8 := hide g8b
    clear w3f g8b
    go_upto_region 9 with (fail)
    go_cut [11, 12, 13] from 23 to 109 (fun s8 s9 s10 wx => ZeroCut w3 s8 s9 s10 wx)
    case first =>
      go_region_held3 (fun w' => (∀ c i, c < w3.heap.size → w'.cell? ⟨c, i, none⟩ = w3.cell? ⟨c, i, none⟩) ∧ Fr No w3 w')
          (first
            | with_reducible exact fr_both (Fr.drew (Fr.refl No w3))
            | with_reducible exact fr_both HW2.out
            | with_reducible exact fr_both (Fr.trans (‹_ ∧ Fr No w3 _›).2 ‹Fr No _ _›)
            | with_reducible exact fr_both (Fr.drew (Fr.alloc (Fr.refl No w3) _))
            | with_reducible exact fr_both (Fr.alloc HW2.out _)
            | with_reducible exact fr_both (five_new HW2.out (Nat.le_refl _) _ _ _ _ _))
          (first
            | (go_at_call 30; have hs0 := (‹_ ∧ Fr No w3 _›).2; ((with_reducible refine (hG _ _ ((HNS.out.p0).fr hs0)).mono ?_); rintro e wa ⟨rfl, frA⟩; have HW2 := hide (hs0.trans frA); unfold tripZ; (try (have hbx := box_keptN frA; have HBX := hide hbx; obtain ⟨x0, x1, x2, x3, x4, xf⟩ := hbx.cells5; have q9 := hbx.lt; clear hbx)))))
      all_goals
        go_simp
        go_wp2_with fail
        go_meet
        first
          | with_reducible exact zerocut_after HW2.out
          | with_reducible exact zerocut_before HBX.out HW2.out (Nat.le_refl _)
    obtain ⟨g11, rfl, rfl, rfl, g11b, w4f⟩ := hcut
    obtain ⟨w4, rfl⟩ : ∃ w4 : World, w4 = wc := ⟨_, rfl⟩
    clear k0 k1 k2 k3 k4 v0 v1 v2 v3 v4 a0 a1 q0 q1 q2
    replace HNS := hide (HNS.out.no w4f)
    replace Bg8 := hide (Bg8.out.fr w4f fun h => h)
    obtain ⟨k0, k1, k2, k3, k4, -⟩ := HNS.out.bk.cells5
    obtain ⟨v0, v1, v2, v3, v4, -⟩ := HNS.out.bv.cells5
    obtain ⟨a0, a1⟩ := HNS.out.ba.cells2
    have q0 := HNS.out.bk.lt
    have q1 := HNS.out.bv.lt
    have q2 := HNS.out.ba.lt
    have Bg11 := hide g11b
    clear w4f g11b
    go_wp2_with fail
    go_region_held3 (fun w' => (∀ c i, c < w4.heap.size → w'.cell? ⟨c, i, none⟩ = w4.cell? ⟨c, i, none⟩) ∧ Fr No w4 w')
          (first | with_reducible exact fr_both (Fr.drew (Fr.refl No w4)) | with_reducible exact fr_both (Fr.trans (‹_ ∧ Fr No w4 _›).2 ‹Fr No _ _›))
          (first
            | (go_at_call 35; have hs0 := (‹_ ∧ Fr No w4 _›).2; ((with_reducible refine (hD _ _ ((HNS.out.p0).fr hs0)).mono ?_); rintro e w5 ⟨rfl, frA⟩)))
    have hfr := (‹_ ∧ Fr No w4 w5›).2
    (try rename (∀ c i, _) ∧ Fr No w4 w5 => hold; clear hold)
    clear k0 k1 k2 k3 k4 v0 v1 v2 v3 v4 a0 a1 q0 q1 q2
    replace HNS := hide (HNS.out.no hfr)
    replace Bg8 := hide (Bg8.out.fr hfr fun h => h)
    replace Bg11 := hide (Bg11.out.fr hfr fun h => h)
    obtain ⟨k0, k1, k2, k3, k4, -⟩ := HNS.out.bk.cells5
    obtain ⟨v0, v1, v2, v3, v4, -⟩ := HNS.out.bv.cells5
    obtain ⟨a0, a1⟩ := HNS.out.ba.cells2
    have q0 := HNS.out.bk.lt
    have q1 := HNS.out.bv.lt
    have q2 := HNS.out.ba.lt
    clear hfr frA
    go_wp2_with fail
    refine (hAll _ _).mono ?_
    rintro e w6 ⟨rfl, bAll, frA⟩
    clear k0 k1 k2 k3 k4 v0 v1 v2 v3 v4 a0 a1 q0 q1 q2
    replace HNS := hide (HNS.out.no frA)
    replace Bg8 := hide (Bg8.out.fr frA fun h => h)
    replace Bg11 := hide (Bg11.out.fr frA fun h => h)
    obtain ⟨k0, k1, k2, k3, k4, -⟩ := HNS.out.bk.cells5
    obtain ⟨v0, v1, v2, v3, v4, -⟩ := HNS.out.bv.cells5
    obtain ⟨a0, a1⟩ := HNS.out.ba.cells2
    have q0 := HNS.out.bk.lt
    have q1 := HNS.out.bv.lt
    have q2 := HNS.out.ba.lt
    have bA0 := hide bAll
    clear bAll frA
    obtain ⟨z0, z1, z2, z3, z4, -⟩ := Bg8.out.cells5
    have zq := Bg8.out.lt
    go_wp2_with fail
    refine (hS _).mono ?_
    rintro e w7 ⟨rfl, frA⟩
    clear z0 z1 z2 z3 z4 zq
    clear k0 k1 k2 k3 k4 v0 v1 v2 v3 v4 a0 a1 q0 q1 q2
    replace HNS := hide (HNS.out.no frA)
    replace Bg8 := hide (Bg8.out.fr frA fun h => h)
    replace Bg11 := hide (Bg11.out.fr frA fun h => h)
    replace bA0 := hide (bA0.out.fr frA fun h => h)
    obtain ⟨k0, k1, k2, k3, k4, -⟩ := HNS.out.bk.cells5
    obtain ⟨v0, v1, v2, v3, v4, -⟩ := HNS.out.bv.cells5
    obtain ⟨a0, a1⟩ := HNS.out.ba.cells2
    have q0 := HNS.out.bk.lt
    have q1 := HNS.out.bv.lt
    have q2 := HNS.out.ba.lt
    clear frA
    obtain ⟨z0, z1, z2, z3, z4, -⟩ := Bg11.out.cells5
    have zq := Bg11.out.lt
    go_wp2_with fail
    refine (hS _).mono ?_
    rintro e w8 ⟨rfl, frA⟩
    clear z0 z1 z2 z3 z4 zq
    clear k0 k1 k2 k3 k4 v0 v1 v2 v3 v4 a0 a1 q0 q1 q2
    replace HNS := hide (HNS.out.no frA)
    replace Bg8 := hide (Bg8.out.fr frA fun h => h)
    replace Bg11 := hide (Bg11.out.fr frA fun h => h)
    replace bA0 := hide (bA0.out.fr frA fun h => h)
    obtain ⟨k0, k1, k2, k3, k4, -⟩ := HNS.out.bk.cells5
    obtain ⟨v0, v1, v2, v3, v4, -⟩ := HNS.out.bv.cells5
    obtain ⟨a0, a1⟩ := HNS.out.ba.cells2
    have q0 := HNS.out.bk.lt
    have q1 := HNS.out.bv.lt
    have q2 := HNS.out.ba.lt
    clear frA
    go_wp2_with fail
    refine (hLen _ _ HNS.out.p0).mono ?_
    rintro e wE ⟨rfl, rfl⟩
    go_wp2_with fail
    refine (hC _ _ HNS.out.p0).mono ?_
    rintro e wE ⟨rfl, rfl⟩
    go_wp2_with fail
    refine wp_rangeFunc_none rfl (enters_fn Try.func100 (by kernel_rfl) rfl) ?_ ?_
    · intro l W1 hb
      have fb := Fr.ofBelow hb
      exact All1_no _ ⟨l, rfl⟩ _ _ W1 ((HNS.out.p0).fr fb) (bA0.out.fr fb fun h => h)
    intro D0 w9 hb hd hge
    have frD := Fr.ofBelow hb

    have HGE0 := hide (Nat.le_trans HNS.out.fr.size hge)
    clear hge
    clear k0 k1 k2 k3 k4 v0 v1 v2 v3 v4 a0 a1 q0 q1 q2
    replace HNS := hide (HNS.out.no frD)
    replace Bg8 := hide (Bg8.out.fr frD fun h => h)
    replace Bg11 := hide (Bg11.out.fr frD fun h => h)
    replace bA0 := hide (bA0.out.fr frD fun h => h)
    obtain ⟨k0, k1, k2, k3, k4, -⟩ := HNS.out.bk.cells5
    obtain ⟨v0, v1, v2, v3, v4, -⟩ := HNS.out.bv.cells5
    obtain ⟨a0, a1⟩ := HNS.out.ba.cells2
    have q0 := HNS.out.bk.lt
    have q1 := HNS.out.bv.lt
    have q2 := HNS.out.ba.lt
    have HD0 := hide hd
    clear hb frD hd
    go_wp2_with fail
    rw [rounds_succ]
    go_upto_region 8 with (fail)
    go_cut [8, 9, 10] from 23 to 109 (fun s8 s9 s10 wx => ZeroCut w9 s8 s9 s10 wx)
    case first =>
      go_region_held3 (fun w' => (∀ c i, c < w9.heap.size → w'.cell? ⟨c, i, none⟩ = w9.cell? ⟨c, i, none⟩) ∧ Fr No w9 w')
          (first
            | with_reducible exact fr_both (Fr.drew (Fr.refl No w9))
            | with_reducible exact fr_both HW2.out
            | with_reducible exact fr_both (Fr.trans (‹_ ∧ Fr No w9 _›).2 ‹Fr No _ _›)
            | with_reducible exact fr_both (Fr.drew (Fr.alloc (Fr.refl No w9) _))
            | with_reducible exact fr_both (Fr.alloc HW2.out _)
            | with_reducible exact fr_both (five_new HW2.out (Nat.le_refl _) _ _ _ _ _))
          (first
            | (go_at_call 26; have hs0 := (‹_ ∧ Fr No w9 _›).2; ((with_reducible refine (hP _ _ ((HNS.out.p1).fr hs0)).mono ?_); rintro e wa ⟨rfl, frA⟩; have HW2 := hide (hs0.trans frA); unfold tripZ; (try (have hbx := box_keptN frA; have HBX := hide hbx; obtain ⟨x0, x1, x2, x3, x4, xf⟩ := hbx.cells5; have q9 := hbx.lt; clear hbx)))))
      all_goals
        go_simp
        go_wp2_with fail
        go_meet
        first
          | with_reducible exact zerocut_after HW2.out
          | with_reducible exact zerocut_before HBX.out HW2.out (Nat.le_refl _)
    obtain ⟨h8, rfl, rfl, rfl, h8b, w10f⟩ := hcut
    obtain ⟨w10, rfl⟩ : ∃ w10 : World, w10 = wc := ⟨_, rfl⟩
    clear k0 k1 k2 k3 k4 v0 v1 v2 v3 v4 a0 a1 q0 q1 q2
    replace HNS := hide (HNS.out.no w10f)
    replace Bg8 := hide (Bg8.out.fr w10f fun h => h)
    replace Bg11 := hide (Bg11.out.fr w10f fun h => h)
    replace bA0 := hide (bA0.out.fr w10f fun h => h)
    replace HD0 := hide (def_kept HD0.out w10f)
    obtain ⟨k0, k1, k2, k3, k4, -⟩ := HNS.out.bk.cells5
    obtain ⟨v0, v1, v2, v3, v4, -⟩ := HNS.out.bv.cells5
    obtain ⟨a0, a1⟩ := HNS.out.ba.cells2
    have q0 := HNS.out.bk.lt
    have q1 := HNS.out.bv.lt
    have q2 := HNS.out.ba.lt
    have Bh8 := hide h8b
    clear w10f h8b
    go_upto_region 9 with (fail)
    go_cut [11, 12, 13] from 23 to 109 (fun s8 s9 s10 wx => ZeroCut w10 s8 s9 s10 wx)
    case first =>
      go_region_held3 (fun w' => (∀ c i, c < w10.heap.size → w'.cell? ⟨c, i, none⟩ = w10.cell? ⟨c, i, none⟩) ∧ Fr No w10 w')
          (first
            | with_reducible exact fr_both (Fr.drew (Fr.refl No w10))
            | with_reducible exact fr_both HW2.out
            | with_reducible exact fr_both (Fr.trans (‹_ ∧ Fr No w10 _›).2 ‹Fr No _ _›)
            | with_reducible exact fr_both (Fr.drew (Fr.alloc (Fr.refl No w10) _))
            | with_reducible exact fr_both (Fr.alloc HW2.out _)
            | with_reducible exact fr_both (five_new HW2.out (Nat.le_refl _) _ _ _ _ _))
          (first
            | (go_at_call 30; have hs0 := (‹_ ∧ Fr No w10 _›).2; ((with_reducible refine (hG _ _ ((HNS.out.p1).fr hs0)).mono ?_); rintro e wa ⟨rfl, frA⟩; have HW2 := hide (hs0.trans frA); unfold tripZ; (try (have hbx := box_keptN frA; have HBX := hide hbx; obtain ⟨x0, x1, x2, x3, x4, xf⟩ := hbx.cells5; have q9 := hbx.lt; clear hbx)))))
      all_goals
        go_simp
        go_wp2_with fail
        go_meet
        first
          | with_reducible exact zerocut_after HW2.out
          | with_reducible exact zerocut_before HBX.out HW2.out (Nat.le_refl _)
    obtain ⟨h11, rfl, rfl, rfl, h11b, w11f⟩ := hcut
    obtain ⟨w11, rfl⟩ : ∃ w11 : World, w11 = wc := ⟨_, rfl⟩
    clear k0 k1 k2 k3 k4 v0 v1 v2 v3 v4 a0 a1 q0 q1 q2
    replace HNS := hide (HNS.out.no w11f)
    replace Bg8 := hide (Bg8.out.fr w11f fun h => h)
    replace Bg11 := hide (Bg11.out.fr w11f fun h => h)
    replace bA0 := hide (bA0.out.fr w11f fun h => h)
    replace HD0 := hide (def_kept HD0.out w11f)
    replace Bh8 := hide (Bh8.out.fr w11f fun h => h)
    obtain ⟨k0, k1, k2, k3, k4, -⟩ := HNS.out.bk.cells5
    obtain ⟨v0, v1, v2, v3, v4, -⟩ := HNS.out.bv.cells5
    obtain ⟨a0, a1⟩ := HNS.out.ba.cells2
    have q0 := HNS.out.bk.lt
    have q1 := HNS.out.bv.lt
    have q2 := HNS.out.ba.lt
    have Bh11 := hide h11b
    clear w11f h11b
    go_wp2_with fail
    go_region_held3 (fun w' => (∀ c i, c < w11.heap.size → w'.cell? ⟨c, i, none⟩ = w11.cell? ⟨c, i, none⟩) ∧ Fr No w11 w')
          (first | with_reducible exact fr_both (Fr.drew (Fr.refl No w11)) | with_reducible exact fr_both (Fr.trans (‹_ ∧ Fr No w11 _›).2 ‹Fr No _ _›))
          (first
            | (go_at_call 35; have hs0 := (‹_ ∧ Fr No w11 _›).2; ((with_reducible refine (hD _ _ ((HNS.out.p1).fr hs0)).mono ?_); rintro e w12 ⟨rfl, frA⟩)))
    have hfr := (‹_ ∧ Fr No w11 w12›).2
    (try rename (∀ c i, _) ∧ Fr No w11 w12 => hold; clear hold)
    clear k0 k1 k2 k3 k4 v0 v1 v2 v3 v4 a0 a1 q0 q1 q2
    replace HNS := hide (HNS.out.no hfr)
    replace Bg8 := hide (Bg8.out.fr hfr fun h => h)
    replace Bg11 := hide (Bg11.out.fr hfr fun h => h)
    replace bA0 := hide (bA0.out.fr hfr fun h => h)
    replace HD0 := hide (def_kept HD0.out hfr)
    replace Bh8 := hide (Bh8.out.fr hfr fun h => h)
    replace Bh11 := hide (Bh11.out.fr hfr fun h => h)
    obtain ⟨k0, k1, k2, k3, k4, -⟩ := HNS.out.bk.cells5
    obtain ⟨v0, v1, v2, v3, v4, -⟩ := HNS.out.bv.cells5
    obtain ⟨a0, a1⟩ := HNS.out.ba.cells2
    have q0 := HNS.out.bk.lt
    have q1 := HNS.out.bv.lt
    have q2 := HNS.out.ba.lt
    clear hfr frA
    go_wp2_with fail
    refine (hAll _ _).mono ?_
    rintro e w13 ⟨rfl, bAll, frA⟩
    clear k0 k1 k2 k3 k4 v0 v1 v2 v3 v4 a0 a1 q0 q1 q2
    replace HNS := hide (HNS.out.no frA)
    replace Bg8 := hide (Bg8.out.fr frA fun h => h)
    replace Bg11 := hide (Bg11.out.fr frA fun h => h)
    replace bA0 := hide (bA0.out.fr frA fun h => h)
    replace HD0 := hide (def_kept HD0.out frA)
    replace Bh8 := hide (Bh8.out.fr frA fun h => h)
    replace Bh11 := hide (Bh11.out.fr frA fun h => h)
    obtain ⟨k0, k1, k2, k3, k4, -⟩ := HNS.out.bk.cells5
    obtain ⟨v0, v1, v2, v3, v4, -⟩ := HNS.out.bv.cells5
    obtain ⟨a0, a1⟩ := HNS.out.ba.cells2
    have q0 := HNS.out.bk.lt
    have q1 := HNS.out.bv.lt
    have q2 := HNS.out.ba.lt
    have bA1 := hide bAll
    clear bAll frA
    obtain ⟨z0, z1, z2, z3, z4, -⟩ := Bh8.out.cells5
    have zq := Bh8.out.lt
    go_wp2_with fail
    refine (hS _).mono ?_
    rintro e w14 ⟨rfl, frA⟩
    clear z0 z1 z2 z3 z4 zq
    clear k0 k1 k2 k3 k4 v0 v1 v2 v3 v4 a0 a1 q0 q1 q2
    replace HNS := hide (HNS.out.no frA)
    replace Bg8 := hide (Bg8.out.fr frA fun h => h)
    replace Bg11 := hide (Bg11.out.fr frA fun h => h)
    replace bA0 := hide (bA0.out.fr frA fun h => h)
    replace HD0 := hide (def_kept HD0.out frA)
    replace Bh8 := hide (Bh8.out.fr frA fun h => h)
    replace Bh11 := hide (Bh11.out.fr frA fun h => h)
    replace bA1 := hide (bA1.out.fr frA fun h => h)
    obtain ⟨k0, k1, k2, k3, k4, -⟩ := HNS.out.bk.cells5
    obtain ⟨v0, v1, v2, v3, v4, -⟩ := HNS.out.bv.cells5
    obtain ⟨a0, a1⟩ := HNS.out.ba.cells2
    have q0 := HNS.out.bk.lt
    have q1 := HNS.out.bv.lt
    have q2 := HNS.out.ba.lt
    clear frA
    obtain ⟨z0, z1, z2, z3, z4, -⟩ := Bh11.out.cells5
    have zq := Bh11.out.lt
    go_wp2_with fail
    refine (hS _).mono ?_
    rintro e w15 ⟨rfl, frA⟩
    clear z0 z1 z2 z3 z4 zq
    clear k0 k1 k2 k3 k4 v0 v1 v2 v3 v4 a0 a1 q0 q1 q2
    replace HNS := hide (HNS.out.no frA)
    replace Bg8 := hide (Bg8.out.fr frA fun h => h)
    replace Bg11 := hide (Bg11.out.fr frA fun h => h)
    replace bA0 := hide (bA0.out.fr frA fun h => h)
    replace HD0 := hide (def_kept HD0.out frA)
    replace Bh8 := hide (Bh8.out.fr frA fun h => h)
    replace Bh11 := hide (Bh11.out.fr frA fun h => h)
    replace bA1 := hide (bA1.out.fr frA fun h => h)
    obtain ⟨k0, k1, k2, k3, k4, -⟩ := HNS.out.bk.cells5
    obtain ⟨v0, v1, v2, v3, v4, -⟩ := HNS.out.bv.cells5
    obtain ⟨a0, a1⟩ := HNS.out.ba.cells2
    have q0 := HNS.out.bk.lt
    have q1 := HNS.out.bv.lt
    have q2 := HNS.out.ba.lt
    clear frA
    go_wp2_with fail
    refine (hLen _ _ HNS.out.p1).mono ?_
    rintro e wE ⟨rfl, rfl⟩
    go_wp2_with fail
    refine (hC _ _ HNS.out.p1).mono ?_
    rintro e wE ⟨rfl, rfl⟩
    go_wp2_with fail
    refine wp_rangeFunc_none rfl (enters_fn Try.func100 (by kernel_rfl) rfl) ?_ ?_
    · intro l W1 hb
      have fb := Fr.ofBelow hb
      exact All1_no _ ⟨l, rfl⟩ _ _ W1 ((HNS.out.p1).fr fb) (bA1.out.fr fb fun h => h)
    intro D1 w16 hb hd hge
    have frD := Fr.ofBelow hb
    have HNE := hide (show D0 ≠ D1 from by have := lt_of_heap HD0.out; omega)
    have HGE1 := hide (Nat.le_trans HNS.out.fr.size hge)
    clear hge
    clear k0 k1 k2 k3 k4 v0 v1 v2 v3 v4 a0 a1 q0 q1 q2
    replace HNS := hide (HNS.out.no frD)
    replace Bg8 := hide (Bg8.out.fr frD fun h => h)
    replace Bg11 := hide (Bg11.out.fr frD fun h => h)
    replace bA0 := hide (bA0.out.fr frD fun h => h)
    replace HD0 := hide (def_kept HD0.out frD)
    replace Bh8 := hide (Bh8.out.fr frD fun h => h)
    replace Bh11 := hide (Bh11.out.fr frD fun h => h)
    replace bA1 := hide (bA1.out.fr frD fun h => h)
    obtain ⟨k0, k1, k2, k3, k4, -⟩ := HNS.out.bk.cells5
    obtain ⟨v0, v1, v2, v3, v4, -⟩ := HNS.out.bv.cells5
    obtain ⟨a0, a1⟩ := HNS.out.ba.cells2
    have q0 := HNS.out.bk.lt
    have q1 := HNS.out.bv.lt
    have q2 := HNS.out.ba.lt
    have HD1 := hide hd
    clear hb frD hd
    go_wp2_with fail
    rw [rounds_succ]
    go_wp2_with fail
    refine (hL _).mono ?_
    rintro e wY ⟨rfl, frA⟩
    clear k0 k1 k2 k3 k4 v0 v1 v2 v3 v4 a0 a1 q0 q1 q2
    replace HNS := hide (HNS.out.no frA)
    replace Bg8 := hide (Bg8.out.fr frA fun h => h)
    replace Bg11 := hide (Bg11.out.fr frA fun h => h)
    replace bA0 := hide (bA0.out.fr frA fun h => h)
    replace HD0 := hide (def_kept HD0.out frA)
    replace Bh8 := hide (Bh8.out.fr frA fun h => h)
    replace Bh11 := hide (Bh11.out.fr frA fun h => h)
    replace bA1 := hide (bA1.out.fr frA fun h => h)
    replace HD1 := hide (def_kept HD1.out frA)
    obtain ⟨k0, k1, k2, k3, k4, -⟩ := HNS.out.bk.cells5
    obtain ⟨v0, v1, v2, v3, v4, -⟩ := HNS.out.bv.cells5
    obtain ⟨a0, a1⟩ := HNS.out.ba.cells2
    have q0 := HNS.out.bk.lt
    have q1 := HNS.out.bv.lt
    have q2 := HNS.out.ba.lt
    have hbr := HNS.out.br
    have r0 := hbr.cell 0
    have r1 := hbr.frozen 0
    simp only [List.getElem?_toArray, List.getElem?_cons_zero] at r0
    have hRne : ∀ (D : Nat) (o : Obj), wY.heap[D]? = some o → o.isCells = false → D ≠ w.heap.size + 1 + 1 := by
      rintro D o h1 h2 rfl
      unfold Blk at hbr
      rw [hbr] at h1
      injection h1 with h1
      subst h1
      cases h2
    have HR0 := hide (hRne _ _ HD0.out rfl)
    have HR1 := hide (hRne _ _ HD1.out rfl)
    have HBR := hide hbr
    clear hbr frA hRne
    go_wp2_with fail
    have frF := HNS.out.fr
    have hbF := HBR.out.set_ 0 (.bool true)
    have e1 : (wY.setCell ⟨w.heap.size + 1 + 1, 0, none⟩ (.bool true)).heap[D1]? = some (.deferred (some [])) := (Below.heap_setCell _ _ _ _ HR1.out).trans HD1.out
    have e0 : (wY.setCell ⟨w.heap.size + 1 + 1, 0, none⟩ (.bool true)).heap[D0]? = some (.deferred (some [])) := (Below.heap_setCell _ _ _ _ HR0.out).trans HD0.out
    have frG : Fr No w (wY.setCell ⟨w.heap.size + 1 + 1, 0, none⟩ (.bool true)) := frF.setNew (by simp; omega) _
    generalize World.setCell wY _ _ = wZ at *
    have e0' : (wZ.putObj D1 (.deferred none)).heap[D0]? = some (.deferred (some [])) := (World.putObj_heap_other HNE.out).trans e0
    have hbG : Blk ((wZ.putObj D1 (.deferred none)).putObj D0 (.deferred none)) (w.heap.size + 1 + 1) 4 #[.bool true] := by
      unfold Blk at hbF ⊢
      rw [World.putObj_heap_other (Ne.symm HR0.out), World.putObj_heap_other (Ne.symm HR1.out)]
      simpa using hbF
    refine ⟨by simp, .inl ⟨_, _, rfl, run_takeDeferred e1, ⟨by simp, .inl ⟨_, _, rfl, run_takeDeferred e0', ?_⟩⟩⟩⟩
    have r2 := hbG.cell 0
    simp only [List.getElem?_toArray, List.getElem?_cons_zero] at r2
    refine ⟨.bool true, by simp [results, Try.results7, go_sem, r2], rfl, ?_⟩
    have n1 := HGE1.out
    have n0 := HGE0.out
    exact (frG.putObj (fun h => by omega) _).putObj (fun h => by omega) _

end Go.Proofs.Ytihjmipmjogpoaa

/- Texts joined: Sa4. -/
import Derived.Test.YtlejelbefmkakaaGreatJn1
import Derived.Test.YtlejelbefmkakaaGreatJn26
import Derived.Test.YtlejelbefmkakaaGreatJn39
namespace Go.Proofs.YtlejelbefmkakaaGreat
open Go.RowKit
theorem list7_any (A : Option Addr) (n c : Nat) (w : World) : Calls Tryz.prog 205 #[.slice A n c] w fun e w' => e = .returned (.agg #[.int .u8 3, .int .i64 0, .string ⟨#[]⟩, .slice A n c, .int .i64 0]) ∧ Fr No w w' := by
 go_enter Tryz.func205, Tryz.ntmps205
 go_wp2
 refine bodyPost_ret (v := .agg #[.int .u8 3, .int .i64 0, .string ⟨#[]⟩, .slice A n c, .int .i64 0]) (by simp [results, Tryz.results205, go_sem, *]) rfl ?_
 exact ⟨rfl, (Fr.refl No w).alloc _⟩
theorem nm_at {w : World} {lo hi : Nat} {A : Option Addr} {cap : Nat} {l : List Nm} (h : NmRow w lo hi A cap l) {j : Nat} (hj : j < l.length) : ∃ b o, A = some ⟨b, o, none⟩ ∧ lo ≤ b ∧ b < hi ∧ l[j].2.In w lo hi ∧ ∀ i u, (nmCells l[j])[i]? = some u → w.cell? ⟨b, o + j * 6 + i, none⟩ = some u := by
 obtain ⟨b, o, rfl, h0, h1, hc⟩ := h.at_ (by rintro rfl; simp at hj)
 exact ⟨b, o, rfl, h0, h1, (h.inn _ (List.getElem_mem hj)).2, hc j _ (List.getElem?_eq_getElem hj)⟩
set_option maxRecDepth 100000 in
set_option maxHeartbeats 16000000 in
theorem SameWhat_eq (x y : Tg) (w : World) (lo hi lo' hi' : Nat) (hx : x.In w lo hi) (hh : hi ≤ w.heap.size) (hy : y.In w lo' hi') (hh' : hi' ≤ w.heap.size) (hpl : x.pl = y.pl) : Calls Tryz.prog 153 #[x.val, y.val] w fun e w' => e = .returned (.bool true) ∧ Fr No w w' := by
 obtain ⟨kind, home, ⟨k, n, s, A, cap, l, r⟩, VA, vc, vs, n1, lost, ofr, byr, set, full, CA, cc, code, NA, nc, names⟩ := x
 obtain ⟨ykind, yhome, ⟨yk, yn, ys, yA, ycap, yl, yr⟩, yVA, yvc, yvs, yn1, ylost, yofr, ybyr, yset, yfull, yCA, ycc, ycode, yNA, ync, ynames⟩ := y
 simp only [Tg.pl, TgV.mk.injEq] at hpl
 obtain ⟨rfl, rfl, hv, hvs, rfl, rfl, rfl, rfl, rfl, rfl, hcode, hnames⟩ := hpl
 have hnl : names.length = ynames.length := by simpa using congrArg List.length hnames
 have hnl' : ((names.length : Int) != (ynames.length : Int)) = false := by simp; omega
 have fr2 := ((Fr.refl No w).alloc (.cells #[.int .u8 kind, .int .i64 home, .int .u8 k, .int .i64 n, .string s, .slice A l.length cap, .int .i64 r, .slice VA vs.length vc, .int .i64 n1, .int .i64 lost, .int .i64 ofr, .int .i64 byr, .int .u8 set, .bool full, .slice CA code.length cc, .slice NA names.length nc] 138)).alloc (.cells #[.int .u8 kind, .int .i64 home, .int .u8 yk, .int .i64 yn, .string ys, .slice yA yl.length ycap, .int .i64 yr, .slice yVA yvs.length yvc, .int .i64 n1, .int .i64 lost, .int .i64 ofr, .int .i64 byr, .int .u8 set, .bool full, .slice yCA ycode.length ycc, .slice yNA ynames.length ync] 138)
 have hb0 := (Blk.new w 138 #[.int .u8 kind, .int .i64 home, .int .u8 k, .int .i64 n, .string s, .slice A l.length cap, .int .i64 r, .slice VA vs.length vc, .int .i64 n1, .int .i64 lost, .int .i64 ofr, .int .i64 byr, .int .u8 set, .bool full, .slice CA code.length cc, .slice NA names.length nc]).alloc (.cells #[.int .u8 kind, .int .i64 home, .int .u8 yk, .int .i64 yn, .string ys, .slice yA yl.length ycap, .int .i64 yr, .slice yVA yvs.length yvc, .int .i64 n1, .int .i64 lost, .int .i64 ofr, .int .i64 byr, .int .u8 set, .bool full, .slice yCA ycode.length ycc, .slice yNA ynames.length ync] 138)
 have hb1 := Blk.new' (w.alloc (.cells #[.int .u8 kind, .int .i64 home, .int .u8 k, .int .i64 n, .string s, .slice A l.length cap, .int .i64 r, .slice VA vs.length vc, .int .i64 n1, .int .i64 lost, .int .i64 ofr, .int .i64 byr, .int .u8 set, .bool full, .slice CA code.length cc, .slice NA names.length nc] 138)) 138 #[.int .u8 kind, .int .i64 home, .int .u8 yk, .int .i64 yn, .string ys, .slice yA yl.length ycap, .int .i64 yr, .slice yVA yvs.length yvc, .int .i64 n1, .int .i64 lost, .int .i64 ofr, .int .i64 byr, .int .u8 set, .bool full, .slice yCA ycode.length ycc, .slice yNA ynames.length ync] (g := w.heap.size + 1) (by simp)
 have HS1 := hide fun w' (f : Fr No w w') => same4_any (T.mk k n s A cap l r) (T.mk yk yn ys yA ycap yl yr) w' lo hi lo' hi' (hx.v.no f hh) (Nat.le_trans hh f.size) (hy.v.no f hh') (Nat.le_trans hh' f.size)
 have HS2 := hide fun w' (f : Fr No w w') => same4_any (T.row VA vc vs) (T.row yVA yvc yvs) w' lo hi lo' hi' (hx.vs.no f hh) (Nat.le_trans hh f.size) (hy.vs.no f hh') (Nat.le_trans hh' f.size)
 have HL := hide list7_any
 have HC := hide fun w' (f : Fr No w w') => SameCode_eq code ycode CA yCA cc ycc w' lo hi lo' hi' hx.code.ty hy.code.ty hcode (hx.code.inn.no f hh) (Nat.le_trans hh f.size) (hy.code.inn.no f hh') (Nat.le_trans hh' f.size) hx.code.len1
 have HV := hide hv
 have hvr : (T.row VA vc vs).v = (T.row yVA yvc yvs).v := by rw [T.row_v, T.row_v, hvs]
 have HVR := hide hvr
 have HNX := hide hx.names
 have HNY := hide hy.names
 have HNM := hide hnames
 have HNL := hide hnl
 have HH := hide hh
 have HH' := hide hh'
 have HB0 := hide hb0
 have HB1 := hide hb1
 have HF0 := hide fr2
 have hnlen := hx.names.len1
 clear hx hy hv hvs hvr hcode hnames hnl hb0 hb1 fr2 hh hh'
 show Calls Tryz.prog 153 #[.agg #[.int .u8 kind, .int .i64 home, .int .u8 k, .int .i64 n, .string s, .slice A l.length cap, .int .i64 r, .slice VA vs.length vc, .int .i64 n1, .int .i64 lost, .int .i64 ofr, .int .i64 byr, .int .u8 set, .bool full, .slice CA code.length cc, .slice NA names.length nc], .agg #[.int .u8 kind, .int .i64 home, .int .u8 yk, .int .i64 yn, .string ys, .slice yA yl.length ycap, .int .i64 yr, .slice yVA yvs.length yvc, .int .i64 n1, .int .i64 lost, .int .i64 ofr, .int .i64 byr, .int .u8 set, .bool full, .slice yCA ycode.length ycc, .slice yNA ynames.length ync]] w _
 go_enter Tryz.func153, Tryz.ntmps153
 go_wp2_with fail
 generalize World.alloc (World.alloc w _) _ = W0 at *
 obtain ⟨gX, hgX⟩ : ∃ gX, gX = w.heap.size := ⟨_, rfl⟩
 obtain ⟨gX1, hgX1⟩ : ∃ gX1, gX1 = w.heap.size + 1 := ⟨_, rfl⟩
 rw [← hgX1] at HB1 ⊢
 rw [← hgX] at HB0 ⊢
 clear hgX hgX1
 refine wp_region_held_drew (S := fun w' => Fr No W0 w') (by kernel_rfl) ?_ (fun hHeld => ?_)
 · exact (Fr.refl No W0).drew
 refine tk (i := 0) (v := ?_) (by simp only [lq1, lq3]; rfl) (by kernel_rfl) (by intro _ _ _ h; exact h) (by rfl) (by assumption) ?_ ?_; rotate_left
 · (intro wq hSw; (try dsimp only at hSw); go_simp; try (with_reducible rfl))
 try simp only [Act.put, lq4, lq5, lq6]
 refine tk (i := 1) (v := ?_) (by simp only [lq1, lq2, lq3]; rfl) (by kernel_rfl) (by intro _ _ _ h; exact h) (by rfl) (by assumption) ?_ ?_; rotate_left
 · (intro wq hSw; (try dsimp only at hSw); have hB := HB0.out.fr hSw fun h => h; have x0 : wq.cell? ⟨gX, 0, none⟩ = some (.int .u8 kind) := hB.cell 0; have xq := hB.lt; clear hB; go_simp; try (with_reducible rfl))
 try simp only [Act.put, lq4, lq5, lq6]
 refine tk (i := 2) (v := ?_) (by simp only [lq1, lq2, lq3]; rfl) (by kernel_rfl) (by intro _ _ _ h; exact h) (by rfl) (by assumption) ?_ ?_; rotate_left
 · (intro wq hSw; (try dsimp only at hSw); go_simp; try (with_reducible rfl))
 try simp only [Act.put, lq4, lq5, lq6]
 refine tk (i := 3) (v := ?_) (by simp only [lq1, lq2, lq3]; rfl) (by kernel_rfl) (by intro _ _ _ h; exact h) (by rfl) (by assumption) ?_ ?_; rotate_left
 · (intro wq hSw; (try dsimp only at hSw); have hB := HB1.out.fr hSw fun h => h; have y0 : wq.cell? ⟨gX1, 0, none⟩ = some (.int .u8 kind) := hB.cell 0; have yq := hB.lt; clear hB; go_simp; try (with_reducible rfl))
 try simp only [Act.put, lq4, lq5, lq6]
 refine tk (i := 4) (v := ?_) (by simp only [lq1, lq2, lq3]; rfl) (by kernel_rfl) (by intro _ _ _ h; exact h) (by rfl) (by assumption) ?_ ?_; rotate_left
 · (intro wq hSw; (try dsimp only at hSw); go_simp; try (with_reducible rfl))
 try simp only [Act.put, lq4, lq5, lq6]
 refine tk (i := 5) (v := ?_) (by simp only [lq1, lq2, lq3]; rfl) (by kernel_rfl) (by intro _ _ _ h; exact h) (by rfl) (by assumption) ?_ ?_; rotate_left
 · (intro wq hSw; (try dsimp only at hSw); go_simp; try (with_reducible rfl))
 try simp only [Act.put, lq4, lq5, lq6]
 refine tk (i := 6) (v := ?_) (by simp only [lq1, lq2, lq3]; rfl) (by kernel_rfl) (by intro _ _ _ h; exact h) (by rfl) (by assumption) ?_ ?_; rotate_left
 · (intro wq hSw; (try dsimp only at hSw); go_simp; try (with_reducible rfl))
 try simp only [Act.put, lq4, lq5, lq6]
 refine tk (i := 7) (v := ?_) (by simp only [lq1, lq2, lq3]; rfl) (by kernel_rfl) (by intro _ _ _ h; exact h) (by rfl) (by assumption) ?_ ?_; rotate_left
 · (intro wq hSw; (try dsimp only at hSw); have hB := HB0.out.fr hSw fun h => h; have x1 : wq.cell? ⟨gX, 1, none⟩ = some (.int .i64 home) := hB.cell 1; have xq := hB.lt; clear hB; go_simp; try (with_reducible rfl))
 try simp only [Act.put, lq4, lq5, lq6]
 refine tk (i := 8) (v := ?_) (by simp only [lq1, lq2, lq3]; rfl) (by kernel_rfl) (by intro _ _ _ h; exact h) (by rfl) (by assumption) ?_ ?_; rotate_left
 · (intro wq hSw; (try dsimp only at hSw); go_simp; try (with_reducible rfl))
 try simp only [Act.put, lq4, lq5, lq6]
 refine tk (i := 9) (v := ?_) (by simp only [lq1, lq2, lq3]; rfl) (by kernel_rfl) (by intro _ _ _ h; exact h) (by rfl) (by assumption) ?_ ?_; rotate_left
 · (intro wq hSw; (try dsimp only at hSw); have hB := HB1.out.fr hSw fun h => h; have y1 : wq.cell? ⟨gX1, 1, none⟩ = some (.int .i64 home) := hB.cell 1; have yq := hB.lt; clear hB; go_simp; try (with_reducible rfl))
 try simp only [Act.put, lq4, lq5, lq6]
 refine tk (i := 10) (v := ?_) (by simp only [lq1, lq2, lq3]; rfl) (by kernel_rfl) (by intro _ _ _ h; exact h) (by rfl) (by assumption) ?_ ?_; rotate_left
 · (intro wq hSw; (try dsimp only at hSw); go_simp; try (with_reducible rfl))
 try simp only [Act.put, lq4, lq5, lq6]
 refine tk (i := 11) (v := ?_) (by simp only [lq1, lq2, lq3]; rfl) (by kernel_rfl) (by intro _ _ _ h; exact h) (by rfl) (by assumption) ?_ ?_; rotate_left
 · (intro wq hSw; (try dsimp only at hSw); go_simp; try (with_reducible rfl))
 try simp only [Act.put, lq4, lq5, lq6]
 refine tk (i := 12) (v := ?_) (by simp only [lq1, lq2, lq3]; rfl) (by kernel_rfl) (by intro _ _ _ h; exact h) (by rfl) (by assumption) ?_ ?_; rotate_left
 · (intro wq hSw; (try dsimp only at hSw); go_simp; try (with_reducible rfl))
 try simp only [Act.put, lq4, lq5, lq6]
 refine tk (i := 13) (v := ?_) (by simp only [lq1, lq2, lq3]; rfl) (by kernel_rfl) (by intro _ _ _ h; exact h) (by rfl) (by assumption) ?_ ?_; rotate_left
 · (intro wq hSw; (try dsimp only at hSw); go_simp; try (with_reducible rfl))
 try simp only [Act.put, lq4, lq5, lq6]
 refine tk (i := 14) (v := ?_) (by simp only [lq1, lq2, lq3]; rfl) (by kernel_rfl) (by intro _ _ _ h; exact h) (by rfl) (by assumption) ?_ ?_; rotate_left
 · (intro wq hSw; (try dsimp only at hSw); have hB := HB0.out.fr hSw fun h => h; have x2 : wq.cell? ⟨gX, 2, none⟩ = some (.int .u8 k) := hB.cell 2; have x3 : wq.cell? ⟨gX, 3, none⟩ = some (.int .i64 n) := hB.cell 3; have x4 : wq.cell? ⟨gX, 4, none⟩ = some (.string s) := hB.cell 4; have x5 : wq.cell? ⟨gX, 5, none⟩ = some (.slice A l.length cap) := hB.cell 5; have x6 : wq.cell? ⟨gX, 6, none⟩ = some (.int .i64 r) := hB.cell 6; have xq := hB.lt; clear hB; go_simp; try (with_reducible rfl))
 try simp only [Act.put, lq4, lq5, lq6]
 refine tk (i := 15) (v := ?_) (by simp only [lq1, lq2, lq3]; rfl) (by kernel_rfl) (by intro _ _ _ h; exact h) (by rfl) (by assumption) ?_ ?_; rotate_left
 · (intro wq hSw; (try dsimp only at hSw); go_simp; try (with_reducible rfl))
 try simp only [Act.put, lq4, lq5, lq6]
 refine tk (i := 16) (v := ?_) (by simp only [lq1, lq2, lq3]; rfl) (by kernel_rfl) (by intro _ _ _ h; exact h) (by rfl) (by assumption) ?_ ?_; rotate_left
 · (intro wq hSw; (try dsimp only at hSw); have hB := HB1.out.fr hSw fun h => h; have y2 : wq.cell? ⟨gX1, 2, none⟩ = some (.int .u8 yk) := hB.cell 2; have y3 : wq.cell? ⟨gX1, 3, none⟩ = some (.int .i64 yn) := hB.cell 3; have y4 : wq.cell? ⟨gX1, 4, none⟩ = some (.string ys) := hB.cell 4; have y5 : wq.cell? ⟨gX1, 5, none⟩ = some (.slice yA yl.length ycap) := hB.cell 5; have y6 : wq.cell? ⟨gX1, 6, none⟩ = some (.int .i64 yr) := hB.cell 6; have yq := hB.lt; clear hB; go_simp; try (with_reducible rfl))
 try simp only [Act.put, lq4, lq5, lq6]
 refine wpAnyH_ready (rs := [17]) (by kernel_rfl) (by simp) ?_
 refine AllReadyH.cons rfl (fun K hK => ?_) AllReadyH.nil
 · go_simp
   (go_at_call 204; (refine (show Calls Tryz.prog 204 #[.agg #[.int .u8 k, .int .i64 n, .string s, .slice A l.length cap, .int .i64 r], .agg #[.int .u8 yk, .int .i64 yn, .string ys, .slice yA yl.length ycap, .int .i64 yr]] _ _ from HS1.out _ (HF0.out.trans ((Fr.refl No W0).drew))).mono ?_); (rintro e u1 ⟨q, rfl, hq, f1⟩); (obtain rfl : q = true := hq.2 HV.out); (have HG1 := hide (((Fr.refl No W0).drew).trans f1)); clear hq f1)
   try go_simp
   refine hK.out _ _ ?_ (fun hHeld2 => ?_)
   · exact HG1.out
   clear hK K hHeld
   have hHeld := hHeld2
   clear hHeld2
   try simp only [Act.put, lq4, lq5, lq6]
   refine tk (i := 18) (v := ?_) (by simp only [lq1, lq2, lq3]; rfl) (by kernel_rfl) (by intro _ _ _ h; exact h) (by rfl) (by assumption) ?_ ?_; rotate_left
   · (intro wq hSw; (try dsimp only at hSw); go_simp; try (with_reducible rfl))
   try simp only [Act.put, lq4, lq5, lq6]
   refine tk (i := 19) (v := ?_) (by simp only [lq1, lq2, lq3]; rfl) (by kernel_rfl) (by intro _ _ _ h; exact h) (by rfl) (by assumption) ?_ ?_; rotate_left
   · (intro wq hSw; (try dsimp only at hSw); go_simp; try (with_reducible rfl))
   try simp only [Act.put, lq4, lq5, lq6]
   refine tk (i := 20) (v := ?_) (by simp only [lq1, lq2, lq3]; rfl) (by kernel_rfl) (by intro _ _ _ h; exact h) (by rfl) (by assumption) ?_ ?_; rotate_left
   · (intro wq hSw; (try dsimp only at hSw); go_simp; try (with_reducible rfl))
   try simp only [Act.put, lq4, lq5, lq6]
   refine tk (i := 21) (v := ?_) (by simp only [lq1, lq2, lq3]; rfl) (by kernel_rfl) (by intro _ _ _ h; exact h) (by rfl) (by assumption) ?_ ?_; rotate_left
   · (intro wq hSw; (try dsimp only at hSw); go_simp; try (with_reducible rfl))
   try simp only [Act.put, lq4, lq5, lq6]
   refine tk (i := 22) (v := ?_) (by simp only [lq1, lq2, lq3]; rfl) (by kernel_rfl) (by intro _ _ _ h; exact h) (by rfl) (by assumption) ?_ ?_; rotate_left
   · (intro wq hSw; (try dsimp only at hSw); have hB := HB0.out.fr hSw fun h => h; have x7 : wq.cell? ⟨gX, 7, none⟩ = some (.slice VA vs.length vc) := hB.cell 7; have xq := hB.lt; clear hB; go_simp; try (with_reducible rfl))
   try simp only [Act.put, lq4, lq5, lq6]
   refine tk (i := 24) (v := ?_) (by simp only [lq1, lq2, lq3]; rfl) (by kernel_rfl) (by intro _ _ _ h; exact h) (by rfl) (by assumption) ?_ ?_; rotate_left
   · (intro wq hSw; (try dsimp only at hSw); go_simp; try (with_reducible rfl))
   try simp only [Act.put, lq4, lq5, lq6]
   refine tk (i := 25) (v := ?_) (by simp only [lq1, lq2, lq3]; rfl) (by kernel_rfl) (by intro _ _ _ h; exact h) (by rfl) (by assumption) ?_ ?_; rotate_left
   · (intro wq hSw; (try dsimp only at hSw); have hB := HB1.out.fr hSw fun h => h; have y7 : wq.cell? ⟨gX1, 7, none⟩ = some (.slice yVA yvs.length yvc) := hB.cell 7; have yq := hB.lt; clear hB; go_simp; try (with_reducible rfl))
   try simp only [Act.put, lq4, lq5, lq6]
   refine wpAnyH_ready (rs := [23]) (by kernel_rfl) (by simp) ?_
   refine AllReadyH.cons rfl (fun K hK => ?_) AllReadyH.nil
   · go_simp
     (go_at_call 205; (refine (HL.out VA vs.length vc _).mono ?_); (rintro e u2 ⟨rfl, f1⟩); (have HG2 := hide (HG1.out.trans f1)); clear f1)
     try go_simp
     refine hK.out _ _ ?_ (fun hHeld2 => ?_)
     · exact HG2.out
     clear hK K hHeld
     have hHeld := hHeld2
     clear hHeld2
     try simp only [Act.put, lq4, lq5, lq6]
     refine wpAnyH_ready (rs := [26]) (by kernel_rfl) (by simp) ?_
     refine AllReadyH.cons rfl (fun K hK => ?_) AllReadyH.nil
     · go_simp
       (go_at_call 205; (refine (HL.out yVA yvs.length yvc _).mono ?_); (rintro e u3 ⟨rfl, f1⟩); (have HG3 := hide (HG2.out.trans f1)); clear f1)
       try go_simp
       refine hK.out _ _ ?_ (fun hHeld2 => ?_)
       · exact HG3.out
       clear hK K hHeld
       have hHeld := hHeld2
       clear hHeld2
       try simp only [Act.put, lq4, lq5, lq6]
       refine wpAnyH_ready (rs := [27]) (by kernel_rfl) (by simp) ?_
       refine AllReadyH.cons rfl (fun K hK => ?_) AllReadyH.nil
       · go_simp
         (go_at_call 204; (refine (show Calls Tryz.prog 204 #[.agg #[.int .u8 3, .int .i64 0, .string ⟨#[]⟩, .slice VA vs.length vc, .int .i64 0], .agg #[.int .u8 3, .int .i64 0, .string ⟨#[]⟩, .slice yVA yvs.length yvc, .int .i64 0]] _ _ from HS2.out _ (HF0.out.trans HG3.out)).mono ?_); (rintro e u4 ⟨q, rfl, hq, f1⟩); (obtain rfl : q = true := hq.2 HVR.out); (have HG4 := hide (HG3.out.trans f1)); clear hq f1)
         try go_simp
         refine hK.out _ _ ?_ (fun hHeld2 => ?_)
         · exact HG4.out
         clear hK K hHeld
         have hHeld := hHeld2
         clear hHeld2
         try simp only [Act.put, lq4, lq5, lq6]
         refine tk (i := 28) (v := ?_) (by simp only [lq1, lq2, lq3]; rfl) (by kernel_rfl) (by intro _ _ _ h; exact h) (by rfl) (by assumption) ?_ ?_; rotate_left
         · (intro wq hSw; (try dsimp only at hSw); go_simp; try (with_reducible rfl))
         try simp only [Act.put, lq4, lq5, lq6]
         refine tk (i := 29) (v := ?_) (by simp only [lq1, lq2, lq3]; rfl) (by kernel_rfl) (by intro _ _ _ h; exact h) (by rfl) (by assumption) ?_ ?_; rotate_left
         · (intro wq hSw; (try dsimp only at hSw); go_simp; try (with_reducible rfl))
         try simp only [Act.put, lq4, lq5, lq6]
         refine tk (i := 30) (v := ?_) (by simp only [lq1, lq2, lq3]; rfl) (by kernel_rfl) (by intro _ _ _ h; exact h) (by rfl) (by assumption) ?_ ?_; rotate_left
         · (intro wq hSw; (try dsimp only at hSw); go_simp; try (with_reducible rfl))
         try simp only [Act.put, lq4, lq5, lq6]
         refine tk (i := 31) (v := ?_) (by simp only [lq1, lq2, lq3]; rfl) (by kernel_rfl) (by intro _ _ _ h; exact h) (by rfl) (by assumption) ?_ ?_; rotate_left
         · (intro wq hSw; (try dsimp only at hSw); go_simp; try (with_reducible rfl))
         try simp only [Act.put, lq4, lq5, lq6]
         refine tk (i := 32) (v := ?_) (by simp only [lq1, lq2, lq3]; rfl) (by kernel_rfl) (by intro _ _ _ h; exact h) (by rfl) (by assumption) ?_ ?_; rotate_left
         · (intro wq hSw; (try dsimp only at hSw); have hB := HB0.out.fr hSw fun h => h; have x8 : wq.cell? ⟨gX, 8, none⟩ = some (.int .i64 n1) := hB.cell 8; have xq := hB.lt; clear hB; go_simp; try (with_reducible rfl))
         try simp only [Act.put, lq4, lq5, lq6]
         refine tk (i := 33) (v := ?_) (by simp only [lq1, lq2, lq3]; rfl) (by kernel_rfl) (by intro _ _ _ h; exact h) (by rfl) (by assumption) ?_ ?_; rotate_left
         · (intro wq hSw; (try dsimp only at hSw); go_simp; try (with_reducible rfl))
         try simp only [Act.put, lq4, lq5, lq6]
         refine tk (i := 34) (v := ?_) (by simp only [lq1, lq2, lq3]; rfl) (by kernel_rfl) (by intro _ _ _ h; exact h) (by rfl) (by assumption) ?_ ?_; rotate_left
         · (intro wq hSw; (try dsimp only at hSw); have hB := HB1.out.fr hSw fun h => h; have y8 : wq.cell? ⟨gX1, 8, none⟩ = some (.int .i64 n1) := hB.cell 8; have yq := hB.lt; clear hB; go_simp; try (with_reducible rfl))
         try simp only [Act.put, lq4, lq5, lq6]
         refine tk (i := 35) (v := ?_) (by simp only [lq1, lq2, lq3]; rfl) (by kernel_rfl) (by intro _ _ _ h; exact h) (by rfl) (by assumption) ?_ ?_; rotate_left
         · (intro wq hSw; (try dsimp only at hSw); go_simp; try (with_reducible rfl))
         try simp only [Act.put, lq4, lq5, lq6]
         refine tk (i := 36) (v := ?_) (by simp only [lq1, lq2, lq3]; rfl) (by kernel_rfl) (by intro _ _ _ h; exact h) (by rfl) (by assumption) ?_ ?_; rotate_left
         · (intro wq hSw; (try dsimp only at hSw); go_simp; try (with_reducible rfl))
         try simp only [Act.put, lq4, lq5, lq6]
         refine tk (i := 37) (v := ?_) (by simp only [lq1, lq2, lq3]; rfl) (by kernel_rfl) (by intro _ _ _ h; exact h) (by rfl) (by assumption) ?_ ?_; rotate_left
         · (intro wq hSw; (try dsimp only at hSw); go_simp; try (with_reducible rfl))
         try simp only [Act.put, lq4, lq5, lq6]
         refine tk (i := 38) (v := ?_) (by simp only [lq1, lq2, lq3]; rfl) (by kernel_rfl) (by intro _ _ _ h; exact h) (by rfl) (by assumption) ?_ ?_; rotate_left
         · (intro wq hSw; (try dsimp only at hSw); go_simp; try (with_reducible rfl))
         try simp only [Act.put, lq4, lq5, lq6]
         refine tk (i := 39) (v := ?_) (by simp only [lq1, lq2, lq3]; rfl) (by kernel_rfl) (by intro _ _ _ h; exact h) (by rfl) (by assumption) ?_ ?_; rotate_left
         · (intro wq hSw; (try dsimp only at hSw); have hB := HB0.out.fr hSw fun h => h; have x9 : wq.cell? ⟨gX, 9, none⟩ = some (.int .i64 lost) := hB.cell 9; have xq := hB.lt; clear hB; go_simp; try (with_reducible rfl))
         try simp only [Act.put, lq4, lq5, lq6]
         refine tk (i := 40) (v := ?_) (by simp only [lq1, lq2, lq3]; rfl) (by kernel_rfl) (by intro _ _ _ h; exact h) (by rfl) (by assumption) ?_ ?_; rotate_left
         · (intro wq hSw; (try dsimp only at hSw); go_simp; try (with_reducible rfl))
         try simp only [Act.put, lq4, lq5, lq6]
         refine tk (i := 41) (v := ?_) (by simp only [lq1, lq2, lq3]; rfl) (by kernel_rfl) (by intro _ _ _ h; exact h) (by rfl) (by assumption) ?_ ?_; rotate_left
         · (intro wq hSw; (try dsimp only at hSw); have hB := HB1.out.fr hSw fun h => h; have y9 : wq.cell? ⟨gX1, 9, none⟩ = some (.int .i64 lost) := hB.cell 9; have yq := hB.lt; clear hB; go_simp; try (with_reducible rfl))
         try simp only [Act.put, lq4, lq5, lq6]
         refine tk (i := 42) (v := ?_) (by simp only [lq1, lq2, lq3]; rfl) (by kernel_rfl) (by intro _ _ _ h; exact h) (by rfl) (by assumption) ?_ ?_; rotate_left
         · (intro wq hSw; (try dsimp only at hSw); go_simp; try (with_reducible rfl))
         try simp only [Act.put, lq4, lq5, lq6]
         refine tk (i := 43) (v := ?_) (by simp only [lq1, lq2, lq3]; rfl) (by kernel_rfl) (by intro _ _ _ h; exact h) (by rfl) (by assumption) ?_ ?_; rotate_left
         · (intro wq hSw; (try dsimp only at hSw); go_simp; try (with_reducible rfl))
         try simp only [Act.put, lq4, lq5, lq6]
         refine tk (i := 44) (v := ?_) (by simp only [lq1, lq2, lq3]; rfl) (by kernel_rfl) (by intro _ _ _ h; exact h) (by rfl) (by assumption) ?_ ?_; rotate_left
         · (intro wq hSw; (try dsimp only at hSw); go_simp; try (with_reducible rfl))
         try simp only [Act.put, lq4, lq5, lq6]
         refine tk (i := 45) (v := ?_) (by simp only [lq1, lq2, lq3]; rfl) (by kernel_rfl) (by intro _ _ _ h; exact h) (by rfl) (by assumption) ?_ ?_; rotate_left
         · (intro wq hSw; (try dsimp only at hSw); go_simp; try (with_reducible rfl))
         try simp only [Act.put, lq4, lq5, lq6]
         refine tk (i := 46) (v := ?_) (by simp only [lq1, lq2, lq3]; rfl) (by kernel_rfl) (by intro _ _ _ h; exact h) (by rfl) (by assumption) ?_ ?_; rotate_left
         · (intro wq hSw; (try dsimp only at hSw); have hB := HB0.out.fr hSw fun h => h; have x10 : wq.cell? ⟨gX, 10, none⟩ = some (.int .i64 ofr) := hB.cell 10; have xq := hB.lt; clear hB; go_simp; try (with_reducible rfl))
         try simp only [Act.put, lq4, lq5, lq6]
         refine tk (i := 47) (v := ?_) (by simp only [lq1, lq2, lq3]; rfl) (by kernel_rfl) (by intro _ _ _ h; exact h) (by rfl) (by assumption) ?_ ?_; rotate_left
         · (intro wq hSw; (try dsimp only at hSw); go_simp; try (with_reducible rfl))
         try simp only [Act.put, lq4, lq5, lq6]
         refine tk (i := 48) (v := ?_) (by simp only [lq1, lq2, lq3]; rfl) (by kernel_rfl) (by intro _ _ _ h; exact h) (by rfl) (by assumption) ?_ ?_; rotate_left
         · (intro wq hSw; (try dsimp only at hSw); have hB := HB1.out.fr hSw fun h => h; have y10 : wq.cell? ⟨gX1, 10, none⟩ = some (.int .i64 ofr) := hB.cell 10; have yq := hB.lt; clear hB; go_simp; try (with_reducible rfl))
         try simp only [Act.put, lq4, lq5, lq6]
         refine tk (i := 49) (v := ?_) (by simp only [lq1, lq2, lq3]; rfl) (by kernel_rfl) (by intro _ _ _ h; exact h) (by rfl) (by assumption) ?_ ?_; rotate_left
         · (intro wq hSw; (try dsimp only at hSw); go_simp; try (with_reducible rfl))
         try simp only [Act.put, lq4, lq5, lq6]
         refine tk (i := 50) (v := ?_) (by simp only [lq1, lq2, lq3]; rfl) (by kernel_rfl) (by intro _ _ _ h; exact h) (by rfl) (by assumption) ?_ ?_; rotate_left
         · (intro wq hSw; (try dsimp only at hSw); go_simp; try (with_reducible rfl))
         try simp only [Act.put, lq4, lq5, lq6]
         refine tk (i := 51) (v := ?_) (by simp only [lq1, lq2, lq3]; rfl) (by kernel_rfl) (by intro _ _ _ h; exact h) (by rfl) (by assumption) ?_ ?_; rotate_left
         · (intro wq hSw; (try dsimp only at hSw); go_simp; try (with_reducible rfl))
         try simp only [Act.put, lq4, lq5, lq6]
         refine tk (i := 52) (v := ?_) (by simp only [lq1, lq2, lq3]; rfl) (by kernel_rfl) (by intro _ _ _ h; exact h) (by rfl) (by assumption) ?_ ?_; rotate_left
         · (intro wq hSw; (try dsimp only at hSw); go_simp; try (with_reducible rfl))
         try simp only [Act.put, lq4, lq5, lq6]
         refine tk (i := 53) (v := ?_) (by simp only [lq1, lq2, lq3]; rfl) (by kernel_rfl) (by intro _ _ _ h; exact h) (by rfl) (by assumption) ?_ ?_; rotate_left
         · (intro wq hSw; (try dsimp only at hSw); have hB := HB0.out.fr hSw fun h => h; have x11 : wq.cell? ⟨gX, 11, none⟩ = some (.int .i64 byr) := hB.cell 11; have xq := hB.lt; clear hB; go_simp; try (with_reducible rfl))
         try simp only [Act.put, lq4, lq5, lq6]
         refine tk (i := 54) (v := ?_) (by simp only [lq1, lq2, lq3]; rfl) (by kernel_rfl) (by intro _ _ _ h; exact h) (by rfl) (by assumption) ?_ ?_; rotate_left
         · (intro wq hSw; (try dsimp only at hSw); go_simp; try (with_reducible rfl))
         try simp only [Act.put, lq4, lq5, lq6]
         refine tk (i := 55) (v := ?_) (by simp only [lq1, lq2, lq3]; rfl) (by kernel_rfl) (by intro _ _ _ h; exact h) (by rfl) (by assumption) ?_ ?_; rotate_left
         · (intro wq hSw; (try dsimp only at hSw); have hB := HB1.out.fr hSw fun h => h; have y11 : wq.cell? ⟨gX1, 11, none⟩ = some (.int .i64 byr) := hB.cell 11; have yq := hB.lt; clear hB; go_simp; try (with_reducible rfl))
         try simp only [Act.put, lq4, lq5, lq6]
         refine tk (i := 56) (v := ?_) (by simp only [lq1, lq2, lq3]; rfl) (by kernel_rfl) (by intro _ _ _ h; exact h) (by rfl) (by assumption) ?_ ?_; rotate_left
         · (intro wq hSw; (try dsimp only at hSw); go_simp; try (with_reducible rfl))
         try simp only [Act.put, lq4, lq5, lq6]
         refine tk (i := 57) (v := ?_) (by simp only [lq1, lq2, lq3]; rfl) (by kernel_rfl) (by intro _ _ _ h; exact h) (by rfl) (by assumption) ?_ ?_; rotate_left
         · (intro wq hSw; (try dsimp only at hSw); go_simp; try (with_reducible rfl))
         try simp only [Act.put, lq4, lq5, lq6]
         refine tk (i := 58) (v := ?_) (by simp only [lq1, lq2, lq3]; rfl) (by kernel_rfl) (by intro _ _ _ h; exact h) (by rfl) (by assumption) ?_ ?_; rotate_left
         · (intro wq hSw; (try dsimp only at hSw); go_simp; try (with_reducible rfl))
         try simp only [Act.put, lq4, lq5, lq6]
         refine tk (i := 59) (v := ?_) (by simp only [lq1, lq2, lq3]; rfl) (by kernel_rfl) (by intro _ _ _ h; exact h) (by rfl) (by assumption) ?_ ?_; rotate_left
         · (intro wq hSw; (try dsimp only at hSw); go_simp; try (with_reducible rfl))
         try simp only [Act.put, lq4, lq5, lq6]
         refine tk (i := 60) (v := ?_) (by simp only [lq1, lq2, lq3]; rfl) (by kernel_rfl) (by intro _ _ _ h; exact h) (by rfl) (by assumption) ?_ ?_; rotate_left
         · (intro wq hSw; (try dsimp only at hSw); have hB := HB0.out.fr hSw fun h => h; have x12 : wq.cell? ⟨gX, 12, none⟩ = some (.int .u8 set) := hB.cell 12; have xq := hB.lt; clear hB; go_simp; try (with_reducible rfl))
         try simp only [Act.put, lq4, lq5, lq6]
         refine tk (i := 61) (v := ?_) (by simp only [lq1, lq2, lq3]; rfl) (by kernel_rfl) (by intro _ _ _ h; exact h) (by rfl) (by assumption) ?_ ?_; rotate_left
         · (intro wq hSw; (try dsimp only at hSw); go_simp; try (with_reducible rfl))
         try simp only [Act.put, lq4, lq5, lq6]
         refine tk (i := 62) (v := ?_) (by simp only [lq1, lq2, lq3]; rfl) (by kernel_rfl) (by intro _ _ _ h; exact h) (by rfl) (by assumption) ?_ ?_; rotate_left
         · (intro wq hSw; (try dsimp only at hSw); have hB := HB1.out.fr hSw fun h => h; have y12 : wq.cell? ⟨gX1, 12, none⟩ = some (.int .u8 set) := hB.cell 12; have yq := hB.lt; clear hB; go_simp; try (with_reducible rfl))
         try simp only [Act.put, lq4, lq5, lq6]
         refine tk (i := 63) (v := ?_) (by simp only [lq1, lq2, lq3]; rfl) (by kernel_rfl) (by intro _ _ _ h; exact h) (by rfl) (by assumption) ?_ ?_; rotate_left
         · (intro wq hSw; (try dsimp only at hSw); go_simp; try (with_reducible rfl))
         try simp only [Act.put, lq4, lq5, lq6]
         refine tk (i := 64) (v := ?_) (by simp only [lq1, lq2, lq3]; rfl) (by kernel_rfl) (by intro _ _ _ h; exact h) (by rfl) (by assumption) ?_ ?_; rotate_left
         · (intro wq hSw; (try dsimp only at hSw); go_simp; try (with_reducible rfl))
         try simp only [Act.put, lq4, lq5, lq6]
         refine tk (i := 65) (v := ?_) (by simp only [lq1, lq2, lq3]; rfl) (by kernel_rfl) (by intro _ _ _ h; exact h) (by rfl) (by assumption) ?_ ?_; rotate_left
         · (intro wq hSw; (try dsimp only at hSw); go_simp; try (with_reducible rfl))
         try simp only [Act.put, lq4, lq5, lq6]
         refine tk (i := 66) (v := ?_) (by simp only [lq1, lq2, lq3]; rfl) (by kernel_rfl) (by intro _ _ _ h; exact h) (by rfl) (by assumption) ?_ ?_; rotate_left
         · (intro wq hSw; (try dsimp only at hSw); go_simp; try (with_reducible rfl))
         try simp only [Act.put, lq4, lq5, lq6]
         refine tk (i := 67) (v := ?_) (by simp only [lq1, lq2, lq3]; rfl) (by kernel_rfl) (by intro _ _ _ h; exact h) (by rfl) (by assumption) ?_ ?_; rotate_left
         · (intro wq hSw; (try dsimp only at hSw); have hB := HB0.out.fr hSw fun h => h; have x13 : wq.cell? ⟨gX, 13, none⟩ = some (.bool full) := hB.cell 13; have xq := hB.lt; clear hB; go_simp; try (with_reducible rfl))
         try simp only [Act.put, lq4, lq5, lq6]
         refine tk (i := 68) (v := ?_) (by simp only [lq1, lq2, lq3]; rfl) (by kernel_rfl) (by intro _ _ _ h; exact h) (by rfl) (by assumption) ?_ ?_; rotate_left
         · (intro wq hSw; (try dsimp only at hSw); go_simp; try (with_reducible rfl))
         try simp only [Act.put, lq4, lq5, lq6]
         refine tk (i := 69) (v := ?_) (by simp only [lq1, lq2, lq3]; rfl) (by kernel_rfl) (by intro _ _ _ h; exact h) (by rfl) (by assumption) ?_ ?_; rotate_left
         · (intro wq hSw; (try dsimp only at hSw); have hB := HB1.out.fr hSw fun h => h; have y13 : wq.cell? ⟨gX1, 13, none⟩ = some (.bool full) := hB.cell 13; have yq := hB.lt; clear hB; go_simp; try (with_reducible rfl))
         try simp only [Act.put, lq4, lq5, lq6]
         refine tk (i := 70) (v := ?_) (by simp only [lq1, lq2, lq3]; rfl) (by kernel_rfl) (by intro _ _ _ h; exact h) (by rfl) (by assumption) ?_ ?_; rotate_left
         · (intro wq hSw; (try dsimp only at hSw); go_simp; try (with_reducible rfl))
         try simp only [Act.put, lq4, lq5, lq6]
         refine tk (i := 71) (v := ?_) (by simp only [lq1, lq2, lq3]; rfl) (by kernel_rfl) (by intro _ _ _ h; exact h) (by rfl) (by assumption) ?_ ?_; rotate_left
         · (intro wq hSw; (try dsimp only at hSw); go_simp; try (with_reducible rfl))
         try simp only [Act.put, lq4, lq5, lq6]
         refine tk (i := 72) (v := ?_) (by simp only [lq1, lq2, lq3]; rfl) (by kernel_rfl) (by intro _ _ _ h; exact h) (by rfl) (by assumption) ?_ ?_; rotate_left
         · (intro wq hSw; (try dsimp only at hSw); go_simp; try (with_reducible rfl))
         try simp only [Act.put, lq4, lq5, lq6]
         refine tk (i := 73) (v := ?_) (by simp only [lq1, lq2, lq3]; rfl) (by kernel_rfl) (by intro _ _ _ h; exact h) (by rfl) (by assumption) ?_ ?_; rotate_left
         · (intro wq hSw; (try dsimp only at hSw); go_simp; try (with_reducible rfl))
         try simp only [Act.put, lq4, lq5, lq6]
         refine tk (i := 74) (v := ?_) (by simp only [lq1, lq2, lq3]; rfl) (by kernel_rfl) (by intro _ _ _ h; exact h) (by rfl) (by assumption) ?_ ?_; rotate_left
         · (intro wq hSw; (try dsimp only at hSw); have hB := HB0.out.fr hSw fun h => h; have x15 : wq.cell? ⟨gX, 15, none⟩ = some (.slice NA names.length nc) := hB.cell 15; have xq := hB.lt; clear hB; go_simp; try (with_reducible rfl))
         try simp only [Act.put, lq4, lq5, lq6]
         refine tk (i := 75) (v := ?_) (by simp only [lq1, lq2, lq3]; rfl) (by kernel_rfl) (by intro _ _ _ h; exact h) (by rfl) (by assumption) ?_ ?_; rotate_left
         · (intro wq hSw; (try dsimp only at hSw); go_simp; try (with_reducible rfl))
         try simp only [Act.put, lq4, lq5, lq6]
         refine tk (i := 76) (v := ?_) (by simp only [lq1, lq2, lq3]; rfl) (by kernel_rfl) (by intro _ _ _ h; exact h) (by rfl) (by assumption) ?_ ?_; rotate_left
         · (intro wq hSw; (try dsimp only at hSw); go_simp; try (with_reducible rfl))
         try simp only [Act.put, lq4, lq5, lq6]
         refine tk (i := 77) (v := ?_) (by simp only [lq1, lq2, lq3]; rfl) (by kernel_rfl) (by intro _ _ _ h; exact h) (by rfl) (by assumption) ?_ ?_; rotate_left
         · (intro wq hSw; (try dsimp only at hSw); have hB := HB1.out.fr hSw fun h => h; have y15 : wq.cell? ⟨gX1, 15, none⟩ = some (.slice yNA ynames.length ync) := hB.cell 15; have yq := hB.lt; clear hB; go_simp; try (with_reducible rfl))
         try simp only [Act.put, lq4, lq5, lq6]
         refine tk (i := 78) (v := ?_) (by simp only [lq1, lq2, lq3]; rfl) (by kernel_rfl) (by intro _ _ _ h; exact h) (by rfl) (by assumption) ?_ ?_; rotate_left
         · (intro wq hSw; (try dsimp only at hSw); go_simp; try (with_reducible rfl))
         try simp only [Act.put, lq4, lq5, lq6]
         refine tk (i := 79) (v := ?_) (by simp only [lq1, lq2, lq3]; rfl) (by kernel_rfl) (by intro _ _ _ h; exact h) (by rfl) (by assumption) ?_ ?_; rotate_left
         · (intro wq hSw; (try dsimp only at hSw); go_simp; try (with_reducible rfl))
         try simp only [Act.put, lq4, lq5, lq6]
         refine tk (i := 80) (v := ?_) (by simp only [lq1, lq2, lq3]; rfl) (by kernel_rfl) (by intro _ _ _ h; exact h) (by rfl) (by assumption) ?_ ?_; rotate_left
         · (intro wq hSw; (try dsimp only at hSw); go_simp; try (with_reducible rfl))
         try simp only [Act.put, lq4, lq5, lq6]
         refine wpAnyH_done (by kernel_rfl) ?_ _
         clear hHeld
         have HX5 := hide (HB0.out.fr HG4.out fun h => h)
         have HY5 := hide (HB1.out.fr HG4.out fun h => h)
         have HF5 := hide (HF0.out.trans HG4.out)
         generalize hu5 : u4 = u5 at *
         clear hu5
         go_wp2_with fail
         go_loopw [5] (fun i wr => ∃ j : Nat, j ≤ names.length ∧ i = .int .i64 j ∧ Fr No u5 wr) (fun i _ => names.length - (intOf i).toNat)
         case atStart => exact ⟨0, Nat.zero_le _, rfl, Fr.refl _ _⟩
         case round =>
          obtain ⟨j, hj, rfl, f6⟩ := hrel
          have HX6 := hide (HX5.out.fr f6 fun h => h)
          have HY6 := hide (HY5.out.fr f6 fun h => h)
          have HF6 := hide (HF5.out.trans f6)
          have x15 : wr.cell? ⟨gX, 15, none⟩ = some (.slice NA names.length nc) := HX6.out.cell 15
          have xq := HX6.out.lt
          have y15 : wr.cell? ⟨gX1, 15, none⟩ = some (.slice yNA ynames.length ync) := HY6.out.cell 15
          have yq := HY6.out.lt
          by_cases hlt : j < names.length
          · have hlt2 : j < ynames.length := by have := HNL.out; omega
            have fw := HF6.out
            have hs0 := Nat.le_trans HH.out fw.size
            have hs1 := Nat.le_trans HH'.out fw.size
            obtain ⟨b, o, rfl, -, hb, hin, hc⟩ := nm_at (HNX.out.fr fw HH.out fun _ _ _ h => h) hlt
            obtain ⟨b', o', rfl, -, hb', hin', hc'⟩ := nm_at (HNY.out.fr fw HH'.out fun _ _ _ h => h) hlt2
            have hej := congrArg (fun q => q[j]?) HNM.out
            simp only [List.getElem?_map, List.getElem?_eq_getElem hlt, List.getElem?_eq_getElem hlt2, Option.map_some, Option.some.injEq, Prod.mk.injEq] at hej
            obtain ⟨e1, e2⟩ := hej
            obtain ⟨nx, hnx⟩ : ∃ z, names[j] = z := ⟨_, rfl⟩
            obtain ⟨ny, hny⟩ : ∃ z, ynames[j] = z := ⟨_, rfl⟩
            rw [hnx] at hc hin e1 e2
            rw [hny] at hc' hin' e1 e2
            obtain ⟨nm, ⟨k3, n3, s3, A3, cap3, l3, r3⟩⟩ := nx
            obtain ⟨nm', ⟨k4, n4, s4, A4, cap4, l4, r4⟩⟩ := ny
            simp only at hin hin' e1 e2
            subst e1
            have HSV := hide fun w' (f : Fr No wr w') => (show Calls Tryz.prog 204 #[.agg #[.int .u8 k3, .int .i64 n3, .string s3, .slice A3 l3.length cap3, .int .i64 r3], .agg #[.int .u8 k4, .int .i64 n4, .string s4, .slice A4 l4.length cap4, .int .i64 r4]] w' (SameP (T.mk k3 n3 s3 A3 cap3 l3 r3).v (T.mk k4 n4 s4 A4 cap4 l4 r4).v w') from
             same4_any (T.mk k3 n3 s3 A3 cap3 l3 r3) (T.mk k4 n4 s4 A4 cap4 l4 r4) w' lo hi lo' hi' (hin.no f hs0) (Nat.le_trans hs0 f.size) (hin'.no f hs1) (Nat.le_trans hs1 f.size))
            have HE2 := hide e2
            have p0 : wr.cell? ⟨b, o + j * 6, none⟩ = some (.string nm) := hc 0 _ rfl
            have p1 : wr.cell? ⟨b, o + j * 6 + 1, none⟩ = some (.int .u8 k3) := hc 1 _ rfl
            have p2 : wr.cell? ⟨b, o + j * 6 + 2, none⟩ = some (.int .i64 n3) := hc 2 _ rfl
            have p3 : wr.cell? ⟨b, o + j * 6 + 3, none⟩ = some (.string s3) := hc 3 _ rfl
            have p4 : wr.cell? ⟨b, o + j * 6 + 4, none⟩ = some (.slice A3 l3.length cap3) := hc 4 _ rfl
            have p5 : wr.cell? ⟨b, o + j * 6 + 5, none⟩ = some (.int .i64 r3) := hc 5 _ rfl
            have p'0 : wr.cell? ⟨b', o' + j * 6, none⟩ = some (.string nm) := hc' 0 _ rfl
            have p'1 : wr.cell? ⟨b', o' + j * 6 + 1, none⟩ = some (.int .u8 k4) := hc' 1 _ rfl
            have p'2 : wr.cell? ⟨b', o' + j * 6 + 2, none⟩ = some (.int .i64 n4) := hc' 2 _ rfl
            have p'3 : wr.cell? ⟨b', o' + j * 6 + 3, none⟩ = some (.string s4) := hc' 3 _ rfl
            have p'4 : wr.cell? ⟨b', o' + j * 6 + 4, none⟩ = some (.slice A4 l4.length cap4) := hc' 4 _ rfl
            have p'5 : wr.cell? ⟨b', o' + j * 6 + 5, none⟩ = some (.int .i64 r4) := hc' 5 _ rfl
            have g0 : b < wr.heap.size := by omega
            have g1 : b' < wr.heap.size := by omega
            have hnn : (nm.toList != nm.toList) = false := by simp
            have HLT := hide hlt
            have HFJ := hide f6
            clear hc hc' hin hin' hnx hny e2 hb hb' fw f6 hs0 hs1 hj
            have HC6 := hide fun w' (f : Fr No wr w') => (show w'.cell? ⟨b, o + j * 6, none⟩ = some (.string nm) ∧ w'.cell? ⟨b, o + j * 6 + 1, none⟩ = some (.int .u8 k3) ∧ w'.cell? ⟨b, o + j * 6 + 2, none⟩ = some (.int .i64 n3) ∧ w'.cell? ⟨b, o + j * 6 + 3, none⟩ = some (.string s3) ∧ w'.cell? ⟨b, o + j * 6 + 4, none⟩ = some (.slice A3 l3.length cap3) ∧ w'.cell? ⟨b, o + j * 6 + 5, none⟩ = some (.int .i64 r3) ∧ w'.cell? ⟨b', o' + j * 6, none⟩ = some (.string nm) ∧ w'.cell? ⟨b', o' + j * 6 + 1, none⟩ = some (.int .u8 k4) ∧ w'.cell? ⟨b', o' + j * 6 + 2, none⟩ = some (.int .i64 n4) ∧ w'.cell? ⟨b', o' + j * 6 + 3, none⟩ = some (.string s4) ∧ w'.cell? ⟨b', o' + j * 6 + 4, none⟩ = some (.slice A4 l4.length cap4) ∧ w'.cell? ⟨b', o' + j * 6 + 5, none⟩ = some (.int .i64 r4) ∧ w'.cell? ⟨gX, 15, none⟩ = some (.slice (some ⟨b, o, none⟩) names.length nc) ∧ gX < w'.heap.size ∧ w'.cell? ⟨gX1, 15, none⟩ = some (.slice (some ⟨b', o', none⟩) ynames.length ync) ∧ gX1 < w'.heap.size ∧ b < w'.heap.size ∧ b' < w'.heap.size from ⟨(f.cell g0 fun h => h).trans p0, (f.cell g0 fun h => h).trans p1, (f.cell g0 fun h => h).trans p2, (f.cell g0 fun h => h).trans p3, (f.cell g0 fun h => h).trans p4, (f.cell g0 fun h => h).trans p5, (f.cell g1 fun h => h).trans p'0, (f.cell g1 fun h => h).trans p'1, (f.cell g1 fun h => h).trans p'2, (f.cell g1 fun h => h).trans p'3, (f.cell g1 fun h => h).trans p'4, (f.cell g1 fun h => h).trans p'5, (HX6.out.fr f fun h => h).cell 15, (HX6.out.fr f fun h => h).lt, (HY6.out.fr f fun h => h).cell 15, (HY6.out.fr f fun h => h).lt, Nat.lt_of_lt_of_le g0 f.size, Nat.lt_of_lt_of_le g1 f.size⟩)
            clear p0 p1 p2 p3 p4 p5 p'0 p'1 p'2 p'3 p'4 p'5
            go_upto_region 6 with (fail)
            clear x15 xq y15 yq g0 g1
            refine wp_region_held_drew (S := fun w' => Fr No wr w') (by kernel_rfl) ?_ (fun hHeld => ?_)
            · exact (Fr.refl No wr).drew
            refine tk (i := 0) (v := ?_) (by simp only [lq1, lq3]; rfl) (by kernel_rfl) (by intro _ _ _ h; exact h) (by rfl) (by assumption) ?_ ?_; rotate_left
            · (intro wq hSw; (try dsimp only at hSw); go_simp; try (with_reducible rfl))
            try simp only [Act.put, lq4, lq5, lq6]
            refine tk (i := 1) (v := ?_) (by simp only [lq1, lq2, lq3]; rfl) (by kernel_rfl) (by intro _ _ _ h; exact h) (by rfl) (by assumption) ?_ ?_; rotate_left
            · (intro wq hSw; (try dsimp only at hSw); obtain ⟨p0, p1, p2, p3, p4, p5, q0, q1, q2, q3, q4, q5, x15, xq, y15, yq, g0, g1⟩ := HC6.out wq hSw; go_simp; try (with_reducible rfl))
            try simp only [Act.put, lq4, lq5, lq6]
            refine tk (i := 2) (v := ?_) (by simp only [lq1, lq2, lq3]; rfl) (by kernel_rfl) (by intro _ _ _ h; exact h) (by rfl) (by assumption) ?_ ?_; rotate_left
            · (intro wq hSw; (try dsimp only at hSw); go_simp; try (with_reducible rfl))
            try simp only [Act.put, lq4, lq5, lq6]
            refine tk (i := 3) (v := ?_) (by simp only [lq1, lq2, lq3]; rfl) (by kernel_rfl) (by intro _ _ _ h; exact h) (by rfl) (by assumption) ?_ ?_; rotate_left
            · (intro wq hSw; (try dsimp only at hSw); go_simp; try (with_reducible rfl))
            try simp only [Act.put, lq4, lq5, lq6]
            refine tk (i := 4) (v := ?_) (by simp only [lq1, lq2, lq3]; rfl) (by kernel_rfl) (by intro _ _ _ h; exact h) (by rfl) (by assumption) ?_ ?_; rotate_left
            · (intro wq hSw; (try dsimp only at hSw); go_simp; try (with_reducible rfl))
            try simp only [Act.put, lq4, lq5, lq6]
            refine tk (i := 5) (v := ?_) (by simp only [lq1, lq2, lq3]; rfl) (by kernel_rfl) (by intro _ _ _ h; exact h) (by rfl) (by assumption) ?_ ?_; rotate_left
            · (intro wq hSw; (try dsimp only at hSw); obtain ⟨p0, p1, p2, p3, p4, p5, q0, q1, q2, q3, q4, q5, x15, xq, y15, yq, g0, g1⟩ := HC6.out wq hSw; go_simp; try (with_reducible rfl))
            try simp only [Act.put, lq4, lq5, lq6]
            refine tk (i := 6) (v := ?_) (by simp only [lq1, lq2, lq3]; rfl) (by kernel_rfl) (by intro _ _ _ h; exact h) (by rfl) (by assumption) ?_ ?_; rotate_left
            · (intro wq hSw; (try dsimp only at hSw); go_simp; try (with_reducible rfl))
            try simp only [Act.put, lq4, lq5, lq6]
            refine tk (i := 7) (v := ?_) (by simp only [lq1, lq2, lq3]; rfl) (by kernel_rfl) (by intro _ _ _ h; exact h) (by rfl) (by assumption) ?_ ?_; rotate_left
            · (intro wq hSw; (try dsimp only at hSw); obtain ⟨p0, p1, p2, p3, p4, p5, q0, q1, q2, q3, q4, q5, x15, xq, y15, yq, g0, g1⟩ := HC6.out wq hSw; go_simp; try (with_reducible rfl))
            try simp only [Act.put, lq4, lq5, lq6]
            refine tk (i := 8) (v := ?_) (by simp only [lq1, lq2, lq3]; rfl) (by kernel_rfl) (by intro _ _ _ h; exact h) (by rfl) (by assumption) ?_ ?_; rotate_left
            · (intro wq hSw; (try dsimp only at hSw); go_simp; try (with_reducible rfl))
            try simp only [Act.put, lq4, lq5, lq6]
            refine tk (i := 9) (v := ?_) (by simp only [lq1, lq2, lq3]; rfl) (by kernel_rfl) (by intro _ _ _ h; exact h) (by rfl) (by assumption) ?_ ?_; rotate_left
            · (intro wq hSw; (try dsimp only at hSw); go_simp; try (with_reducible rfl))
            try simp only [Act.put, lq4, lq5, lq6]
            refine tk (i := 10) (v := ?_) (by simp only [lq1, lq2, lq3]; rfl) (by kernel_rfl) (by intro _ _ _ h; exact h) (by rfl) (by assumption) ?_ ?_; rotate_left
            · (intro wq hSw; (try dsimp only at hSw); go_simp; try (with_reducible rfl))
            try simp only [Act.put, lq4, lq5, lq6]
            refine tk (i := 11) (v := ?_) (by simp only [lq1, lq2, lq3]; rfl) (by kernel_rfl) (by intro _ _ _ h; exact h) (by rfl) (by assumption) ?_ ?_; rotate_left
            · (intro wq hSw; (try dsimp only at hSw); obtain ⟨p0, p1, p2, p3, p4, p5, q0, q1, q2, q3, q4, q5, x15, xq, y15, yq, g0, g1⟩ := HC6.out wq hSw; go_simp; try (with_reducible rfl))
            try simp only [Act.put, lq4, lq5, lq6]
            refine tk (i := 12) (v := ?_) (by simp only [lq1, lq2, lq3]; rfl) (by kernel_rfl) (by intro _ _ _ h; exact h) (by rfl) (by assumption) ?_ ?_; rotate_left
            · (intro wq hSw; (try dsimp only at hSw); go_simp; try (with_reducible rfl))
            try simp only [Act.put, lq4, lq5, lq6]
            refine tk (i := 13) (v := ?_) (by simp only [lq1, lq2, lq3]; rfl) (by kernel_rfl) (by intro _ _ _ h; exact h) (by rfl) (by assumption) ?_ ?_; rotate_left
            · (intro wq hSw; (try dsimp only at hSw); go_simp; try (with_reducible rfl))
            try simp only [Act.put, lq4, lq5, lq6]
            refine tk (i := 14) (v := ?_) (by simp only [lq1, lq2, lq3]; rfl) (by kernel_rfl) (by intro _ _ _ h; exact h) (by rfl) (by assumption) ?_ ?_; rotate_left
            · (intro wq hSw; (try dsimp only at hSw); go_simp; try (with_reducible rfl))
            try simp only [Act.put, lq4, lq5, lq6]
            refine tk (i := 15) (v := ?_) (by simp only [lq1, lq2, lq3]; rfl) (by kernel_rfl) (by intro _ _ _ h; exact h) (by rfl) (by assumption) ?_ ?_; rotate_left
            · (intro wq hSw; (try dsimp only at hSw); obtain ⟨p0, p1, p2, p3, p4, p5, q0, q1, q2, q3, q4, q5, x15, xq, y15, yq, g0, g1⟩ := HC6.out wq hSw; go_simp; try (with_reducible rfl))
            try simp only [Act.put, lq4, lq5, lq6]
            refine tk (i := 16) (v := ?_) (by simp only [lq1, lq2, lq3]; rfl) (by kernel_rfl) (by intro _ _ _ h; exact h) (by rfl) (by assumption) ?_ ?_; rotate_left
            · (intro wq hSw; (try dsimp only at hSw); go_simp; try (with_reducible rfl))
            try simp only [Act.put, lq4, lq5, lq6]
            refine tk (i := 17) (v := ?_) (by simp only [lq1, lq2, lq3]; rfl) (by kernel_rfl) (by intro _ _ _ h; exact h) (by rfl) (by assumption) ?_ ?_; rotate_left
            · (intro wq hSw; (try dsimp only at hSw); go_simp; try (with_reducible rfl))
            try simp only [Act.put, lq4, lq5, lq6]
            refine tk (i := 18) (v := ?_) (by simp only [lq1, lq2, lq3]; rfl) (by kernel_rfl) (by intro _ _ _ h; exact h) (by rfl) (by assumption) ?_ ?_; rotate_left
            · (intro wq hSw; (try dsimp only at hSw); go_simp; try (with_reducible rfl))
            try simp only [Act.put, lq4, lq5, lq6]
            refine tk (i := 19) (v := ?_) (by simp only [lq1, lq2, lq3]; rfl) (by kernel_rfl) (by intro _ _ _ h; exact h) (by rfl) (by assumption) ?_ ?_; rotate_left
            · (intro wq hSw; (try dsimp only at hSw); obtain ⟨p0, p1, p2, p3, p4, p5, q0, q1, q2, q3, q4, q5, x15, xq, y15, yq, g0, g1⟩ := HC6.out wq hSw; go_simp; try (with_reducible rfl))
            try simp only [Act.put, lq4, lq5, lq6]
            refine tk (i := 20) (v := ?_) (by simp only [lq1, lq2, lq3]; rfl) (by kernel_rfl) (by intro _ _ _ h; exact h) (by rfl) (by assumption) ?_ ?_; rotate_left
            · (intro wq hSw; (try dsimp only at hSw); go_simp; try (with_reducible rfl))
            try simp only [Act.put, lq4, lq5, lq6]
            refine tk (i := 21) (v := ?_) (by simp only [lq1, lq2, lq3]; rfl) (by kernel_rfl) (by intro _ _ _ h; exact h) (by rfl) (by assumption) ?_ ?_; rotate_left
            · (intro wq hSw; (try dsimp only at hSw); obtain ⟨p0, p1, p2, p3, p4, p5, q0, q1, q2, q3, q4, q5, x15, xq, y15, yq, g0, g1⟩ := HC6.out wq hSw; go_simp; try (with_reducible rfl))
            try simp only [Act.put, lq4, lq5, lq6]
            refine tk (i := 22) (v := ?_) (by simp only [lq1, lq2, lq3]; rfl) (by kernel_rfl) (by intro _ _ _ h; exact h) (by rfl) (by assumption) ?_ ?_; rotate_left
            · (intro wq hSw; (try dsimp only at hSw); go_simp; try (with_reducible rfl))
            try simp only [Act.put, lq4, lq5, lq6]
            refine tk (i := 23) (v := ?_) (by simp only [lq1, lq2, lq3]; rfl) (by kernel_rfl) (by intro _ _ _ h; exact h) (by rfl) (by assumption) ?_ ?_; rotate_left
            · (intro wq hSw; (try dsimp only at hSw); go_simp; try (with_reducible rfl))
            try simp only [Act.put, lq4, lq5, lq6]
            refine tk (i := 24) (v := ?_) (by simp only [lq1, lq2, lq3]; rfl) (by kernel_rfl) (by intro _ _ _ h; exact h) (by rfl) (by assumption) ?_ ?_; rotate_left
            · (intro wq hSw; (try dsimp only at hSw); go_simp; try (with_reducible rfl))
            try simp only [Act.put, lq4, lq5, lq6]
            refine tk (i := 25) (v := ?_) (by simp only [lq1, lq2, lq3]; rfl) (by kernel_rfl) (by intro _ _ _ h; exact h) (by rfl) (by assumption) ?_ ?_; rotate_left
            · (intro wq hSw; (try dsimp only at hSw); obtain ⟨p0, p1, p2, p3, p4, p5, q0, q1, q2, q3, q4, q5, x15, xq, y15, yq, g0, g1⟩ := HC6.out wq hSw; go_simp; try (with_reducible rfl))
            try simp only [Act.put, lq4, lq5, lq6]
            refine wpAnyH_ready (rs := [26]) (by kernel_rfl) (by simp) ?_
            refine AllReadyH.cons rfl (fun K hK => ?_) AllReadyH.nil
            · go_simp
              (go_at_call 204; (refine (HSV.out _ ((Fr.refl No wr).drew)).mono ?_); (rintro e w2 ⟨q, rfl, hq, fr1⟩); (obtain rfl : q = true := hq.2 HE2.out); (have HFR := hide (((Fr.refl No wr).drew).trans fr1)); clear hq fr1)
              try go_simp
              refine hK.out _ _ ?_ (fun hHeld2 => ?_)
              · exact HFR.out
              clear hK K hHeld
              have hHeld := hHeld2
              clear hHeld2
              try simp only [Act.put, lq4, lq5, lq6]
              refine tk (i := 27) (v := ?_) (by simp only [lq1, lq2, lq3]; rfl) (by kernel_rfl) (by intro _ _ _ h; exact h) (by rfl) (by assumption) ?_ ?_; rotate_left
              · (intro wq hSw; (try dsimp only at hSw); go_simp; try (with_reducible rfl))
              try simp only [Act.put, lq4, lq5, lq6]
              refine tk (i := 28) (v := ?_) (by simp only [lq1, lq2, lq3]; rfl) (by kernel_rfl) (by intro _ _ _ h; exact h) (by rfl) (by assumption) ?_ ?_; rotate_left
              · (intro wq hSw; (try dsimp only at hSw); go_simp; try (with_reducible rfl))
              try simp only [Act.put, lq4, lq5, lq6]
              refine wpAnyH_done (by kernel_rfl) ?_ _
              clear hHeld
              go_wp2_with fail
              go_roundw
              case rel => exact ⟨j + 1, HLT.out, by go_num, HFJ.out.trans HFR.out⟩
              case measure =>
               have := HLT.out
               simp [intOf] <;> omega
          · obtain rfl : names.length = j := by omega
            clear hlt hj f6
            have x14 : wr.cell? ⟨gX, 14, none⟩ = some (.slice CA code.length cc) := HX6.out.cell 14
            have xq := HX6.out.lt
            have y14 : wr.cell? ⟨gX1, 14, none⟩ = some (.slice yCA ycode.length ycc) := HY6.out.cell 14
            have yq := HY6.out.lt
            go_wp2_with fail
            refine (HC.out wr HF6.out).mono ?_
            rintro e w9 ⟨rfl, f9⟩
            have HF9 := hide (HF6.out.trans f9)
            clear f9
            go_wp2
            go_ret
            exact ⟨rfl, HF9.out⟩
theorem en_at {w : World} {lo hi : Nat} {A : Option Addr} {cap : Nat} {l : List (Int × Tg)} (h : EnRow w lo hi A cap l) {j : Nat} (hj : j < l.length) : ∃ b o, A = some ⟨b, o, none⟩ ∧ lo ≤ b ∧ b < hi ∧ l[j].2.In w lo hi ∧ ∀ i u, (Value.int .i64 l[j].1 :: l[j].2.cells)[i]? = some u → w.cell? ⟨b, o + j * 17 + i, none⟩ = some u := by
 obtain ⟨b, o, rfl, h0, h1, hc⟩ := h.at_ (by rintro rfl; simp at hj)
 exact ⟨b, o, rfl, h0, h1, (h.inn _ (List.getElem_mem hj)).2, hc j _ (List.getElem?_eq_getElem hj)⟩
set_option maxRecDepth 100000 in
set_option maxHeartbeats 16000000 in
theorem Same_eq {w : World} {lo hi lo' hi' : Nat} {PA : Option Addr} {pc : Nat} {ps : List Int} {CA : Option Addr} {cc : Nat} {cuts : List Int} {TA : Option Addr} {tc : Nat} {ths : List (Int × Tg)} {MA : Option Addr} {mc : Nat} {made : List Int} {last : Int}
 {yPA : Option Addr} {ypc : Nat} {yCA : Option Addr} {ycc : Nat} {yTA : Option Addr} {ytc : Nat} {yths : List (Int × Tg)} {yMA : Option Addr} {ymc : Nat}
 (hx : WRow w lo hi PA pc ps CA cc cuts TA tc ths MA mc made) (hh : hi ≤ w.heap.size) (hy : WRow w lo' hi' yPA ypc ps yCA ycc cuts yTA ytc yths yMA ymc made) (hh' : hi' ≤ w.heap.size) (hpl : (ths.map fun x => (x.1, x.2.pl)) = yths.map fun x => (x.1, x.2.pl)) :
 Calls Tryz.prog 80 #[.agg #[.slice PA ps.length pc, .slice CA cuts.length cc, .slice TA ths.length tc, .int .i64 last, .slice MA made.length mc], .agg #[.slice yPA ps.length ypc, .slice yCA cuts.length ycc, .slice yTA yths.length ytc, .int .i64 last, .slice yMA made.length ymc]] w fun e w' => e = .returned (.bool true) ∧ Fr No w w' := by
 have htl : ths.length = yths.length := by simpa using congrArg List.length hpl
 have htl' : ((ths.length : Int) != (yths.length : Int)) = false := by simp; omega
 have fr2 := ((Fr.refl No w).alloc (.cells #[.slice PA ps.length pc, .slice CA cuts.length cc, .slice TA ths.length tc, .int .i64 last, .slice MA made.length mc] 71)).alloc (.cells #[.slice yPA ps.length ypc, .slice yCA cuts.length ycc, .slice yTA yths.length ytc, .int .i64 last, .slice yMA made.length ymc] 71)
 have hb0 := (Blk.new w 71 #[.slice PA ps.length pc, .slice CA cuts.length cc, .slice TA ths.length tc, .int .i64 last, .slice MA made.length mc]).alloc (.cells #[.slice yPA ps.length ypc, .slice yCA cuts.length ycc, .slice yTA yths.length ytc, .int .i64 last, .slice yMA made.length ymc] 71)
 have hb1 := Blk.new' (w.alloc (.cells #[.slice PA ps.length pc, .slice CA cuts.length cc, .slice TA ths.length tc, .int .i64 last, .slice MA made.length mc] 71)) 71 #[.slice yPA ps.length ypc, .slice yCA cuts.length ycc, .slice yTA yths.length ytc, .int .i64 last, .slice yMA made.length ymc] (g := w.heap.size + 1) (by simp)
 have HX := hide hx
 have HY := hide hy
 have HPL := hide hpl
 have HTL := hide htl
 have HH := hide hh
 have HH' := hide hh'
 have HB0 := hide hb0
 have HB1 := hide hb1
 have HF0 := hide fr2
 have l1 := hx.p.len
 have l2 := hx.c.len
 have l3 := hx.t.len
 have l4 := hx.m.len
 clear hx hy hpl htl hb0 hb1 fr2 hh hh'
 go_enter Tryz.func80, Tryz.ntmps80
 go_wp2_with fail
 generalize World.alloc (World.alloc w _) _ = W0 at *
 have x0 : W0.cell? ⟨w.heap.size, 0, none⟩ = some (.slice PA ps.length pc) := HB0.out.cell 0
 have x1 : W0.cell? ⟨w.heap.size, 1, none⟩ = some (.slice CA cuts.length cc) := HB0.out.cell 1
 have x2 : W0.cell? ⟨w.heap.size, 2, none⟩ = some (.slice TA ths.length tc) := HB0.out.cell 2
 have x3 : W0.cell? ⟨w.heap.size, 3, none⟩ = some (.int .i64 last) := HB0.out.cell 3
 have x4 : W0.cell? ⟨w.heap.size, 4, none⟩ = some (.slice MA made.length mc) := HB0.out.cell 4
 have xq := HB0.out.lt
 have y0 : W0.cell? ⟨w.heap.size + 1, 0, none⟩ = some (.slice yPA ps.length ypc) := HB1.out.cell 0
 have y1 : W0.cell? ⟨w.heap.size + 1, 1, none⟩ = some (.slice yCA cuts.length ycc) := HB1.out.cell 1
 have y2 : W0.cell? ⟨w.heap.size + 1, 2, none⟩ = some (.slice yTA yths.length ytc) := HB1.out.cell 2
 have y3 : W0.cell? ⟨w.heap.size + 1, 3, none⟩ = some (.int .i64 last) := HB1.out.cell 3
 have y4 : W0.cell? ⟨w.heap.size + 1, 4, none⟩ = some (.slice yMA made.length ymc) := HB1.out.cell 4
 have yq := HB1.out.lt
 go_wp2_with fail
 clear x0 y0 x1 y1 x2 y2 x3 y3 x4 y4 xq yq
 go_loopw [5] (fun i wr => ∃ j : Nat, j ≤ ps.length ∧ i = .int .i64 j ∧ Fr No W0 wr) (fun i _ => ps.length - (intOf i).toNat)
 case atStart => exact ⟨0, Nat.zero_le _, rfl, Fr.refl _ _⟩
 case round =>
  obtain ⟨j, hj, rfl, f6⟩ := hrel
  have HXw := hide (HB0.out.fr f6 fun h => h)
  have HYw := hide (HB1.out.fr f6 fun h => h)
  have HFw := hide (HF0.out.trans f6)
  have x0 : wr.cell? ⟨w.heap.size, 0, none⟩ = some (.slice PA ps.length pc) := HXw.out.cell 0
  have xq := HXw.out.lt
  have y0 : wr.cell? ⟨w.heap.size + 1, 0, none⟩ = some (.slice yPA ps.length ypc) := HYw.out.cell 0
  have yq := HYw.out.lt
  by_cases hlt : j < ps.length
  · obtain ⟨b, o, hA, hb, hc⟩ := (HX.out.p.no HFw.out HH.out).elem hlt
    obtain ⟨b', o', hA', hb', hc'⟩ := (HY.out.p.no HFw.out HH'.out).elem hlt
    rw [hA] at x0
    rw [hA'] at y0
    have g0 : b < wr.heap.size := by have := HH.out; have := HFw.out.size; omega
    have g1 : b' < wr.heap.size := by have := HH'.out; have := HFw.out.size; omega
    generalize ps[j] = vj at *
    have HLT := hide hlt
    have HFJ := hide f6
    clear hA hA' hb hb' f6 hj
    go_wp2_with fail
    go_quiet (fail)
    generalize hwq : World.drewN wr _ = wq
    have fq : Fr No wr wq := by rw [← hwq]; exact ⟨rfl, rfl, rfl, Nat.le_refl _, fun _ _ _ => rfl⟩
    have HFQ := hide (HFJ.out.trans fq)
    clear fq hwq
    go_wp2_with fail
    go_roundw
    case rel => exact ⟨j + 1, HLT.out, by go_num, HFQ.out⟩
    case measure =>
     have := HLT.out
     simp [intOf] <;> omega
  · obtain rfl : ps.length = j := by omega
    have HF1 := hide f6
    clear f6 hlt hj HXw HYw HFw
    go_wp2_with fail
    clear x0 y0 xq yq
    obtain ⟨wo1, hwo1⟩ : ∃ wo : World, wr = wo := ⟨_, rfl⟩
    rw [hwo1] at HF1 ⊢
    clear hwo1
    go_loopw [6] (fun i wr => ∃ j : Nat, j ≤ cuts.length ∧ i = .int .i64 j ∧ Fr No W0 wr) (fun i _ => cuts.length - (intOf i).toNat)
    case atStart => exact ⟨0, Nat.zero_le _, rfl, HF1.out⟩
    case round =>
     obtain ⟨j, hj, rfl, f6⟩ := hrel
     have HXw := hide (HB0.out.fr f6 fun h => h)
     have HYw := hide (HB1.out.fr f6 fun h => h)
     have HFw := hide (HF0.out.trans f6)
     have x1 : wr.cell? ⟨w.heap.size, 1, none⟩ = some (.slice CA cuts.length cc) := HXw.out.cell 1
     have xq := HXw.out.lt
     have y1 : wr.cell? ⟨w.heap.size + 1, 1, none⟩ = some (.slice yCA cuts.length ycc) := HYw.out.cell 1
     have yq := HYw.out.lt
     by_cases hlt : j < cuts.length
     · obtain ⟨b, o, hA, hb, hc⟩ := (HX.out.c.no HFw.out HH.out).elem hlt
       obtain ⟨b', o', hA', hb', hc'⟩ := (HY.out.c.no HFw.out HH'.out).elem hlt
       rw [hA] at x1
       rw [hA'] at y1
       have g0 : b < wr.heap.size := by have := HH.out; have := HFw.out.size; omega
       have g1 : b' < wr.heap.size := by have := HH'.out; have := HFw.out.size; omega
       generalize cuts[j] = vj at *
       have HLT := hide hlt
       have HFJ := hide f6
       clear hA hA' hb hb' f6 hj
       go_wp2_with fail
       go_quiet (fail)
       generalize hwq : World.drewN wr _ = wq
       have fq : Fr No wr wq := by rw [← hwq]; exact ⟨rfl, rfl, rfl, Nat.le_refl _, fun _ _ _ => rfl⟩
       have HFQ := hide (HFJ.out.trans fq)
       clear fq hwq
       go_wp2_with fail
       go_roundw
       case rel => exact ⟨j + 1, HLT.out, by go_num, HFQ.out⟩
       case measure =>
        have := HLT.out
        simp [intOf] <;> omega
     · obtain rfl : cuts.length = j := by omega
       have HF2 := hide f6
       clear f6 hlt hj HXw HYw HFw
       go_wp2_with fail
       clear x1 y1 xq yq
       obtain ⟨wo2, hwo2⟩ : ∃ wo : World, wr = wo := ⟨_, rfl⟩
       rw [hwo2] at HF2 ⊢
       clear hwo2
       go_loopw [7] (fun i wr => ∃ j : Nat, j ≤ made.length ∧ i = .int .i64 j ∧ Fr No W0 wr) (fun i _ => made.length - (intOf i).toNat)
       case atStart => exact ⟨0, Nat.zero_le _, rfl, HF2.out⟩
       case round =>
        obtain ⟨j, hj, rfl, f6⟩ := hrel
        have HXw := hide (HB0.out.fr f6 fun h => h)
        have HYw := hide (HB1.out.fr f6 fun h => h)
        have HFw := hide (HF0.out.trans f6)
        have x4 : wr.cell? ⟨w.heap.size, 4, none⟩ = some (.slice MA made.length mc) := HXw.out.cell 4
        have xq := HXw.out.lt
        have y4 : wr.cell? ⟨w.heap.size + 1, 4, none⟩ = some (.slice yMA made.length ymc) := HYw.out.cell 4
        have yq := HYw.out.lt
        by_cases hlt : j < made.length
        · obtain ⟨b, o, hA, hb, hc⟩ := (HX.out.m.no HFw.out HH.out).elem hlt
          obtain ⟨b', o', hA', hb', hc'⟩ := (HY.out.m.no HFw.out HH'.out).elem hlt
          rw [hA] at x4
          rw [hA'] at y4
          have g0 : b < wr.heap.size := by have := HH.out; have := HFw.out.size; omega
          have g1 : b' < wr.heap.size := by have := HH'.out; have := HFw.out.size; omega
          generalize made[j] = vj at *
          have HLT := hide hlt
          have HFJ := hide f6
          clear hA hA' hb hb' f6 hj
          go_wp2_with fail
          go_quiet (fail)
          generalize hwq : World.drewN wr _ = wq
          have fq : Fr No wr wq := by rw [← hwq]; exact ⟨rfl, rfl, rfl, Nat.le_refl _, fun _ _ _ => rfl⟩
          have HFQ := hide (HFJ.out.trans fq)
          clear fq hwq
          go_wp2_with fail
          go_roundw
          case rel => exact ⟨j + 1, HLT.out, by go_num, HFQ.out⟩
          case measure =>
           have := HLT.out
           simp [intOf] <;> omega
        · obtain rfl : made.length = j := by omega
          have HF3 := hide f6
          clear f6 hlt hj HXw HYw HFw
          go_wp2_with fail
          clear x4 y4 xq yq
          obtain ⟨wo3, hwo3⟩ : ∃ wo : World, wr = wo := ⟨_, rfl⟩
          rw [hwo3] at HF3 ⊢
          clear hwo3
          go_loopw [8] (fun i wr => ∃ j : Nat, j ≤ ths.length ∧ i = .int .i64 j ∧ Fr No W0 wr) (fun i _ => ths.length - (intOf i).toNat)
          case atStart => exact ⟨0, Nat.zero_le _, rfl, HF3.out⟩
          case round =>
           obtain ⟨j, hj, rfl, f6⟩ := hrel
           have HXw := hide (HB0.out.fr f6 fun h => h)
           have HYw := hide (HB1.out.fr f6 fun h => h)
           have HFw := hide (HF0.out.trans f6)
           have x2 : wr.cell? ⟨w.heap.size, 2, none⟩ = some (.slice TA ths.length tc) := HXw.out.cell 2
           have xq := HXw.out.lt
           have y2 : wr.cell? ⟨w.heap.size + 1, 2, none⟩ = some (.slice yTA yths.length ytc) := HYw.out.cell 2
           have yq := HYw.out.lt
           by_cases hlt : j < ths.length
           · have hlt2 : j < yths.length := by have := HTL.out; omega
             have fw := HFw.out
             have hs0 := Nat.le_trans HH.out fw.size
             have hs1 := Nat.le_trans HH'.out fw.size
             obtain ⟨b, o, rfl, -, hb, hin, hc⟩ := en_at (HX.out.t.no fw HH.out) hlt
             obtain ⟨b', o', rfl, -, hb', hin', hc'⟩ := en_at (HY.out.t.no fw HH'.out) hlt2
             have hej := congrArg (fun q => q[j]?) HPL.out
             simp only [List.getElem?_map, List.getElem?_eq_getElem hlt, List.getElem?_eq_getElem hlt2, Option.map_some, Option.some.injEq, Prod.mk.injEq] at hej
             obtain ⟨e1, e2⟩ := hej
             obtain ⟨nx, hnx⟩ : ∃ z, ths[j] = z := ⟨_, rfl⟩
             obtain ⟨ny, hny⟩ : ∃ z, yths[j] = z := ⟨_, rfl⟩
             rw [hnx] at hc hin e1 e2
             rw [hny] at hc' hin' e1 e2
             have HSV := hide fun w' (f : Fr No wr w') => SameWhat_eq nx.2 ny.2 w' lo hi lo' hi' (hin.no f hs0) (Nat.le_trans hs0 f.size) (hin'.no f hs1) (Nat.le_trans hs1 f.size) e2
             obtain ⟨rx, dkind, dhome, ⟨dk, dn, ds, dA, dcap, dl, dr⟩, dVA, dvc, dvs, dn1, dlost, dofr, dbyr, dset, dfull, dCA, dqc, dcode, dNA, dnc, dnames⟩ := nx
             obtain ⟨ry, hkind, hhome, ⟨hk, hn, hs, hA, hcap, hl, hr⟩, hVA, hvc, hvs, hn1, hlost, hofr, hbyr, hset, hfull, hCA, hqc, hcode, hNA, hnc, hnames⟩ := ny
             simp only at e1
             subst e1
             replace HSV : Hid (∀ w', Fr No wr w' → Calls Tryz.prog 153 #[.agg #[.int .u8 dkind, .int .i64 dhome, .int .u8 dk, .int .i64 dn, .string ds, .slice dA dl.length dcap, .int .i64 dr, .slice dVA dvs.length dvc, .int .i64 dn1, .int .i64 dlost, .int .i64 dofr, .int .i64 dbyr, .int .u8 dset, .bool dfull, .slice dCA dcode.length dqc, .slice dNA dnames.length dnc], .agg #[.int .u8 hkind, .int .i64 hhome, .int .u8 hk, .int .i64 hn, .string hs, .slice hA hl.length hcap, .int .i64 hr, .slice hVA hvs.length hvc, .int .i64 hn1, .int .i64 hlost, .int .i64 hofr, .int .i64 hbyr, .int .u8 hset, .bool hfull, .slice hCA hcode.length hqc, .slice hNA hnames.length hnc]] w' fun e w'' => e = .returned (.bool true) ∧ Fr No w' w'') := HSV
             have p0 : wr.cell? ⟨b, o + j * 17, none⟩ = some (.int .i64 rx) := hc 0 _ rfl
             have p1 : wr.cell? ⟨b, o + j * 17 + 1, none⟩ = some (.int .u8 dkind) := hc 1 _ rfl
             have p2 : wr.cell? ⟨b, o + j * 17 + 2, none⟩ = some (.int .i64 dhome) := hc 2 _ rfl
             have p3 : wr.cell? ⟨b, o + j * 17 + 3, none⟩ = some (.int .u8 dk) := hc 3 _ rfl
             have p4 : wr.cell? ⟨b, o + j * 17 + 4, none⟩ = some (.int .i64 dn) := hc 4 _ rfl
             have p5 : wr.cell? ⟨b, o + j * 17 + 5, none⟩ = some (.string ds) := hc 5 _ rfl
             have p6 : wr.cell? ⟨b, o + j * 17 + 6, none⟩ = some (.slice dA dl.length dcap) := hc 6 _ rfl
             have p7 : wr.cell? ⟨b, o + j * 17 + 7, none⟩ = some (.int .i64 dr) := hc 7 _ rfl
             have p8 : wr.cell? ⟨b, o + j * 17 + 8, none⟩ = some (.slice dVA dvs.length dvc) := hc 8 _ rfl
             have p9 : wr.cell? ⟨b, o + j * 17 + 9, none⟩ = some (.int .i64 dn1) := hc 9 _ rfl
             have p10 : wr.cell? ⟨b, o + j * 17 + 10, none⟩ = some (.int .i64 dlost) := hc 10 _ rfl
             have p11 : wr.cell? ⟨b, o + j * 17 + 11, none⟩ = some (.int .i64 dofr) := hc 11 _ rfl
             have p12 : wr.cell? ⟨b, o + j * 17 + 12, none⟩ = some (.int .i64 dbyr) := hc 12 _ rfl
             have p13 : wr.cell? ⟨b, o + j * 17 + 13, none⟩ = some (.int .u8 dset) := hc 13 _ rfl
             have p14 : wr.cell? ⟨b, o + j * 17 + 14, none⟩ = some (.bool dfull) := hc 14 _ rfl
             have p15 : wr.cell? ⟨b, o + j * 17 + 15, none⟩ = some (.slice dCA dcode.length dqc) := hc 15 _ rfl
             have p16 : wr.cell? ⟨b, o + j * 17 + 16, none⟩ = some (.slice dNA dnames.length dnc) := hc 16 _ rfl
             have p'0 : wr.cell? ⟨b', o' + j * 17, none⟩ = some (.int .i64 rx) := hc' 0 _ rfl
             have p'1 : wr.cell? ⟨b', o' + j * 17 + 1, none⟩ = some (.int .u8 hkind) := hc' 1 _ rfl
             have p'2 : wr.cell? ⟨b', o' + j * 17 + 2, none⟩ = some (.int .i64 hhome) := hc' 2 _ rfl
             have p'3 : wr.cell? ⟨b', o' + j * 17 + 3, none⟩ = some (.int .u8 hk) := hc' 3 _ rfl
             have p'4 : wr.cell? ⟨b', o' + j * 17 + 4, none⟩ = some (.int .i64 hn) := hc' 4 _ rfl
             have p'5 : wr.cell? ⟨b', o' + j * 17 + 5, none⟩ = some (.string hs) := hc' 5 _ rfl
             have p'6 : wr.cell? ⟨b', o' + j * 17 + 6, none⟩ = some (.slice hA hl.length hcap) := hc' 6 _ rfl
             have p'7 : wr.cell? ⟨b', o' + j * 17 + 7, none⟩ = some (.int .i64 hr) := hc' 7 _ rfl
             have p'8 : wr.cell? ⟨b', o' + j * 17 + 8, none⟩ = some (.slice hVA hvs.length hvc) := hc' 8 _ rfl
             have p'9 : wr.cell? ⟨b', o' + j * 17 + 9, none⟩ = some (.int .i64 hn1) := hc' 9 _ rfl
             have p'10 : wr.cell? ⟨b', o' + j * 17 + 10, none⟩ = some (.int .i64 hlost) := hc' 10 _ rfl
             have p'11 : wr.cell? ⟨b', o' + j * 17 + 11, none⟩ = some (.int .i64 hofr) := hc' 11 _ rfl
             have p'12 : wr.cell? ⟨b', o' + j * 17 + 12, none⟩ = some (.int .i64 hbyr) := hc' 12 _ rfl
             have p'13 : wr.cell? ⟨b', o' + j * 17 + 13, none⟩ = some (.int .u8 hset) := hc' 13 _ rfl
             have p'14 : wr.cell? ⟨b', o' + j * 17 + 14, none⟩ = some (.bool hfull) := hc' 14 _ rfl
             have p'15 : wr.cell? ⟨b', o' + j * 17 + 15, none⟩ = some (.slice hCA hcode.length hqc) := hc' 15 _ rfl
             have p'16 : wr.cell? ⟨b', o' + j * 17 + 16, none⟩ = some (.slice hNA hnames.length hnc) := hc' 16 _ rfl
             have g0 : b < wr.heap.size := by omega
             have g1 : b' < wr.heap.size := by omega
             have hnn : (rx != rx) = false := by simp
             have HLT := hide hlt
             have HFJ := hide f6
             clear hc hc' hin hin' hnx hny e2 hb hb' fw f6 hs0 hs1 hj
             go_wp2_with fail
             go_region_held3 (fun w' => (∀ c i, c < wr.heap.size → w'.cell? ⟨c, i, none⟩ = wr.cell? ⟨c, i, none⟩) ∧ Fr No wr w')
              (first | exact ⟨fun _ _ _ => rfl, Fr.drew (Fr.refl No wr)⟩ | (have hq : Fr No wr _ := (‹_ ∧ Fr No wr _›).2.trans ‹Fr No _ _›; exact ⟨hq.cells, hq⟩))
              (first | (go_at_call 153; have hs0 := (‹_ ∧ Fr No wr _›).2; ((with_reducible refine (HSV.out _ hs0).mono ?_); rintro e w2 ⟨rfl, fr1⟩)))
             go_wp2_with fail
             go_roundw
             case rel => exact ⟨j + 1, HLT.out, by go_num, HFJ.out.trans (‹_ ∧ Fr No wr _›).2⟩
             case measure =>
              have := HLT.out
              simp [intOf] <;> omega
           · obtain rfl : ths.length = j := by omega
             have HFE := hide HFw.out
             clear f6 hlt hj
             go_wp2
             go_ret
             exact ⟨rfl, HFE.out⟩
end Go.Proofs.YtlejelbefmkakaaGreat

/- Texts joined: Hf1, Hf2, Hf3. -/
import Derived.Test.YtlejelbefmkakaaGreatJn26
import Derived.Test.YtlejelbefmkakaaGreatJn27
namespace Go.Proofs.YtlejelbefmkakaaGreat
open Go.RowKit
structure Tg.Mays (x : Tg) : Prop where
 v : x.v.v.may = true
 vs : ∀ t ∈ x.vs, t.v.may = true
 nm : ∀ y ∈ x.names, y.2.v.may = true
theorem Tg.Mays.sim {x y : Tg} (h : x.Mays) (e : x.pl = y.pl) : y.Mays := by
 have h1 := congrArg TgV.v e
 have h2 := congrArg TgV.vs e
 have h3 := congrArg TgV.names e
 simp only [Tg.pl] at h1 h2 h3
 refine ⟨by rw [← h1]; exact h.v, fun t ht => ?_, fun z hz => ?_⟩
 · have : t.v ∈ x.vs.map T.v := by rw [h2]; exact List.mem_map_of_mem ht
   obtain ⟨u, hu, e⟩ := List.mem_map.1 this
   rw [← e]
   exact h.vs u hu
 · have : (z.1, z.2.v) ∈ x.names.map fun z => (z.1, z.2.v) := by rw [h3]; exact List.mem_map.2 ⟨z, hz, rfl⟩
   obtain ⟨u, hu, e⟩ := List.mem_map.1 this
   have e2 := congrArg Prod.snd e
   simp only at e2
   rw [← e2]
   exact h.nm u hu
theorem Tg.Form.Mays {k : Nat} {x : Tg} (h : x.Form k) : x.Mays := ⟨h.may, h.vsmay.1, h.mays⟩
theorem fac_mays (t : Int) (s : Nat) : (Tg.fac t s).Mays := ⟨by show T.zero.v.may = true; rw [T.zero_v, zero_may], by simp [Tg.fac], by simp [Tg.fac]⟩
def WhatP (x : Tg) (W : World) (e : Ending) (w' : World) : Prop := ∃ y : Tg, y.pl = x.pl ∧ e = .returned (.tuple #[y.val, .int .i64 0]) ∧ y.St w' W.heap.size ∧ Fr No W w'
set_option maxRecDepth 100000 in
set_option maxHeartbeats 8000000 in
theorem What_any {m : Gm} {lo : Nat} {W : World} (h : m.Ok lo W) {r : Int} {x : Nat × Tg} (hg : m.get r = some x) (hm : x.2.Mays) :
 Calls Tryz.prog 89 #[.pointer (some ⟨m.wb, 0, none⟩), .int .i64 r] W (WhatP x.2 W) := by
 have hf0 := (Fr.refl No W).alloc (.cells #[.int .u8 0, .int .i64 0, .int .u8 0, .int .i64 0, .string ⟨#[]⟩, .slice none 0 0, .int .i64 0, .slice none 0 0, .int .i64 0, .int .i64 0, .int .i64 0, .int .i64 0, .int .u8 0, .bool false, .slice none 0 0, .slice none 0 0] 138)
 have h0 := h.no hf0
 have hN := gnone_w h0
 have hI := gIs_w h0 r
 have hl := gook_thing h0 r
 have hx := Gm.get_mem hg
 have hbx := h0.box _ hx
 have c0 := gmap_cell h0
 have q0 := h0.blk.lt
 have hi1 : (m.get r).isSome = true := by rw [hg]; rfl
 rw [hi1] at hI
 rw [hg] at hl
 have hb4 := Blk.new W 138 #[.int .u8 0, .int .i64 0, .int .u8 0, .int .i64 0, .string ⟨#[]⟩, .slice none 0 0, .int .i64 0, .slice none 0 0, .int .i64 0, .int .i64 0, .int .i64 0, .int .i64 0, .int .u8 0, .bool false, .slice none 0 0, .slice none 0 0]
 have hst := (h0.st _ hx).inn
 obtain ⟨gx, kind, home, ⟨k1, n1, s1, A1, cap1, l1, r1⟩, VA, vc, vs, n2, lost, ofr, byr, set, full, CA2, cc2, code, NA, nc, names⟩ := x
 have hO := fun W' (f : Fr No (W.alloc (.cells #[.int .u8 0, .int .i64 0, .int .u8 0, .int .i64 0, .string ⟨#[]⟩, .slice none 0 0, .int .i64 0, .slice none 0 0, .int .i64 0, .int .i64 0, .int .i64 0, .int .i64 0, .int .u8 0, .bool false, .slice none 0 0, .slice none 0 0] 138)) W') => ownWhat_any ⟨kind, home, T.mk k1 n1 s1 A1 cap1 l1 r1, VA, vc, vs, n2, lost, ofr, byr, set, full, CA2, cc2, code, NA, nc, names⟩ W' lo (W.alloc (.cells #[.int .u8 0, .int .i64 0, .int .u8 0, .int .i64 0, .string ⟨#[]⟩, .slice none 0 0, .int .i64 0, .slice none 0 0, .int .i64 0, .int .i64 0, .int .i64 0, .int .i64 0, .int .u8 0, .bool false, .slice none 0 0, .slice none 0 0] 138)).heap.size (hst.no f (Nat.le_refl _)) f.size hm.v hm.vs hm.nm
 have hval : (Tg.val ⟨kind, home, T.mk k1 n1 s1 A1 cap1 l1 r1, VA, vc, vs, n2, lost, ofr, byr, set, full, CA2, cc2, code, NA, nc, names⟩) = .agg #[.int .u8 kind, .int .i64 home, .int .u8 k1, .int .i64 n1, .string s1, .slice A1 l1.length cap1, .int .i64 r1, .slice VA vs.length vc, .int .i64 n2, .int .i64 lost, .int .i64 ofr, .int .i64 byr, .int .u8 set, .bool full, .slice CA2 code.length cc2, .slice NA names.length nc] := rfl
 rw [hval] at hO
 simp only [Option.map_some] at hl
 have hbx' : Blk (W.alloc (.cells #[.int .u8 0, .int .i64 0, .int .u8 0, .int .i64 0, .string ⟨#[]⟩, .slice none 0 0, .int .i64 0, .slice none 0 0, .int .i64 0, .int .i64 0, .int .i64 0, .int .i64 0, .int .u8 0, .bool false, .slice none 0 0, .slice none 0 0] 138)) gx 138 #[.int .u8 kind, .int .i64 home, .int .u8 k1, .int .i64 n1, .string s1, .slice A1 l1.length cap1, .int .i64 r1, .slice VA vs.length vc, .int .i64 n2, .int .i64 lost, .int .i64 ofr, .int .i64 byr, .int .u8 set, .bool full, .slice CA2 code.length cc2, .slice NA names.length nc] := hbx
 obtain ⟨d0, d1, d2, d3, d4, d5, d6, d7, d8, d9, d10, d11, d12, d13, d14, d15⟩ := hbx'.cells16
 have dq := hbx'.lt
 have HN := hide hN
 have HI := hide hI
 have HO := hide hO
 have HF0 := hide hf0
 have HB4 := hide hb4
 clear hN hI hO hf0 hb4 h0 hx hbx hbx' hi1 h hg hst hm hval
 go_enter Tryz.func89, Tryz.ntmps89
 go_wp2_with fail
 generalize hW0 : World.alloc W _ = W0 at *
 refine HN.out.mono ?_
 rintro e w' ⟨rfl, rfl⟩
 go_wp2_with fail
 refine HI.out.mono ?_
 rintro e w' ⟨rfl, rfl⟩
 go_wp2_with fail
 refine (HO.out w' (Fr.refl No w')).mono ?_
 rintro e w1 ⟨⟨ykind, yhome, ⟨yk1, yn1, ys1, yA1, ycap1, yl1, yr1⟩, yVA, yvc, yvs, yn2, ylost, yofr, ybyr, yset, yfull, yCA2, ycc2, ycode, yNA, ync, ynames⟩, rfl, hnum, hv1, hv2, hv3, hv4, hst, f1⟩
 have hyp : Tg.pl ⟨ykind, yhome, T.mk yk1 yn1 ys1 yA1 ycap1 yl1 yr1, yVA, yvc, yvs, yn2, ylost, yofr, ybyr, yset, yfull, yCA2, ycc2, ycode, yNA, ync, ynames⟩ = Tg.pl ⟨kind, home, T.mk k1 n1 s1 A1 cap1 l1 r1, VA, vc, vs, n2, lost, ofr, byr, set, full, CA2, cc2, code, NA, nc, names⟩ := by
  simp only at hnum hv1 hv2 hv3 hv4
  obtain ⟨a1, a2, a3, a4, a5, a6, a7, a8⟩ := hnum
  unfold Tg.pl
  simp only [TgV.mk.injEq]
  exact ⟨a1, a2, hv1, hv2, a3, a4, a5, a6, a7, a8, hv3, hv4⟩
 have hval : Tg.val ⟨ykind, yhome, T.mk yk1 yn1 ys1 yA1 ycap1 yl1 yr1, yVA, yvc, yvs, yn2, ylost, yofr, ybyr, yset, yfull, yCA2, ycc2, ycode, yNA, ync, ynames⟩ = .agg #[.int .u8 ykind, .int .i64 yhome, .int .u8 yk1, .int .i64 yn1, .string ys1, .slice yA1 yl1.length ycap1, .int .i64 yr1, .slice yVA yvs.length yvc, .int .i64 yn2, .int .i64 ylost, .int .i64 yofr, .int .i64 ybyr, .int .u8 yset, .bool yfull, .slice yCA2 ycode.length ycc2, .slice yNA ynames.length ync] := rfl
 rw [hval]
 have hb := HB4.out.fr f1 fun h => h
 obtain ⟨e0, e1, e2, e3, e4, e5, e6, e7, e8, e9, e10, e11, e12, e13, e14, e15⟩ := hb.cells16
 have ez := hb.frozen
 have eq_ := hb.lt
 have HYP := hide hyp
 have HST := hide hst
 have HF1 := hide f1
 clear hb hyp hst f1 hnum hv1 hv2 hv3 hv4 d0 d1 d2 d3 d4 d5 d6 d7 d8 d9 d10 d11 d12 d13 d14 d15 dq hval c0 q0 hl
 go_wp2_with fail
 refine bodyPost_ret (v := .tuple #[.agg #[.int .u8 ykind, .int .i64 yhome, .int .u8 yk1, .int .i64 yn1, .string ys1, .slice yA1 yl1.length ycap1, .int .i64 yr1, .slice yVA yvs.length yvc, .int .i64 yn2, .int .i64 ylost, .int .i64 yofr, .int .i64 ybyr, .int .u8 yset, .bool yfull, .slice yCA2 ycode.length ycc2, .slice yNA ynames.length ync], .int .i64 0]) (by simp [results, Tryz.results89, go_sem, *]) rfl ?_
 generalize hWe : World.setCell _ _ _ = We
 have fe : Fr (fun i => i = W.heap.size) w1 We := by
  rw [← hWe]
  repeat (first | with_reducible exact Fr.refl _ w1 | with_reducible refine Fr.set ?_ (by simp) _)
 have hs0 : W.heap.size + 1 ≤ w'.heap.size := by rw [← hW0]; simp
 have hbl : ∀ b, (Tg.Has ⟨ykind, yhome, T.mk yk1 yn1 ys1 yA1 ycap1 yl1 yr1, yVA, yvc, yvs, yn2, ylost, yofr, ybyr, yset, yfull, yCA2, ycc2, ycode, yNA, ync, ynames⟩ b) → w'.heap.size ≤ b := fun b hb => (HST.out.inn.has hb).1
 refine ⟨⟨ykind, yhome, T.mk yk1 yn1 ys1 yA1 ycap1 yl1 yr1, yVA, yvc, yvs, yn2, ylost, yofr, ybyr, yset, yfull, yCA2, ycc2, ycode, yNA, ync, ynames⟩, HYP.out, rfl, (HST.out.fr fe fun b hb h => ?_).more (by omega), (HF0.out.trans HF1.out).trans' fe fun i hi h => by omega⟩
 have h' : b = W.heap.size := h
 have := hbl b hb
 omega
theorem what_of {m : Gm} {lo : Nat} (hm : ∀ x ∈ m.th, x.2.2.Mays) : WhatOk m lo := by
 intro r x W hg h
 refine (What_any h hg (hm _ (Gm.get_mem hg))).mono ?_
 rintro e w' ⟨y, hy, rfl, -, f⟩
 have a1 := congrArg TgV.kind hy
 have a2 := congrArg TgV.ofr hy
 have a3 := congrArg TgV.byr hy
 have a4 := congrArg TgV.set hy
 have a5 := congrArg TgV.full hy
 have a6 := congrArg TgV.home hy
 exact ⟨y, a1, a2, a3, a4, a5, a6, rfl, f⟩
end Go.Proofs.YtlejelbefmkakaaGreat

namespace Go.Proofs.YtlejelbefmkakaaGreat
open Go.RowKit
structure FW (m : Gm) (lo n : Nat) (W : World) : Prop where
 ok : m.Ok lo W
 lo1 : lo ≤ W.heap.size
 fs : m.Fs
 mays : ∀ x ∈ m.th, x.2.2.Mays
 bnd : m.last ≤ 600000 + (n : Int) ∧ m.th.length ≤ 600000 + n ∧ m.fac.length ≤ 600000 + n
section
variable {m m' : Gm} {lo n : Nat} {W W' : World} {r q t : Int} {a b c s : Nat}
theorem FW.no (h : FW m lo n W) (f : Fr No W W') : FW m lo n W' := ⟨h.ok.no f, Nat.le_trans h.lo1 f.size, h.fs, h.mays, h.bnd⟩
theorem FW.more (h : FW m lo n W) : FW m lo (n + 1) W := ⟨h.ok, h.lo1, h.fs, h.mays, by have := h.bnd; omega⟩
theorem FW.room (h : FW m lo n W) (hn : n ≤ 100000) : m.Room := by
 have hb := h.bnd
 have hl := h.fs.last
 exact ⟨by omega, fun y hy => (h.fs.num y hy).2, by omega, by omega⟩
theorem FW.what (h : FW m lo n W) : WhatOk m lo := what_of h.mays
theorem FW.rng (h : FW m lo n W) {x : Nat × Tg} (hg : m.get r = some x) : -9223372036854775808 ≤ r ∧ r ≤ 9223372036854775807 := by
 have h1 := h.fs.num _ (Gm.get_mem hg)
 have h2 := h.fs.last
 simp only at h1
 omega
theorem Gm.Ext.root (h : m.Ext m') {x : Nat × Tg} (hg : m.get r = some x) : m'.root r = m.root r := by
 unfold Gm.root
 rw [h.2.2 r x hg, hg]
def NarR (m : Gm) (lo n : Nat) (t : Int) (c : Nat) (W : World) (e : Ending) (w' : World) : Prop :=
 ∃ (q : Int) (m' : Gm) (y : Nat × Tg), e = .returned (.tuple #[.int .i64 q, .int .i64 0]) ∧ m.Ext m' ∧ FW m' lo (n + 1) w' ∧ m'.get q = some y ∧ m'.root q = t ∧ m'.Abl q c ∧ Fr (fun i => lo ≤ i) W w' ∧ Fr m.B W w'
end
end Go.Proofs.YtlejelbefmkakaaGreat

namespace Go.Proofs.YtlejelbefmkakaaGreat
open Go.RowKit
def allS (S : List Nat) : Nat := S.foldl (fun a b => a &&& b) 63
section
variable {m m' : Gm} {lo n : Nat} {W W' : World} {r q t : Int} {a b c s : Nat}
end
end Go.Proofs.YtlejelbefmkakaaGreat

/- Texts joined: Wo18, X4, B3, M, Wo19, Wo21. -/
import Derived.Test.YtnddfiohofnbaaaJn3
import Derived.Test.YtnddfiohofnbaaaJn13
import Derived.Test.YtnddfiohofnbaaaJn24
import Derived.Deep.RegionHeld3
import Derived.Deep.AppendLies
import Derived.Deep.RegionLaw
/- seal.Open, of a box and an opener. -/
namespace Go.Proofs.Ytnddfiohofnbaaa
open Go.RowKit

/-- A reference as a value. -/
def tRef (b : Int) : T := .mk 4 0 ⟨#[]⟩ none 0 [] b

theorem tRef_val (b : Int) : (tRef b).val = .agg #[.int .u8 4, .int .i64 0, .string ⟨#[]⟩, .slice none 0 0, .int .i64 b] := rfl
theorem tRef_v (b : Int) : (tRef b).v = .mk 4 0 ⟨#[]⟩ [] b := by rw [tRef, T.v_mk]; rfl
theorem tRef_in {b : Int} (h0 : 1 ≤ b) (h1 : b ≤ 9223372036854775807) (w : World) (lo hi : Nat) : (tRef b).In w lo hi :=
  T.in_mk.2 ⟨⟨by decide, by decide, by decide, by decide, by decide, by decide, Nat.le_refl _, by omega, h1⟩, fun h => absurd rfl h, by simp⟩
theorem tRef_may {b : Int} (h0 : 1 ≤ b) : (tRef b).v.may = true := by
  rw [tRef_v]
  simp [V.may, V.fits, V.ok_mk, V.size_mk, V.dep_mk, fok]
  omega
theorem tRef_refs {b : Int} (h0 : 1 ≤ b) : (tRef b).v.refs = [b] := by
  unfold V.refs
  rw [if_pos (tRef_may h0), tRef_v, V.walk_mk]
  simp [walkL, refsOf]

theorem get_range {m : Wm} {r : Int} {x : Nat × Th} (h : m.get r = some x) : 1 ≤ r ∧ r ≤ (m.th.length : Int) := by
  have := Wm.get_is (m := m) (r := r)
  rw [h] at this
  simpa using this.symm

/-- What Open answers. -/
def OpenRes (xb xo : Th) (W : World) (e : Ending) (w' : World) : Prop :=
  (xb.ofr = xo.ofr → ∃ t' : T, e = .returned (.tuple #[t'.val, .int .i64 0]) ∧ t'.v = xb.v.v ∧ t'.Sh w' W.heap.size w'.heap.size) ∧
  (xb.ofr ≠ xo.ofr → e = .returned (.tuple #[T.zero.val, .int .i64 91])) ∧ Fr No W w'

set_option maxRecDepth 100000 in
set_option maxHeartbeats 8000000 in
theorem Open_ok {m : Wm} {lo : Nat} {W : World} (h : m.Ok lo W) {o b : Int} {xo xb : Nat × Th} (hgo : m.get o = some xo) (hko : xo.2.kind = 6) (hmo : xo.2.v.v.may = true) (hgb : m.get b = some xb) (hkb : xb.2.kind = 7) (hmb : xb.2.v.v.may = true) :
    Calls Try.prog 20 #[.pointer (some ⟨m.wb, 0, none⟩), .int .i64 o, (tRef b).val] W (OpenRes xb.2 xo.2 W) := by
  obtain ⟨hb1, hb2⟩ := get_range hgb
  have hln := h.len
  have hin := fun W' lo' hi => tRef_in (b := b) hb1 (by omega) W' lo' hi
  have hM := fun W' (_ : Fr No W W') => may_any (tRef b) W' 0 W'.heap.size (hin _ _ _) (Nat.le_refl _)
  have hR := fun W' (f : Fr No W W') => srefs_yes (h.no f) (tRef b) W'.heap.size (hin _ _ _) (Nat.le_refl _) (by rw [tRef_refs hb1]; simp) (by rw [tRef_refs hb1]; simp [Wm.are, hgb])
  have hI := fun W' (f : Fr No W W') => Is_w (h.no f) o
  have hKo := fun W' (f : Fr No W W') => Kind_w (h.no f) o
  have hKb := fun W' (f : Fr No W W') => Kind_w (h.no f) b
  have hWb := fun W' (f : Fr No W W') => What_ok (h.no f) hgb hmb
  have hWo := fun W' (f : Fr No W W') => What_ok (h.no f) hgo hmo
  have e1 : (m.get o).isSome = true := by rw [hgo]; rfl
  have e2 : m.kind o = 6 := by unfold Wm.kind; rw [hgo, ← hko]; rfl
  have e3 : m.kind b = 7 := by unfold Wm.kind; rw [hgb, ← hkb]; rfl
  rw [e1] at hI
  rw [e2] at hKo
  rw [e3] at hKb
  rw [tRef_may hb1] at hM
  rw [tRef_val] at hM hR ⊢
  unfold WhatRes at hWb hWo
  obtain ⟨gb, ⟨kb, hb, vb, nb, lb, ob, yb, sb, fb⟩⟩ := xb
  obtain ⟨go, ⟨ko, ho, vo, no, lo', oo, yo, so, fo⟩⟩ := xo
  simp only at hWb hWo
  unfold OpenRes
  simp only
  have HTh := hide fun W' (f : Fr No W W') => there_w (h.no f)
  have HM := hide hM
  have HR := hide hR
  have HI := hide hI
  have HKo := hide hKo
  have HKb := hide hKb
  have HWb := hide hWb
  have HWo := hide hWo
  have h5 := (Blk.new W 37 #[.int .u8 4, .int .i64 0, .string ⟨#[]⟩, .slice none 0 0, .int .i64 b]).alloc (.cells #[.int .u8 0, .int .i64 0, .string ⟨#[]⟩, .slice none 0 0, .int .i64 0] 37)
  have h6 := Blk.new' (W.alloc (.cells #[.int .u8 4, .int .i64 0, .string ⟨#[]⟩, .slice none 0 0, .int .i64 b] 37)) 37 #[.int .u8 0, .int .i64 0, .string ⟨#[]⟩, .slice none 0 0, .int .i64 0] (g := W.heap.size + 1) (by simp)
  have hf0 := ((Fr.refl No W).alloc (.cells #[.int .u8 4, .int .i64 0, .string ⟨#[]⟩, .slice none 0 0, .int .i64 b] 37)).alloc (.cells #[.int .u8 0, .int .i64 0, .string ⟨#[]⟩, .slice none 0 0, .int .i64 0] 37)
  obtain ⟨e0, e1', e2', e3', e4, ef⟩ := h5.cells5
  have eq_ := h5.lt
  have HB := hide h5
  have HB6 := hide h6
  have HF := hide hf0
  clear hin hM hR hI hKo hKb hWb hWo e1 e2 e3 h5 h6 hf0 h hgo hko hmo hgb hkb hmb hb1 hb2 hln
  go_enter Try.func20, Try.ntmps20
  go_wp2_with fail
  generalize hW0 : World.alloc (World.alloc W _) _ = W0 at *
  refine (HTh.out W0 HF.out).mono ?_
  rintro e w' ⟨rfl, rfl⟩
  go_wp2_with fail
  refine (HM.out w' HF.out).mono ?_
  rintro e w1 ⟨rfl, ff⟩
  have hb' := HB.out.fr ff fun h => h
  replace HB6 := hide (HB6.out.fr ff fun h => h)
  replace HB := hide hb'
  have HF1 := hide (HF.out.trans ff)
  have hs0 : W.heap.size + 2 ≤ w'.heap.size := by rw [← hW0]; simp
  have HS0 := hide (Nat.le_trans hs0 ff.size)
  clear e0 e1' e2' e3' e4 ef eq_ ff hs0 hW0 HF
  obtain ⟨e0, e1, e2, e3, e4, ef⟩ := hb'.cells5
  have eq_ := hb'.lt
  clear hb'
  go_wp2_with fail
  refine (HI.out w1 HF1.out).mono ?_
  rintro e w2 ⟨rfl, rfl⟩
  go_wp2_with fail
  refine (HR.out w2 HF1.out).mono ?_
  rintro e w3 ⟨rfl, ff⟩
  have hb' := HB.out.fr ff fun h => h
  replace HB6 := hide (HB6.out.fr ff fun h => h)
  replace HB := hide hb'
  replace HF1 := hide (HF1.out.trans ff)
  replace HS0 := hide (Nat.le_trans HS0.out ff.size)
  clear e0 e1 e2 e3 e4 ef eq_ ff
  obtain ⟨e0, e1, e2, e3, e4, ef⟩ := hb'.cells5
  have eq_ := hb'.lt
  clear hb'
  go_wp2_with fail
  refine (HKo.out w3 HF1.out).mono ?_
  rintro e w4 ⟨rfl, rfl⟩
  go_wp2_with fail
  refine (HKb.out w4 HF1.out).mono ?_
  rintro e w5 ⟨rfl, rfl⟩
  go_wp2_with fail
  refine (HWb.out w5 HF1.out).mono ?_
  rintro e w6 ⟨⟨k1, n1, s1, A1, c1, l1, r1⟩, rfl, hv1, hsh1, f6⟩
  have hval1 : (Th.val ⟨kb, hb, T.mk k1 n1 s1 A1 c1 l1 r1, nb, lb, ob, yb, sb, fb⟩) = .agg (th16 kb hb k1 n1 s1 A1 l1.length c1 r1 nb lb ob yb sb fb) := rfl
  rw [hval1]
  unfold th16
  have fx := f6.alloc (.cells (th16 kb hb k1 n1 s1 A1 l1.length c1 r1 nb lb ob yb sb fb) 83)
  have b9 := Blk.new w6 83 (th16 kb hb k1 n1 s1 A1 l1.length c1 r1 nb lb ob yb sb fb)
  unfold th16 at fx b9
  have HSZ6 := hide f6.size
  have HSH1 := hide (hsh1.no ((Fr.refl No w6).alloc (.cells (th16 kb hb k1 n1 s1 A1 l1.length c1 r1 nb lb ob yb sb fb) 83)))
  unfold th16 at HSH1
  have HV1 := hide hv1
  replace HB6 := hide (HB6.out.fr fx fun h => h)
  have HB9 := hide b9
  have HF6 := hide (HF1.out.trans fx)
  have HS6 := hide (Nat.le_trans HS0.out fx.size)
  have HZ5 := hide HF1.out.size
  clear e0 e1 e2 e3 e4 ef eq_ hval1 hv1 hsh1 f6 fx b9 HB HF1 HM HR HI HKo HKb HTh HWb
  go_wp2_with fail
  generalize hg9 : w6.heap.size = g9 at *
  have HG9 : Hid (g9 ≤ (w6.alloc (.cells #[.int .u8 kb, .int .i64 hb, .int .u8 k1, .int .i64 n1, .string s1, .slice A1 l1.length c1, .int .i64 r1, .slice none 0 0, .int .i64 nb, .int .i64 lb, .int .i64 ob, .int .i64 yb, .int .u8 sb, .bool fb, .slice none 0 0, .slice none 0 0] 83)).heap.size) := hide (by simp; omega)
  generalize World.alloc w6 _ = w7 at *
  refine (HWo.out w7 HF6.out).mono ?_
  rintro e w8 ⟨⟨k2, n2, s2, A2, c2, l2, r2⟩, rfl, hv2, hsh2, f8⟩
  have hval2 : (Th.val ⟨ko, ho, T.mk k2 n2 s2 A2 c2 l2 r2, no, lo', oo, yo, so, fo⟩) = .agg (th16 ko ho k2 n2 s2 A2 l2.length c2 r2 no lo' oo yo so fo) := rfl
  rw [hval2]
  unfold th16
  have fx := f8.alloc (.cells (th16 ko ho k2 n2 s2 A2 l2.length c2 r2 no lo' oo yo so fo) 83)
  have b11 := Blk.new w8 83 (th16 ko ho k2 n2 s2 A2 l2.length c2 r2 no lo' oo yo so fo)
  unfold th16 at fx b11
  have b9 := HB9.out.fr fx fun h => h
  have b6 := HB6.out.fr fx fun h => h
  have HSH2 := hide (HSH1.out.no fx)
  have HF8 := hide (HF6.out.trans fx)
  have HF86 := hide fx
  have HS8 := hide (Nat.le_trans HS6.out fx.size)
  obtain ⟨d0, d1, d2, d3, d4, d5, d6, d7, d8, d9, d10, d11, d12, d13, d14, d15⟩ := b9.cells16
  have dq := b9.lt
  have p10 := b11.cell 10
  have pq := b11.lt
  obtain ⟨z0, z1, z2, z3, z4, zf⟩ := b6.cells5
  have zq := b6.lt
  simp only [List.getElem?_toArray, List.getElem?_cons_zero, List.getElem?_cons_succ] at p10
  clear hval2 hv2 hsh2 f8 fx b11 b9 b6 HB6 HB9 HF6 HWo
  by_cases hob : ob = oo
  · have hne : (ob != oo) = false := by simp [hob]
    go_wp2_with fail
    refine bodyPost_ret (v := .tuple #[.agg #[.int .u8 k1, .int .i64 n1, .string s1, .slice A1 l1.length c1, .int .i64 r1], .int .i64 0]) (by simp [results, Try.results20, go_sem, *]) rfl ?_
    generalize World.alloc w8 _ = w9 at *
    generalize hWe : World.setCell _ _ _ = We
    have fe : Fr (fun i => i = W.heap.size + 1) w9 We := by
      rw [← hWe]
      repeat (first | with_reducible exact Fr.refl _ w9 | with_reducible refine Fr.set ?_ (by simp) _)
    have hfr : Fr No W We := HF8.out.trans' fe fun i hi h => by omega
    have hbl : ∀ b ∈ (T.mk k1 n1 s1 A1 c1 l1 r1).blocks, W.heap.size + 2 ≤ b := fun b hb => by have := (T.In.blocks _ HSH2.out.inn b hb).1; have := HS0.out; omega
    have hsz := HZ5.out
    have hup := fe.size
    refine ⟨fun _ => ⟨T.mk k1 n1 s1 A1 c1 l1 r1, rfl, HV1.out, (HSH2.out.fr fe fun b hb h => by have := hbl b hb; omega).more (by omega) ?_⟩, fun h => absurd hob h, hfr⟩
    have h8 := HF86.out.size
    have h9 := HG9.out
    omega
  · have hne : (ob != oo) = true := by simp [hob]
    go_wp2_with fail
    refine bodyPost_ret (v := .tuple #[.agg #[.int .u8 0, .int .i64 0, .string ⟨#[]⟩, .slice none 0 0, .int .i64 0], .int .i64 91]) (by simp [results, Try.results20, go_sem, *]) rfl ?_
    generalize World.alloc w8 _ = w9 at *
    generalize hWe : World.setCell _ _ _ = We
    have fe : Fr (fun i => i = W.heap.size + 1) w9 We := by
      rw [← hWe]
      repeat (first | with_reducible exact Fr.refl _ w9 | with_reducible refine Fr.set ?_ (by simp) _)
    have hfr : Fr No W We := HF8.out.trans' fe fun i hi h => by omega
    exact ⟨fun h => absurd h hob, fun _ => rfl, hfr⟩

end Go.Proofs.Ytnddfiohofnbaaa


namespace Go.Proofs.Ytnddfiohofnbaaa
open Go.RowKit

/-- What a pair's or a row's mark looks like, out of what its parts' do. -/
def listMk (ps : List (Value → Prop)) (m : Value) : Prop :=
  match ps with
  | [p, q] => ∃ x y, m = .iface 181 (.agg #[x, y]) ∧ p x ∧ q y
  | _ => ∃ A len cap, m = .iface 184 (.agg #[.slice A len cap])

def mkOf (k n : Int) (s : ByteArray) (ps : List (Value → Prop)) (r : Int) (m : Value) : Prop :=
  if k = 1 then m = .iface 177 (.int .i64 n)
  else if k = 2 then m = .iface 178 (.string s)
  else if k = 4 then m = .iface 179 (.int .i64 r)
  else if k = 3 then listMk ps m
  else m = .iface 186 (.agg #[])

/-- What the mark of a value looks like. -/
def IsMk : V → Value → Prop
  | .mk k n s l r => mkOf k n s (l.map IsMk) r
termination_by v => v

theorem IsMk_mk (k n : Int) (s : ByteArray) (l : List V) (r : Int) : IsMk (.mk k n s l r) = mkOf k n s (l.map IsMk) r := by rw [IsMk]

theorem listMk_row {ps : List (Value → Prop)} {m : Value} (h : ps.length ≠ 2) : listMk ps m = ∃ A len cap, m = .iface 184 (.agg #[.slice A len cap]) := by
  match ps, h with
  | [], _ => rfl
  | [p], _ => rfl
  | [p, q], h => simp at h
  | p :: q :: x :: ps, _ => rfl

theorem mkOf.iface {k n : Int} {s : ByteArray} {ps : List (Value → Prop)} {r : Int} {m : Value} (h : mkOf k n s ps r m) : ∃ ty x, m = .iface ty x := by
  unfold mkOf at h
  by_cases h1 : k = 1
  · rw [if_pos h1] at h; exact ⟨_, _, h⟩
  rw [if_neg h1] at h
  by_cases h2 : k = 2
  · rw [if_pos h2] at h; exact ⟨_, _, h⟩
  rw [if_neg h2] at h
  by_cases h4 : k = 4
  · rw [if_pos h4] at h; exact ⟨_, _, h⟩
  rw [if_neg h4] at h
  by_cases h3 : k = 3
  · rw [if_pos h3] at h
    by_cases hl : ps.length = 2
    · obtain ⟨p, q, rfl⟩ : ∃ p q, ps = [p, q] := by
        match ps, hl with
        | [p, q], _ => exact ⟨p, q, rfl⟩
      obtain ⟨x, y, h, _⟩ := h; exact ⟨_, _, h⟩
    · rw [listMk_row hl] at h
      obtain ⟨A, le, ca, h⟩ := h; exact ⟨_, _, h⟩
  · rw [if_neg h3] at h; exact ⟨_, _, h⟩

theorem IsMk.iface {v : V} {m : Value} (h : IsMk v m) : ∃ ty x, m = .iface ty x := by
  cases v with
  | mk k n s l r => rw [IsMk_mk] at h; exact mkOf.iface h

def MarkP (v : V) (w : World) (e : Ending) (w' : World) : Prop := ∃ m, e = .returned m ∧ IsMk v m ∧ Fr No w w'

theorem Fr.grownNo {a w : World} (h : Fr No a w) : a.grownBy w none := ⟨h.os, h.tape, h.output, h.size, fun k hk _ => h.block k hk (fun h => h)⟩

theorem owns_no {a w : World} {base : Nat} {e : TypeId} {size : Nat} {v : Value} {n : Nat} {xs : List Value} (h : a.ownsRow base e size v n xs) (hf : Fr No a w) : w.ownsRow base e size v n xs :=
  h.kept hf.grownNo (by cases v.ownBlock <;> simp)

theorem mark_after {W0 w2 : World} {g base j : Nat} {v m : Value} {xs : List Value} (hb : Blk W0 g 184 #[v]) (ho : W0.ownsRow base 109 1 v j xs) (fr : Fr No W0.drew w2) :
    (w2.alloc (.cells #[m] 109)).ownsRow base 109 1 v j xs ∧ (w2.alloc (.cells #[m] 109)).cell? ⟨g, 0, none⟩ = some v ∧ (w2.alloc (.cells #[m] 109)).frozen? ⟨g, 0, none⟩ = false ∧ w2.cell? ⟨g, 0, none⟩ = some v ∧ W0.heap.size ≤ w2.heap.size ∧ g < w2.heap.size := by
  have h1 : Blk w2 g 184 #[v] := Blk.fr (a := W0.drew) hb fr (fun h => h)
  have h2 := h1.alloc (.cells #[m] 109)
  exact ⟨(owns_no (a := W0.drew) ho fr).alloc _, h2.cell 0, h2.frozen 0, h1.cell 0, fr.size, h1.lt⟩

theorem mark_grown {W w3 : World} {g : Nat} {v : Value} (hg : W.grownBy w3 v.ownBlock) (hc : W.cell? ⟨g, 0, none⟩ = some v) (hf : W.frozen? ⟨g, 0, none⟩ = false) (hlt : g < W.heap.size) (hne : some g ≠ v.ownBlock) :
    w3.cell? ⟨g, 0, none⟩ = some v ∧ w3.frozen? ⟨g, 0, none⟩ = false :=
  ⟨(hg.cell_far ⟨g, 0, none⟩ hlt hne).trans hc, (hg.frozen_far ⟨g, 0, none⟩ hlt hne).trans hf⟩

structure MarkInv (w : World) (X : Array Value) (j : Nat) (wr : World) : Prop where
  fr : Fr No w wr
  big : w.heap.size + 2 ≤ wr.heap.size
  row : ∃ v xs, Blk wr (w.heap.size + 1) 184 #[v] ∧ wr.ownsRow (w.heap.size + 2) 109 1 v j xs

theorem mark_info : (Try.prog.info? 109).map (fun i => (i.zero, i.size, i.bytes)) = some (some .nilIface, 1, 16) := by kernel_rfl

theorem at2 {α : Type} {l : List α} (h : l.length = 2) : ∃ a b, l = [a, b] := by
  match l, h with
  | [a, b], _ => exact ⟨a, b, rfl⟩

set_option maxRecDepth 100000 in
set_option maxHeartbeats 2000000 in
theorem mark_any (t : T) : ∀ (w : World) (lo hi : Nat), t.In w lo hi → hi ≤ w.heap.size → Calls Try.prog 114 #[t.val] w (MarkP t.v w) := by
  induction t using T.ind with
  | h k n s A cap l r ih =>
    intro w lo hi ht hh
    rw [T.val_mk]
    have fit := (T.in_mk.1 ht).1
    have hlen := fit.len1
    by_cases h3 : k = 3
    · subst h3
      by_cases hl2 : l.length = 2
      · obtain ⟨x1, x2, rfl⟩ := at2 hl2
        obtain ⟨b, o, k1, n1, s1, A1, cap1, l1, r1, rfl, hb0, hb1, rfl, hin, e0, e1, e2, e3, e4⟩ := T.elem ht (j := 0) (by simp)
        obtain ⟨b', o', k2, n2, s2, A2, cap2, l2, r2, hbb, hb0', hb1', rfl, hin', f0, f1, f2, f3, f4⟩ := T.elem ht (j := 1) (by simp)
        simp only [Option.some.injEq, Addr.mk.injEq, and_true] at hbb
        obtain ⟨rfl, rfl⟩ := hbb
        have IH1 := ih _ (by simp : T.mk k1 n1 s1 A1 cap1 l1 r1 ∈ _)
        have IH2 := ih _ (by simp : T.mk k2 n2 s2 A2 cap2 l2 r2 ∈ _)
        rw [T.val_mk] at IH1 IH2
        simp only [Nat.zero_mul, Nat.add_zero, Nat.one_mul] at e0 e1 e2 e3 e4 f0 f1 f2 f3 f4
        have hbw : b < w.heap.size := by omega
        have hbw' : b ≤ w.heap.size := by omega
        clear ih hl2
        go_enter Try.func114, Try.ntmps114
        go_wp2_with fail
        have frw := (Fr.refl No w).alloc (.cells #[.int .u8 3, .int .i64 n, .string s, .slice (some ⟨b, o, none⟩) 2 cap, .int .i64 r] 37)
        obtain ⟨c0, c1, c2, c3, c4, cf⟩ := (Blk.new w 37 #[.int .u8 3, .int .i64 n, .string s, .slice (some ⟨b, o, none⟩) 2 cap, .int .i64 r]).cells5
        have hin1 := hin.no frw hh
        have hin2 := hin'.no frw hh
        rw [← frw.cells _ _ hbw] at e0 e1 e2 e3 e4 f0 f1 f2 f3 f4
        have hsz0 : (w.alloc (.cells #[.int .u8 3, .int .i64 n, .string s, .slice (some ⟨b, o, none⟩) 2 cap, .int .i64 r] 37)).heap.size = w.heap.size + 1 := by simp
        generalize w.alloc (.cells #[.int .u8 3, .int .i64 n, .string s, .slice (some ⟨b, o, none⟩) 2 cap, .int .i64 r] 37) = W0 at *
        have hb2 : b < W0.heap.size := by omega
        have hb3 : w.heap.size < W0.heap.size := by omega
        have HF := hide frw
        have HZ := hide hsz0
        clear frw hsz0 hin hin' ht
        have hh0 : hi ≤ W0.heap.size := by have := HZ.out; omega
        go_region_held3 (fun w' => (∀ c i, c < W0.heap.size → w'.cell? ⟨c, i, none⟩ = W0.cell? ⟨c, i, none⟩) ∧ Fr No W0 w')
          (first | exact ⟨fun _ _ _ => rfl, Fr.drew (Fr.refl No W0)⟩ | (have hq : Fr No W0 _ := (‹_ ∧ Fr No W0 _›).2.trans ‹Fr No _ _›; exact ⟨hq.cells, hq⟩))
          (first
            | (go_at_call 114; have hs0 := (‹_ ∧ Fr No W0 _›).2; ((with_reducible refine (IH1 _ lo hi ?_ ?_).mono ?_); (exact hin1.no hs0 hh0); (exact Nat.le_trans hh0 hs0.size); rintro e w2 ⟨m1, rfl, hm1, fr1⟩; obtain ⟨ty1, y1, rfl⟩ := hm1.iface))
            | (go_at_call 114; have hs0 := (‹_ ∧ Fr No W0 _›).2; ((with_reducible refine (IH2 _ lo hi ?_ ?_).mono ?_); (exact hin2.no hs0 hh0); (exact Nat.le_trans hh0 hs0.size); rintro e w3 ⟨m2, rfl, hm2, fr2⟩; obtain ⟨ty2, y2, rfl⟩ := hm2.iface)))
        go_wp2
        go_ret
        refine ⟨_, rfl, ?_, ?_⟩
        · rw [T.v_mk, IsMk_mk]
          exact ⟨_, _, rfl, hm1, hm2⟩
        · exact HF.out.trans (‹Fr No W0 w2›.trans fr2)
      · have hl2' : ((l.length : Int) == 2) = false := by simp; omega
        obtain ⟨i0, hi0, hz0, hz1, hz2⟩ := info_parts mark_info
        go_enter Try.func114, Try.ntmps114
        go_wp2_with fail
        go_loopw [44] (fun i wr => ∃ j : Nat, j ≤ l.length ∧ i = .int .i64 j ∧ MarkInv w #[] j wr) (fun i _ => l.length - (intOf i).toNat)
        case atStart =>
          exact ⟨0, Nat.zero_le _, rfl, ((Fr.refl No w).alloc _).alloc _, by simp, _, [], Blk.new' (w.alloc _) 184 _ (by simp), World.ownsRow_nil _ _ _ _⟩
        case round =>
          obtain ⟨j, hj, rfl, inv⟩ := hrel
          have fr := inv.fr
          have big := inv.big
          obtain ⟨v, xs, blk, own⟩ := inv.row
          by_cases hlt : j < l.length
          · obtain ⟨b, o, k1, n1, s1, A1, cap1, l1, r1, rfl, hb0, hb1, hx, hin, e0, e1, e2, e3, e4⟩ := T.elem (ht.no fr hh) hlt
            have IH := ih l[j] (List.getElem_mem hlt)
            rw [hx, T.val_mk] at IH
            have HX := hide hx
            have hle := Nat.le_of_lt hlt
            clear hx ih inv
            have HT := hide ht
            clear ht
            go_wp2_with fail
            have blk1 := blk.alloc (.cells #[.int .u8 k1, .int .i64 n1, .string s1, .slice A1 l1.length cap1, .int .i64 r1] 37)
            have own1 := own.alloc (.cells #[.int .u8 k1, .int .i64 n1, .string s1, .slice A1 l1.length cap1, .int .i64 r1] 37)
            obtain ⟨x0, x1, x2, x3, x4, xf⟩ := (Blk.new wr 37 #[.int .u8 k1, .int .i64 n1, .string s1, .slice A1 l1.length cap1, .int .i64 r1]).cells5
            have frA := (Fr.refl No wr).alloc (.cells #[.int .u8 k1, .int .i64 n1, .string s1, .slice A1 l1.length cap1, .int .i64 r1] 37)
            have hinA := hin.no frA (by omega)
            have hszA : (wr.alloc (.cells #[.int .u8 k1, .int .i64 n1, .string s1, .slice A1 l1.length cap1, .int .i64 r1] 37)).heap.size = wr.heap.size + 1 := by simp
            generalize wr.alloc (.cells #[.int .u8 k1, .int .i64 n1, .string s1, .slice A1 l1.length cap1, .int .i64 r1] 37) = W0 at *
            have c0 := blk1.cell 0
            simp only [List.getElem?_toArray, List.getElem?_cons_zero] at c0
            have hv0 : ¬ v.ownBlock = some (w.heap.size + 1) := fun h => by have := own.lt _ h; omega
            have hv1 : ¬ v.ownBlock = some wr.heap.size := fun h => by have := own.lt _ h; omega
            have hq0 : w.heap.size + 1 < W0.heap.size := by omega
            have hq1 : wr.heap.size < W0.heap.size := by omega
            have hh0 : hi ≤ W0.heap.size := by omega
            have HF := hide frA
            have HZ := hide hszA
            have HB := hide blk1
            have HB0 := hide blk
            have HO := hide own
            have HO1 := hide own1
            have f0 := blk1.frozen 0
            have hv0' : some (w.heap.size + 1) ≠ v.ownBlock := Ne.symm hv0
            clear frA hszA blk1 hin e0 e1 e2 e3 e4 blk own own1
            go_region_law (first
              | ((refine step_append_lies _ (by rfl) _ _ _ (by rfl) (w.heap.size + 2) 109 i0 _ 1 16 Try.underlying182 hi0 hz0 hz1 hz2 rfl (by omega) v j xs (by rfl) ownD ⟨w2.heap.size, 0, none⟩ 1 1 [.iface ty1 y1] (by rfl) (by rfl) (cell_one_new _ _ _) (by simp [Value.oneCell']) (by omega) (by unfold maxLen; omega) (by omega) (by simp; omega) _ rfl ?_); intro g cp w3 hown3 hgrow hat hlt3; obtain ⟨c3, f3⟩ := mark_grown hgrow c2D f2D (by simp; omega) hv0')
              | (go_simp; go_at_call 114; (with_reducible refine (IH _ lo hi ?_ ?_).mono ?_); (exact hinA.no ((Fr.refl No W0).drew) hh0); (exact hh0); rintro e w2 ⟨m1, rfl, hm1, fr1⟩; obtain ⟨ty1, y1, rfl⟩ := hm1.iface; obtain ⟨ownD, c2D, f2D, c2, hsz2, hlt2⟩ := mark_after (m := .iface ty1 y1) HB.out HO1.out fr1))
            all_goals
              go_wp2
              go_roundw
              case rel =>
                have hb2 : Blk w3 (w.heap.size + 1) 184 #[v] := (hgrow.block (w.heap.size + 1) (by simp; omega) hv0').trans ((Blk.fr (a := W0.drew) HB.out fr1 (fun h => h)).alloc _)
                have hF : Fr No w w3 := (((((fr.thenNo HF.out).drew).thenNo fr1).alloc _).grown hgrow (fun c hc hlt => by have := HO.out.lt c hc; omega))
                exact ⟨j + 1, hlt, by go_num, hF.setNew (by simp) _, Nat.le_trans (by omega) (show w2.heap.size ≤ _ by have := hgrow.size; simp at this ⊢; omega), _, _, hb2.set_ 0 _, ownsRow_setCell_below hown3 (by simp) _⟩
              case measure => simp [intOf]; omega
          · obtain rfl : l.length = j := by omega
            have c0 := blk.cell 0
            simp only [List.getElem?_toArray, List.getElem?_cons_zero] at c0
            obtain ⟨A', n', c', rfl⟩ : ∃ A' n' c', v = .slice A' n' c' := by
              rcases own.2 with ⟨rfl, _⟩ | ⟨g, cp, cur, rfl, _⟩
              · exact ⟨_, _, _, rfl⟩
              · exact ⟨_, _, _, rfl⟩
            have HI := hide inv
            have HO := hide own
            clear inv own ih
            go_wp2
            go_ret
            refine ⟨_, rfl, ?_, HI.out.fr⟩
            rw [T.v_mk, IsMk_mk]
            show listMk _ _
            rw [listMk_row (by simpa using hl2)]
            exact ⟨_, _, _, rfl⟩
    · by_cases h1 : k = 1
      · subst h1
        go_enter Try.func114, Try.ntmps114
        go_wp2
        go_ret
        exact ⟨_, rfl, by rw [T.v_mk, IsMk_mk]; rfl, (Fr.refl No w).alloc _⟩
      have k1 : (k == 1) = false := by simp; exact h1
      by_cases h2 : k = 2
      · subst h2
        go_enter Try.func114, Try.ntmps114
        go_wp2
        go_ret
        exact ⟨_, rfl, by rw [T.v_mk, IsMk_mk]; rfl, (Fr.refl No w).alloc _⟩
      have k2 : (k == 2) = false := by simp; exact h2
      by_cases h4 : k = 4
      · subst h4
        go_enter Try.func114, Try.ntmps114
        go_wp2
        go_ret
        exact ⟨_, rfl, by rw [T.v_mk, IsMk_mk]; rfl, (Fr.refl No w).alloc _⟩
      have k4 : (k == 4) = false := by simp; exact h4
      have k3 : (k == 3) = false := by simp; exact h3
      go_enter Try.func114, Try.ntmps114
      go_wp2
      go_ret
      exact ⟨_, rfl, by rw [T.v_mk, IsMk_mk, mkOf, if_neg h1, if_neg h2, if_neg h4, if_neg h3]; rfl, (Fr.refl No w).alloc _⟩
end Go.Proofs.Ytnddfiohofnbaaa

/- brand.Of: the mark of a value that may be. -/
namespace Go.Proofs.Ytnddfiohofnbaaa
open Go.RowKit

def OfP (v : V) (w : World) (e : Ending) (w' : World) : Prop :=
  (v.may = true → ∃ m, e = .returned (.tuple #[m, .int .i64 0]) ∧ IsMk v m ∧ Fr No w w') ∧ (v.may = false → e = .returned (.tuple #[.nilIface, .int .i64 2]) ∧ Fr No w w')

set_option maxHeartbeats 1000000 in
theorem Of_any (t : T) (w : World) (lo hi : Nat) (ht : t.In w lo hi) (hh : hi ≤ w.heap.size) : Calls Try.prog 90 #[t.val] w (OfP t.v w) := by
  have hM := fun w' h h' => may_any t w' lo hi h h'
  have hO := fun w' h h' => mark_any t w' lo hi h h'
  cases t with
  | mk k n s A cap l r =>
    rw [T.val_mk] at *
    cases hm : (T.mk k n s A cap l r).v.may
    · rw [hm] at hM
      have HM := hide hm
      clear hm hO
      go_enter Try.func90, Try.ntmps90
      go_wp2_with fail
      refine (hM _ (ht.no (((Fr.refl No w).alloc _)) hh) (by simp; omega)).mono ?_
      rintro e w2 ⟨rfl, fr2⟩
      go_wp2
      go_ret2
      exact ⟨fun h => (by rw [HM.out] at h; cases h), fun _ => ⟨rfl, ((Fr.refl No w).alloc _).trans fr2⟩⟩
    · rw [hm] at hM
      have HM := hide hm
      clear hm
      go_enter Try.func90, Try.ntmps90
      go_wp2_with fail
      refine (hM _ (ht.no (((Fr.refl No w).alloc _)) hh) (by simp; omega)).mono ?_
      rintro e w2 ⟨rfl, fr2⟩
      have b0 := ((Blk.new' w 37 #[.int .u8 k, .int .i64 n, .string s, .slice A l.length cap, .int .i64 r] (g := w.heap.size) rfl)).fr fr2 (fun h => h)
      obtain ⟨c0, c1, c2, c3, c4, cf⟩ := b0.cells5
      have hF2 : Fr No w w2 := ((Fr.refl No w).alloc _).trans fr2
      have ht2 := ht.no hF2 hh
      have hh2 : hi ≤ w2.heap.size := Nat.le_trans hh hF2.size
      clear b0 ht
      go_wp2_with fail
      refine (hO _ ht2 hh2).mono ?_
      rintro e w3 ⟨m, rfl, hmk, fr3⟩
      obtain ⟨ty, y, rfl⟩ := hmk.iface
      go_wp2
      go_ret2
      exact ⟨fun _ => ⟨_, rfl, hmk, hF2.trans fr3⟩, fun h => by rw [HM.out] at h; cases h⟩

end Go.Proofs.Ytnddfiohofnbaaa

/- What Go's own == of two marks comes to. -/
namespace Go.Proofs.Ytnddfiohofnbaaa
open Go.RowKit

/-- The kinds of marks: 5 is a row. -/
def shp (k : Int) (len : Nat) : Int := if k = 3 then (if len = 2 then 3 else 5) else if k = 1 then 1 else if k = 2 then 2 else if k = 4 then 4 else 0

/-- Two leaves of one kind: are they the same? -/
def leafEq (k n : Int) (s : ByteArray) (r n' : Int) (s' : ByteArray) (r' : Int) : Bool :=
  if k = 1 then n == n' else if k = 2 then s.toList == s'.toList else if k = 4 then r == r' else true

def pairCmp (ps : List (V → Nat)) (l : List V) : Nat :=
  match ps, l with
  | [f, g], [a, b] => if f a = 1 then g b else f a
  | _, _ => 2

def cmpOf (k n : Int) (s : ByteArray) (ps : List (V → Nat)) (r : Int) : V → Nat
  | .mk k' n' s' l' r' =>
    if shp k ps.length = shp k' l'.length then
      (if k = 3 then pairCmp ps l' else if leafEq k n s r n' s' r' = true then 1 else 0)
    else 0

/-- What the comparison of two marks comes to: 0 Unequal, 1 Equal, 2 Panics. -/
def V.cmp : V → V → Nat
  | .mk k n s l r => cmpOf k n s (l.map V.cmp) r
termination_by v => v

theorem V.cmp_mk (k n : Int) (s : ByteArray) (l : List V) (r : Int) : (V.mk k n s l r).cmp = cmpOf k n s (l.map V.cmp) r := by rw [V.cmp]

/-- What a run of == comes to. -/
def EqRes (res : Result Bool) (c : Nat) (w : World) : Prop :=
  (c = 0 ∧ res = .ok false w) ∨ (c = 1 ∧ res = .ok true w) ∨ (c = 2 ∧ ∃ s, res = .halt (.panic (.iface 10 (.string s))) w)

theorem typeStr_row (w : World) : (typeStr 184).run Try.prog w = .ok "brand.row" w := by kernel_rfl

theorem runtimePanic_error (m : String) (w : World) : (runtimePanic (α := Bool) (.error m)).run Try.prog w = .halt (.panic (.iface 10 (strVal m))) w := by
  have h : Try.prog.rt.errorString = 10 := by kernel_rfl
  simp [runtimePanic, run_program, goPanic]

theorem ty_comparable (t : TypeId) (b : Bool) (h : (Try.prog.info? t).map (·.comparable) = some b) : ∃ i, Try.prog.info? t = some i ∧ i.comparable = b := by
  cases hi : Try.prog.info? t with
  | none => rw [hi] at h; cases h
  | some i => rw [hi] at h; exact ⟨i, rfl, by simpa using h⟩

theorem cmp176 : (Try.prog.info? 177).map (·.comparable) = some true := by kernel_rfl
theorem cmp177 : (Try.prog.info? 178).map (·.comparable) = some true := by kernel_rfl
theorem cmp178 : (Try.prog.info? 179).map (·.comparable) = some true := by kernel_rfl
theorem cmp180 : (Try.prog.info? 181).map (·.comparable) = some true := by kernel_rfl
theorem cmp183 : (Try.prog.info? 184).map (·.comparable) = some false := by kernel_rfl
theorem cmp185 : (Try.prog.info? 186).map (·.comparable) = some true := by kernel_rfl
theorem packed183 : Try.prog.holdsPacked Try.prog.depth 184 = false := by kernel_rfl
theorem ms45 : ∃ ms, Try.prog.underlying 109 = some (.interface ms) := ⟨_, Try.underlying109⟩

/-- Two marks of unlike types. -/
theorem eq_unlike {d : Nat} {a b : TypeId} {x y : Value} {w : World} (h : a ≠ b) : (Op.equalIn (d + 1) 109 (.iface a x) (.iface b y)).run Try.prog w = .ok false w := by
  obtain ⟨ms, h45⟩ := ms45
  simp [Op.equalIn, run_underlying h45, h]

/-- Two marks of one type that can be compared. -/
theorem eq_like {d : Nat} {a : TypeId} {x y : Value} {w : World} (h : (Try.prog.info? a).map (·.comparable) = some true) :
    (Op.equalIn (d + 1) 109 (.iface a x) (.iface a y)).run Try.prog w = (Op.equalIn d a x y).run Try.prog w := by
  obtain ⟨ms, h45⟩ := ms45
  obtain ⟨i, hi, hc⟩ := ty_comparable a true h
  simp [Op.equalIn, run_underlying h45, typeInfo, hi, hc]

/-- Two rows. -/
theorem eq_rows {d : Nat} {x y : Value} {w : World} : ∃ s, (Op.equalIn (d + 1) 109 (.iface 184 x) (.iface 184 y)).run Try.prog w = .halt (.panic (.iface 10 (.string s))) w := by
  obtain ⟨ms, h45⟩ := ms45
  obtain ⟨i, hi, hc⟩ := ty_comparable 184 false cmp183
  obtain ⟨s, hs⟩ : ∃ s, strVal ("comparing uncomparable type " ++ "brand.row") = .string s := ⟨_, rfl⟩
  refine ⟨s, ?_⟩
  rw [← hs]
  simp [Op.equalIn, run_underlying h45, typeInfo, hi, hc, run_program, packed183, typeStr_row, runtimePanic_error]

/-- The dynamic type of a mark. -/
def mty (c : Int) : TypeId := if c = 1 then 177 else if c = 2 then 178 else if c = 4 then 179 else if c = 3 then 181 else if c = 5 then 184 else 186

theorem mty_ne {c c' : Int} (hc : c = 0 ∨ c = 1 ∨ c = 2 ∨ c = 3 ∨ c = 4 ∨ c = 5) (hc' : c' = 0 ∨ c' = 1 ∨ c' = 2 ∨ c' = 3 ∨ c' = 4 ∨ c' = 5) (h : c ≠ c') : mty c ≠ mty c' := by
  rcases hc with rfl | rfl | rfl | rfl | rfl | rfl <;> rcases hc' with rfl | rfl | rfl | rfl | rfl | rfl <;> simp_all [mty]

theorem shp_range (k : Int) (len : Nat) : shp k len = 0 ∨ shp k len = 1 ∨ shp k len = 2 ∨ shp k len = 3 ∨ shp k len = 4 ∨ shp k len = 5 := by
  unfold shp
  by_cases h3 : k = 3
  · by_cases h2 : len = 2 <;> simp [h3, h2]
  by_cases h1 : k = 1
  · simp [h1]
  by_cases h2 : k = 2
  · simp [h2]
  by_cases h4 : k = 4
  · simp [h4]
  · simp [h1, h2, h3, h4]

theorem mkOf.ty {k n : Int} {s : ByteArray} {ps : List (Value → Prop)} {r : Int} {m : Value} (h : mkOf k n s ps r m) : ∃ x, m = .iface (mty (shp k ps.length)) x := by
  unfold mkOf at h
  by_cases h1 : k = 1
  · rw [if_pos h1] at h; subst h1; exact ⟨_, h⟩
  rw [if_neg h1] at h
  by_cases h2 : k = 2
  · rw [if_pos h2] at h; subst h2; exact ⟨_, h⟩
  rw [if_neg h2] at h
  by_cases h4 : k = 4
  · rw [if_pos h4] at h; subst h4; exact ⟨_, h⟩
  rw [if_neg h4] at h
  by_cases h3 : k = 3
  · rw [if_pos h3] at h
    subst h3
    by_cases hl : ps.length = 2
    · obtain ⟨p, q, rfl⟩ : ∃ p q, ps = [p, q] := at2 hl
      obtain ⟨x, y, h, _⟩ := h; exact ⟨_, h⟩
    · rw [listMk_row hl] at h
      obtain ⟨A, le, ca, h⟩ := h
      have : mty (shp 3 ps.length) = 184 := by simp [shp, hl, mty]
      rw [this]; exact ⟨_, h⟩
  · rw [if_neg h3] at h
    have : mty (shp k ps.length) = 186 := by simp [shp, h1, h2, h3, h4, mty]
    rw [this]; exact ⟨_, h⟩

theorem eq_pair {d : Nat} {x y x' y' : Value} {w : World} {c1 c2 : Nat} (hx : ∃ t v, x = .iface t v) (hy : ∃ t v, y = .iface t v) (hx' : ∃ t v, x' = .iface t v) (hy' : ∃ t v, y' = .iface t v)
    (h1 : EqRes ((Op.equalIn d 109 x x').run Try.prog w) c1 w) (h2 : EqRes ((Op.equalIn d 109 y y').run Try.prog w) c2 w) :
    EqRes ((Op.equalIn (d + 1) 181 (.agg #[x, y]) (.agg #[x', y'])).run Try.prog w) (if c1 = 1 then c2 else c1) w := by
  obtain ⟨t1, v1, rfl⟩ := hx
  obtain ⟨t2, v2, rfl⟩ := hy
  obtain ⟨t3, v3, rfl⟩ := hx'
  obtain ⟨t4, v4, rfl⟩ := hy'
  have e : (Op.equalIn (d + 1) 181 (.agg #[.iface t1 v1, .iface t2 v2]) (.agg #[.iface t3 v3, .iface t4 v4])).run Try.prog w =
      ((Sem.run Try.prog (Op.equalIn d 109 (Value.iface t1 v1) (Value.iface t3 v3)) w).andThen fun a w' =>
        if a = false then Result.ok false w'
        else
          (Sem.run Try.prog (Op.equalIn d 109 (Value.iface t2 v2) (Value.iface t4 v4)) w').andThen fun a w' =>
            if a = false then Result.ok false w' else Result.ok true w') := by simp [go_sem]
  rw [e]
  rcases h1 with ⟨rfl, h1⟩ | ⟨rfl, h1⟩ | ⟨rfl, s, h1⟩
  · rw [h1]; exact .inl ⟨rfl, rfl⟩
  · rw [h1]
    simp only [Result.andThen_ok, if_pos]
    rcases h2 with ⟨rfl, h2⟩ | ⟨rfl, h2⟩ | ⟨rfl, s, h2⟩
    · simp [h2]; exact .inl ⟨rfl, rfl⟩
    · simp [h2]; exact .inr (.inl ⟨rfl, rfl⟩)
    · simp [h2]; exact .inr (.inr ⟨rfl, s, rfl⟩)
  · rw [h1]; exact .inr (.inr ⟨rfl, s, rfl⟩)

theorem eqRes_bool {b : Bool} {w : World} {res : Result Bool} (h : res = .ok b w) : EqRes res (if b = true then 1 else 0) w := by
  cases b
  · exact .inl ⟨rfl, h⟩
  · exact .inr (.inl ⟨rfl, h⟩)

theorem run_eq (u : V) : ∀ (v : V) (d : Nat) (m1 m2 : Value) (w : World), 2 * u.dep + 2 ≤ d → IsMk u m1 → IsMk v m2 → EqRes ((Op.equalIn d 109 m1 m2).run Try.prog w) (u.cmp v) w := by
  induction u using V.ind with
  | h k n s l r ih =>
    intro v d m1 m2 w hd h1 h2
    cases v with
    | mk k' n' s' l' r' =>
      rw [IsMk_mk] at h1 h2
      rw [V.cmp_mk, cmpOf]
      simp only [List.length_map]
      obtain ⟨d, rfl⟩ : ∃ e, d = e + 2 := ⟨d - 2, by omega⟩
      by_cases hs : shp k l.length = shp k' l'.length
      · rw [if_pos hs]
        by_cases h3 : k = 3
        · subst h3
          rw [if_pos rfl]
          have hk' : k' = 3 ∧ (l.length = 2 ↔ l'.length = 2) := by
            unfold shp at hs
            by_cases hl : l.length = 2 <;> by_cases h3' : k' = 3 <;> by_cases hl' : l'.length = 2 <;> simp [hl, h3', hl'] at hs ⊢ <;> (repeat' split at hs) <;> omega
          obtain ⟨rfl, hll⟩ := hk'
          have e1 : listMk (l.map IsMk) m1 := by simpa [mkOf] using h1
          have e2 : listMk (l'.map IsMk) m2 := by simpa [mkOf] using h2
          by_cases hl : l.length = 2
          · obtain ⟨a, b, rfl⟩ := at2 hl
            obtain ⟨a', b', rfl⟩ := at2 (hll.1 hl)
            obtain ⟨x, y, rfl, hx, hy⟩ := e1
            obtain ⟨x', y', rfl, hx', hy'⟩ := e2
            rw [eq_like cmp180]
            have hda : a.dep ≤ top [a.dep, b.dep] := le_top (by simp)
            have hdb : b.dep ≤ top [a.dep, b.dep] := le_top (by simp)
            rw [V.dep_mk, if_pos rfl] at hd
            simp only [List.map_cons, List.map_nil] at hd
            have g := eq_pair hx.iface hy.iface hx'.iface hy'.iface (ih a (by simp) a' d x x' w (by omega) hx hx') (ih b (by simp) b' d y y' w (by omega) hy hy')
            exact g
          · rw [listMk_row (by simpa using hl)] at e1
            rw [listMk_row (by simpa using fun h => hl (hll.2 h))] at e2
            obtain ⟨A1, n1, c1, rfl⟩ := e1
            obtain ⟨A2, n2, c2, rfl⟩ := e2
            have hp : pairCmp (l.map V.cmp) l' = 2 := by
              match l, hl with
              | [], _ => rfl
              | [a], _ => rfl
              | [a, b], hl => simp at hl
              | a :: b :: c :: l, _ => rfl
            rw [hp]
            obtain ⟨s, hs⟩ := eq_rows (d := d + 1) (x := .agg #[.slice A1 n1 c1]) (y := .agg #[.slice A2 n2 c2]) (w := w)
            exact .inr (.inr ⟨rfl, s, hs⟩)
        · rw [if_neg h3]
          unfold mkOf at h1 h2
          by_cases k1 : k = 1
          · subst k1
            have e : k' = 1 := by
              unfold shp at hs
              by_cases h3' : k' = 3 <;> by_cases hl' : l'.length = 2 <;> simp [h3', hl'] at hs ⊢ <;> (repeat' split at hs) <;> omega
            subst e
            simp at h1 h2
            subst h1 h2
            rw [eq_like cmp176]
            refine eqRes_bool ?_
            simp [go_sem, leafEq]
          by_cases k2 : k = 2
          · subst k2
            have e : k' = 2 := by
              unfold shp at hs
              by_cases h3' : k' = 3 <;> by_cases hl' : l'.length = 2 <;> simp [h3', hl'] at hs ⊢ <;> (repeat' split at hs) <;> omega
            subst e
            simp at h1 h2
            subst h1 h2
            rw [eq_like cmp177]
            refine eqRes_bool ?_
            simp [go_sem, leafEq]
          by_cases k4 : k = 4
          · subst k4
            have e : k' = 4 := by
              unfold shp at hs
              by_cases h3' : k' = 3 <;> by_cases hl' : l'.length = 2 <;> simp [h3', hl'] at hs ⊢ <;> (repeat' split at hs) <;> omega
            subst e
            simp at h1 h2
            subst h1 h2
            rw [eq_like cmp178]
            refine eqRes_bool ?_
            simp [go_sem, leafEq]
          have e : k' ≠ 1 ∧ k' ≠ 2 ∧ k' ≠ 4 ∧ k' ≠ 3 := by
            unfold shp at hs
            by_cases h3' : k' = 3 <;> by_cases hl' : l'.length = 2 <;> simp [h3, k1, k2, k4, h3', hl'] at hs ⊢ <;> (repeat' split at hs) <;> omega
          obtain ⟨e1, e2, e4, e3⟩ := e
          rw [if_neg k1, if_neg k2, if_neg k4, if_neg h3] at h1
          rw [if_neg e1, if_neg e2, if_neg e4, if_neg e3] at h2
          subst h1 h2
          rw [eq_like cmp185]
          refine eqRes_bool ?_
          simp [go_sem, leafEq, k1, k2, k4]
      · rw [if_neg hs]
        obtain ⟨x, rfl⟩ := h1.ty
        obtain ⟨y, rfl⟩ := h2.ty
        simp only [List.length_map]
        exact .inl ⟨rfl, eq_unlike (mty_ne (shp_range _ _) (shp_range _ _) hs)⟩

end Go.Proofs.Ytnddfiohofnbaaa

/- seal.pair, Mark, Same: of sealers, openers, boxes. -/
namespace Go.Proofs.Ytnddfiohofnbaaa
open Go.RowKit

/-- The sealer of the pair of which a thing is. -/
def Th.pairOf (x : Th) (r : Int) : Int := if x.kind = 5 then r else x.ofr

section
variable {m : Wm} {lo : Nat} {W : World}

set_option maxRecDepth 100000 in
set_option maxHeartbeats 4000000 in
theorem pair_w (h : m.Ok lo W) {r : Int} {x : Nat × Th} (hg : m.get r = some x) (hk : x.2.kind = 5 ∨ x.2.kind = 6 ∨ x.2.kind = 7) (hm : x.2.v.v.may = true) :
    Calls Try.prog 89 #[.pointer (some ⟨m.wb, 0, none⟩), .int .i64 r] W fun e w' => e = .returned (.tuple #[.int .i64 (x.2.pairOf r), .int .i64 0]) ∧ Fr No W w' := by
  have hT := there_w h
  have hW := What_ok h hg hm
  unfold WhatRes at hW
  clear h hg hm
  obtain ⟨gx, ⟨kind, home, v, n, lost, ofr, byr, set, full⟩⟩ := x
  unfold Th.pairOf
  simp only at hk hW ⊢
  rcases hk with rfl | rfl | rfl
  all_goals
    go_enter Try.func89, Try.ntmps89
    go_wp2_with fail
    refine hT.mono ?_
    rintro e w' ⟨rfl, rfl⟩
    clear hT
    go_wp2_with fail
    refine hW.mono ?_
    rintro e w1 ⟨⟨k1, n1, s1, A1, c1, l1, r1⟩, rfl, -, -, f1⟩
    have hval1 : ∀ kind : Int, (Th.val ⟨kind, home, T.mk k1 n1 s1 A1 c1 l1 r1, n, lost, ofr, byr, set, full⟩) = .agg (th16 kind home k1 n1 s1 A1 l1.length c1 r1 n lost ofr byr set full) := fun _ => rfl
    rw [hval1]
    unfold th16
    have HF1 := hide f1
    clear f1 hval1 hW
    go_wp2_with fail
    go_ret2
    exact ⟨rfl, HF1.out.alloc _⟩

theorem ref_mark {a : Int} {v : Value} (h : IsMk (.mk 4 0 ⟨#[]⟩ [] a) v) : v = .iface 179 (.int .i64 a) := by
  rw [IsMk_mk] at h
  simpa [mkOf] using h

set_option maxHeartbeats 2000000 in
theorem Mark_w (h : m.Ok lo W) {r : Int} {x : Nat × Th} (hg : m.get r = some x) (hk : x.2.kind = 5 ∨ x.2.kind = 6 ∨ x.2.kind = 7) (hm : x.2.v.v.may = true) (hp0 : 1 ≤ x.2.pairOf r) (hp1 : x.2.pairOf r ≤ 9223372036854775807) :
    Calls Try.prog 64 #[.pointer (some ⟨m.wb, 0, none⟩), .int .i64 r] W fun e w' => e = .returned (.tuple #[.iface 179 (.int .i64 (x.2.pairOf r)), .int .i64 0]) ∧ Fr No W w' := by
  have hP := pair_w h hg hk hm
  generalize x.2.pairOf r = a at *
  have hO := fun W' => Of_any (tRef a) W' 0 W'.heap.size (tRef_in hp0 hp1 _ _ _) (Nat.le_refl _)
  rw [tRef_val] at hO
  have hma := tRef_may hp0
  have HO : Hid (∀ W', Calls Try.prog 90 #[.agg #[.int .u8 4, .int .i64 0, .string ⟨#[]⟩, .slice none 0 0, .int .i64 a]] W' fun e w' => e = .returned (.tuple #[.iface 179 (.int .i64 a), .int .i64 0]) ∧ Fr No W' w') := hide fun W' => by
    refine (hO W').mono ?_
    rintro e w' ⟨h1, -⟩
    obtain ⟨v, rfl, hv, f⟩ := h1 hma
    rw [tRef_v] at hv
    rw [ref_mark hv]
    exact ⟨rfl, f⟩
  clear hO hma h hg hk hm hp0 hp1
  go_enter Try.func64, Try.ntmps64
  go_wp2_with fail
  refine hP.mono ?_
  rintro e w1 ⟨rfl, f1⟩
  clear hP
  go_wp2_with fail
  refine (HO.out w1).mono ?_
  rintro e w2 ⟨rfl, f2⟩
  go_wp2_with fail
  go_ret2
  exact ⟨rfl, f1.trans f2⟩

/-- Two marks of references. -/
theorem mark_eql (a b : Int) (w : World) : (binOp .eql 109 (.iface 179 (.int .i64 a)) (.iface 179 (.int .i64 b))).run Try.prog w = .ok (.bool (decide (a = b))) w := by
  have i1 : IsMk (.mk 4 0 ⟨#[]⟩ [] a) (.iface 179 (.int .i64 a)) := by rw [IsMk_mk]; simp [mkOf]
  have i2 : IsMk (.mk 4 0 ⟨#[]⟩ [] b) (.iface 179 (.int .i64 b)) := by rw [IsMk_mk]; simp [mkOf]
  have h := run_eq (.mk 4 0 ⟨#[]⟩ [] a) (.mk 4 0 ⟨#[]⟩ [] b) 10000 _ _ w (by simp [V.dep_mk]) i1 i2
  have e : (binOp .eql 109 (.iface 179 (.int .i64 a)) (.iface 179 (.int .i64 b))).run Try.prog w = ((Op.equalIn 10000 109 (.iface 179 (.int .i64 a)) (.iface 179 (.int .i64 b))).run Try.prog w).andThen fun b w' => .ok (.bool b) w' := by
    simp [binOp, Op.equal]
    rfl
  rw [e]
  have hc : V.cmp (.mk 4 0 ⟨#[]⟩ [] a) (.mk 4 0 ⟨#[]⟩ [] b) = if a = b then 1 else 0 := by simp [V.cmp_mk, cmpOf, shp, leafEq]
  rw [hc] at h
  by_cases hab : a = b
  · rw [if_pos hab] at h
    rcases h with ⟨h, -⟩ | ⟨-, h⟩ | ⟨h, -⟩
    · cases h
    · rw [h]; simp [Result.andThen, hab]
    · cases h
  · rw [if_neg hab] at h
    rcases h with ⟨-, h⟩ | ⟨h, -⟩ | ⟨h, -⟩
    · rw [h]; simp [Result.andThen, hab]
    · cases h
    · cases h

set_option maxHeartbeats 2000000 in
theorem Same_w (h : m.Ok lo W) {r q : Int} {x y : Nat × Th} (hg : m.get r = some x) (hk : x.2.kind = 5 ∨ x.2.kind = 6 ∨ x.2.kind = 7) (hm : x.2.v.v.may = true) (hp0 : 1 ≤ x.2.pairOf r) (hp1 : x.2.pairOf r ≤ 9223372036854775807)
    (hgq : m.get q = some y) (hkq : y.2.kind = 5 ∨ y.2.kind = 6 ∨ y.2.kind = 7) (hmq : y.2.v.v.may = true) (hq0 : 1 ≤ y.2.pairOf q) (hq1 : y.2.pairOf q ≤ 9223372036854775807) :
    Calls Try.prog 35 #[.pointer (some ⟨m.wb, 0, none⟩), .int .i64 r, .int .i64 q] W fun e w' => e = .returned (.tuple #[.bool (decide (x.2.pairOf r = y.2.pairOf q)), .int .i64 0]) ∧ Fr No W w' := by
  have hT := there_w h
  have hIr := Is_w h r
  have hIq := Is_w h q
  have e1 : (m.get r).isSome = true := by rw [hg]; rfl
  have e2 : (m.get q).isSome = true := by rw [hgq]; rfl
  rw [e1] at hIr
  rw [e2] at hIq
  have hMr := Mark_w h hg hk hm hp0 hp1
  have HMq := hide fun W' (f : Fr No W W') => Mark_w (h.no f) hgq hkq hmq hq0 hq1
  have hme := mark_eql
  generalize x.2.pairOf r = a at *
  generalize y.2.pairOf q = b at *
  clear h hg hk hm hp0 hp1 hgq hkq hmq hq0 hq1 e1 e2
  go_enter Try.func35, Try.ntmps35
  go_wp2_with fail
  refine hT.mono ?_
  rintro e w' ⟨rfl, rfl⟩
  go_wp2_with fail
  refine hIr.mono ?_
  rintro e w' ⟨rfl, rfl⟩
  go_wp2_with fail
  refine hIq.mono ?_
  rintro e w' ⟨rfl, rfl⟩
  clear hT hIr hIq
  go_wp2_with fail
  refine hMr.mono ?_
  rintro e w1 ⟨rfl, f1⟩
  clear hMr
  go_wp2_with fail
  refine (HMq.out w1 f1).mono ?_
  rintro e w2 ⟨rfl, f2⟩
  go_wp2_with fail
  go_ret2
  exact ⟨rfl, f1.trans f2⟩
end

end Go.Proofs.Ytnddfiohofnbaaa

/- world.New's region: what holds, whichever operations have come up. -/
namespace Go.Proofs.Ytnddfiohofnbaaa
open Go.RowKit

def nE (g : Nat → Nat) : Nat → Value
  | 0 => .slice none 0 0
  | 1 => .slice none 0 0
  | 2 => .int .i64 1
  | 3 => .slice (some ⟨g 3, 0, none⟩) 1 1
  | 4 => .int .i64 1
  | 5 => .slice (some ⟨g 5, 0, none⟩) 1 1
  | 6 => .map (some (g 6))
  | 7 => .map (some (g 7))
  | 8 => .agg #[.slice none 0 0, .slice (some ⟨g 3, 0, none⟩) 1 1, .map (some (g 6)), .map (some (g 7)), .int .i64 0, .slice (some ⟨g 5, 0, none⟩) 1 1]
  | 9 => .pointer (some ⟨g 9, 0, none⟩)
  | 10 => .pointer (some ⟨g 9, 0, none⟩)
  | 11 => .int .i64 0
  | _ => undef

/-- What an operation has made. -/
def nB (g : Nat → Nat) (w : World) : Nat → Prop
  | 3 => w.heap[g 3]? = some (.cells #[.bool false] 4 (0, 0))
  | 5 => w.heap[g 5]? = some (.cells #[.int .i64 0] 3 (0, 0))
  | 6 => w.heap[g 6]? = some (.map #[] 0)
  | 7 => w.heap[g 7]? = some (.map #[] 0)
  | 9 => w.heap[g 9]? = some (.cells #[.slice none 0 0, .slice (some ⟨g 3, 0, none⟩) 1 1, .map (some (g 6)), .map (some (g 7)), .int .i64 0, .slice (some ⟨g 5, 0, none⟩) 1 1] 76 (0, 0))
  | _ => True

structure NJ (W0 : World) (f : Nat → Bool) (x : List Value) (g : Nat → Nat) (w : World) : Prop where
  fr : Fr No W0 w
  x : ∀ j, f j = true → x.getD j undef = nE g j
  b : ∀ j, f j = true → nB g w j
  lo : ∀ j, f j = true → (j = 3 ∨ j = 5 ∨ j = 6 ∨ j = 7 ∨ j = 9) → W0.heap.size ≤ g j ∧ g j < w.heap.size
  ne : f 6 = true → f 7 = true → g 6 ≠ g 7
  c8 : f 8 = true → f 3 = true ∧ f 5 = true ∧ f 6 = true ∧ f 7 = true
  c9 : f 9 = true → f 8 = true
  c10 : f 10 = true → f 9 = true

theorem upd_ne {f : Nat → Bool} {i j : Nat} (h : j ≠ i) : upd f i j = f j := by
  simp [upd, h]
theorem upd_eq {f : Nat → Bool} {i : Nat} : upd f i i = true := by simp [upd]

theorem NJ.begin (W0 : World) (x : List Value) : NJ W0 (fun _ => false) x (fun _ => 0) W0.drew :=
  ⟨(Fr.refl No W0).drew, nofun, nofun, nofun, nofun, nofun, nofun, nofun⟩

/-- An operation that makes nothing. -/
theorem NJ.quiet {W0 w : World} {f : Nat → Bool} {x : List Value} {g : Nat → Nat} (h : NJ W0 f x g w) {i : Nat} (hi : i ≠ 3 ∧ i ≠ 5 ∧ i ≠ 6 ∧ i ≠ 7 ∧ i ≠ 9) (hx : i < x.length) (h8 : i = 8 → f 3 = true ∧ f 5 = true ∧ f 6 = true ∧ f 7 = true) (h10 : i = 10 → f 9 = true) : NJ W0 (upd f i) (x.set i (nE g i)) g w := by
  have hu : ∀ j, upd f i j = true → j = i ∨ f j = true := fun j hj => by
    by_cases hji : j = i
    · exact .inl hji
    · exact .inr (by rwa [upd_ne hji] at hj)
  have hk : ∀ j, f j = true → upd f i j = true := fun j hj => by
    by_cases hji : j = i
    · rw [hji]; exact upd_eq
    · rwa [upd_ne hji]
  refine ⟨h.fr, fun j hj => ?_, fun j hj => ?_, fun j hj hjj => ?_, fun h6 h7 => ?_, fun h8' => ?_, fun h9' => ?_, fun h10' => ?_⟩
  · rcases hu j hj with rfl | hj
    · simp [List.getD_eq_getElem?_getD, hx]
    · by_cases hji : j = i
      · subst hji; simp [List.getD_eq_getElem?_getD, hx]
      · rw [← h.x j hj, List.getD_eq_getElem?_getD, List.getD_eq_getElem?_getD, List.getElem?_set_ne (fun e => hji e.symm)]
  · rcases hu j hj with rfl | hj
    · unfold nB
      split <;> first | trivial | omega
    · exact h.b j hj
  · rcases hu j hj with rfl | hj
    · omega
    · exact h.lo j hj hjj
  · rw [upd_ne (by omega)] at h6 h7
    exact h.ne h6 h7
  · rcases hu 8 h8' with hh | hh
    · obtain ⟨a, b, c, d⟩ := h8 hh.symm
      exact ⟨hk _ a, hk _ b, hk _ c, hk _ d⟩
    · obtain ⟨a, b, c, d⟩ := h.c8 hh
      exact ⟨hk _ a, hk _ b, hk _ c, hk _ d⟩
  · rw [upd_ne (by omega)] at h9'
    exact hk _ (h.c9 h9')
  · rcases hu 10 h10' with hh | hh
    · exact hk _ (h10 hh.symm)
    · exact hk _ (h.c10 hh)

/-- Another block for one operation. -/
def gset (g : Nat → Nat) (i b : Nat) : Nat → Nat := fun j => if j = i then b else g j
theorem gset_eq {g : Nat → Nat} {i b : Nat} : gset g i b i = b := by simp [gset]
theorem gset_ne {g : Nat → Nat} {i b j : Nat} (h : j ≠ i) : gset g i b j = g j := by simp [gset, h]

theorem nB_alloc {g : Nat → Nat} {w : World} {o : Obj} (j : Nat) (h : nB g w j) (hlt : (j = 3 ∨ j = 5 ∨ j = 6 ∨ j = 7 ∨ j = 9) → g j < w.heap.size) : nB g (w.alloc o) j := by
  unfold nB at h ⊢
  split
  · exact (Below.heap_alloc _ _ _ (hlt (by simp))).trans h
  · exact (Below.heap_alloc _ _ _ (hlt (by simp))).trans h
  · exact (Below.heap_alloc _ _ _ (hlt (by simp))).trans h
  · exact (Below.heap_alloc _ _ _ (hlt (by simp))).trans h
  · exact (Below.heap_alloc _ _ _ (hlt (by simp))).trans h
  · trivial

/-- An operation that makes a block. -/
theorem NJ.make {W0 w : World} {f : Nat → Bool} {x : List Value} {g : Nat → Nat} (h : NJ W0 f x g w) {i : Nat} {o : Obj} (hi : i = 3 ∨ i = 5 ∨ i = 6 ∨ i = 7) (hf : f i = false) (hx : i < x.length) (ho : nB (gset g i w.heap.size) (w.alloc o) i) : NJ W0 (upd f i) (x.set i (nE (gset g i w.heap.size) i)) (gset g i w.heap.size) (w.alloc o) := by
  have h8 : f 8 = false := by
    cases h8 : f 8 with
    | false => rfl
    | true =>
      obtain ⟨a, b, c, d⟩ := h.c8 h8
      rcases hi with rfl | rfl | rfl | rfl <;> simp_all
  have h9 : f 9 = false := by
    cases h9 : f 9 with
    | false => rfl
    | true => rw [h.c9 h9] at h8; cases h8
  have h10 : f 10 = false := by
    cases h10 : f 10 with
    | false => rfl
    | true => rw [h.c10 h10] at h9; cases h9
  have hs := h.fr.size
  have hu : ∀ j, upd f i j = true → j = i ∨ (j ≠ i ∧ f j = true) := fun j hj => by
    by_cases hji : j = i
    · exact .inl hji
    · exact .inr ⟨hji, by rwa [upd_ne hji] at hj⟩
  have hE : ∀ j, j ≠ i → f j = true → nE (gset g i w.heap.size) j = nE g j := fun j hji hj => by
    have j8 : j ≠ 8 := fun e => by subst e; rw [h8] at hj; cases hj
    have j9 : j ≠ 9 := fun e => by subst e; rw [h9] at hj; cases hj
    have j10 : j ≠ 10 := fun e => by subst e; rw [h10] at hj; cases hj
    unfold nE
    split <;> first | rfl | omega | (rw [gset_ne hji])
  have hBk : ∀ j, j ≠ i → f j = true → nB (gset g i w.heap.size) w j := fun j hji hj => by
    have hb := h.b j hj
    have j9 : j ≠ 9 := fun e => by subst e; rw [h9] at hj; cases hj
    unfold nB at hb ⊢
    split <;> first | trivial | omega | (rw [gset_ne hji]; exact hb)
  refine ⟨h.fr.alloc _, fun j hj => ?_, fun j hj => ?_, fun j hj hjj => ?_, fun h6 h7 => ?_, fun h8' => ?_, fun h9' => ?_, fun h10' => ?_⟩
  · rcases hu j hj with rfl | ⟨hji, hj⟩
    · simp [List.getD_eq_getElem?_getD, hx]
    · rw [hE j hji hj, ← h.x j hj, List.getD_eq_getElem?_getD, List.getD_eq_getElem?_getD, List.getElem?_set_ne (fun e => hji e.symm)]
  · rcases hu j hj with rfl | ⟨hji, hj⟩
    · exact ho
    · exact nB_alloc j (hBk j hji hj) fun hjj => by rw [gset_ne hji]; exact (h.lo j hj hjj).2
  · rcases hu j hj with rfl | ⟨hji, hj⟩
    · rw [gset_eq]; simp; omega
    · rw [gset_ne hji]
      have := h.lo j hj hjj
      simp; omega
  · rcases hu 6 h6 with e6 | ⟨n6, f6⟩ <;> rcases hu 7 h7 with e7 | ⟨n7, f7⟩
    · omega
    · subst e6
      rw [gset_eq, gset_ne n7]
      have := h.lo 7 f7 (by simp)
      omega
    · subst e7
      rw [gset_eq, gset_ne n6]
      have := h.lo 6 f6 (by simp)
      omega
    · rw [gset_ne n6, gset_ne n7]
      exact h.ne f6 f7
  · rcases hu 8 h8' with e | ⟨-, e⟩
    · omega
    · rw [h8] at e; cases e
  · rcases hu 9 h9' with e | ⟨-, e⟩
    · omega
    · rw [h9] at e; cases e
  · rcases hu 10 h10' with e | ⟨-, e⟩
    · omega
    · rw [h10] at e; cases e

/-- The box. -/
theorem NJ.box {W0 w : World} {f : Nat → Bool} {x : List Value} {g : Nat → Nat} (h : NJ W0 f x g w) {o : Obj} (h8 : f 8 = true) (hf : f 9 = false) (hx : 9 < x.length) (ho : nB (gset g 9 w.heap.size) (w.alloc o) 9) : NJ W0 (upd f 9) (x.set 9 (nE (gset g 9 w.heap.size) 9)) (gset g 9 w.heap.size) (w.alloc o) := by
  have h10 : f 10 = false := by
    cases h10 : f 10 with
    | false => rfl
    | true => rw [h.c10 h10] at hf; cases hf
  have hs := h.fr.size
  have hu : ∀ j, upd f 9 j = true → j = 9 ∨ (j ≠ 9 ∧ f j = true) := fun j hj => by
    by_cases hji : j = 9
    · exact .inl hji
    · exact .inr ⟨hji, by rwa [upd_ne hji] at hj⟩
  have hk : ∀ j, f j = true → upd f 9 j = true := fun j hj => by
    by_cases hji : j = 9
    · rw [hji]; exact upd_eq
    · rwa [upd_ne hji]
  have hE : ∀ j, j ≠ 9 → f j = true → nE (gset g 9 w.heap.size) j = nE g j := fun j hji hj => by
    have j10 : j ≠ 10 := fun e => by subst e; rw [h10] at hj; cases hj
    unfold nE
    split <;> first | rfl | omega | (simp [gset])
  have hBk : ∀ j, j ≠ 9 → f j = true → nB (gset g 9 w.heap.size) w j := fun j hji hj => by
    have hb := h.b j hj
    unfold nB at hb ⊢
    split <;> first | trivial | omega | (rw [gset_ne hji]; exact hb)
  refine ⟨h.fr.alloc _, fun j hj => ?_, fun j hj => ?_, fun j hj hjj => ?_, fun h6 h7 => ?_, fun h8' => ?_, fun h9' => ?_, fun h10' => ?_⟩
  · rcases hu j hj with rfl | ⟨hji, hj⟩
    · simp [List.getD_eq_getElem?_getD, hx]
    · rw [hE j hji hj, ← h.x j hj, List.getD_eq_getElem?_getD, List.getD_eq_getElem?_getD, List.getElem?_set_ne (fun e => hji e.symm)]
  · rcases hu j hj with rfl | ⟨hji, hj⟩
    · exact ho
    · exact nB_alloc j (hBk j hji hj) fun hjj => by rw [gset_ne hji]; exact (h.lo j hj hjj).2
  · rcases hu j hj with rfl | ⟨hji, hj⟩
    · rw [gset_eq]; simp; omega
    · rw [gset_ne hji]
      have := h.lo j hj hjj
      simp; omega
  · rw [upd_ne (by omega)] at h6 h7
    rw [gset_ne (by omega), gset_ne (by omega)]
    exact h.ne h6 h7
  · obtain ⟨a, b, c, d⟩ := h.c8 h8
    exact ⟨hk _ a, hk _ b, hk _ c, hk _ d⟩
  · exact hk _ h8
  · exact upd_eq

end Go.Proofs.Ytnddfiohofnbaaa

/- Texts joined: Wo18, X4, B3, M. -/
import Derived.Test.YtlejelbefmkakaaGreatJn10
import Derived.Deep.RegionHeld3
import Derived.Deep.AppendLies
import Derived.Deep.RegionLaw
/- seal.Open, of a box and an opener. -/
namespace Go.Proofs.YtlejelbefmkakaaGreat
open Go.RowKit

/-- A reference as a value. -/
def tRef (b : Int) : T := .mk 4 0 ⟨#[]⟩ none 0 [] b

theorem tRef_val (b : Int) : (tRef b).val = .agg #[.int .u8 4, .int .i64 0, .string ⟨#[]⟩, .slice none 0 0, .int .i64 b] := rfl
theorem tRef_v (b : Int) : (tRef b).v = .mk 4 0 ⟨#[]⟩ [] b := by rw [tRef, T.v_mk]; rfl
theorem tRef_in {b : Int} (h0 : 1 ≤ b) (h1 : b ≤ 9223372036854775807) (w : World) (lo hi : Nat) : (tRef b).In w lo hi :=
  T.in_mk.2 ⟨⟨by decide, by decide, by decide, by decide, by decide, by decide, Nat.le_refl _, by omega, h1⟩, fun h => absurd rfl h, by simp⟩
theorem tRef_may {b : Int} (h0 : 1 ≤ b) : (tRef b).v.may = true := by
  rw [tRef_v]
  simp [V.may, V.fits, V.ok_mk, V.size_mk, V.dep_mk, fok]
  omega
theorem tRef_refs {b : Int} (h0 : 1 ≤ b) : (tRef b).v.refs = [b] := by
  unfold V.refs
  rw [if_pos (tRef_may h0), tRef_v, V.walk_mk]
  simp [walkL, refsOf]

theorem get_range {m : Wm} {r : Int} {x : Nat × Th} (h : m.get r = some x) : 1 ≤ r ∧ r ≤ (m.th.length : Int) := by
  have := Wm.get_is (m := m) (r := r)
  rw [h] at this
  simpa using this.symm

/-- What Open answers. -/
def OpenRes (xb xo : Th) (W : World) (e : Ending) (w' : World) : Prop :=
  (xb.ofr = xo.ofr → ∃ t' : T, e = .returned (.tuple #[t'.val, .int .i64 0]) ∧ t'.v = xb.v.v ∧ t'.Sh w' W.heap.size w'.heap.size) ∧
  (xb.ofr ≠ xo.ofr → e = .returned (.tuple #[T.zero.val, .int .i64 91])) ∧ Fr No W w'

set_option maxRecDepth 100000 in
set_option maxHeartbeats 8000000 in
theorem Open_ok {m : Wm} {lo : Nat} {W : World} (h : m.Ok lo W) {o b : Int} {xo xb : Nat × Th} (hgo : m.get o = some xo) (hko : xo.2.kind = 6) (hmo : xo.2.v.v.may = true) (hgb : m.get b = some xb) (hkb : xb.2.kind = 7) (hmb : xb.2.v.v.may = true) :
    Calls Tryz.prog 20 #[.pointer (some ⟨m.wb, 0, none⟩), .int .i64 o, (tRef b).val] W (OpenRes xb.2 xo.2 W) := by
  obtain ⟨hb1, hb2⟩ := get_range hgb
  have hln := h.len
  have hin := fun W' lo' hi => tRef_in (b := b) hb1 (by omega) W' lo' hi
  have hM := fun W' (_ : Fr No W W') => may_any (tRef b) W' 0 W'.heap.size (hin _ _ _) (Nat.le_refl _)
  have hR := fun W' (f : Fr No W W') => srefs_yes (h.no f) (tRef b) W'.heap.size (hin _ _ _) (Nat.le_refl _) (by rw [tRef_refs hb1]; simp) (by rw [tRef_refs hb1]; simp [Wm.are, hgb])
  have hI := fun W' (f : Fr No W W') => Is_w (h.no f) o
  have hKo := fun W' (f : Fr No W W') => Kind_w (h.no f) o
  have hKb := fun W' (f : Fr No W W') => Kind_w (h.no f) b
  have hWb := fun W' (f : Fr No W W') => What_ok (h.no f) hgb hmb
  have hWo := fun W' (f : Fr No W W') => What_ok (h.no f) hgo hmo
  have e1 : (m.get o).isSome = true := by rw [hgo]; rfl
  have e2 : m.kind o = 6 := by unfold Wm.kind; rw [hgo, ← hko]; rfl
  have e3 : m.kind b = 7 := by unfold Wm.kind; rw [hgb, ← hkb]; rfl
  rw [e1] at hI
  rw [e2] at hKo
  rw [e3] at hKb
  rw [tRef_may hb1] at hM
  rw [tRef_val] at hM hR ⊢
  unfold WhatRes at hWb hWo
  obtain ⟨gb, ⟨kb, hb, vb, nb, lb, ob, yb, sb, fb⟩⟩ := xb
  obtain ⟨go, ⟨ko, ho, vo, no, lo', oo, yo, so, fo⟩⟩ := xo
  simp only at hWb hWo
  unfold OpenRes
  simp only
  have HTh := hide fun W' (f : Fr No W W') => there_w (h.no f)
  have HM := hide hM
  have HR := hide hR
  have HI := hide hI
  have HKo := hide hKo
  have HKb := hide hKb
  have HWb := hide hWb
  have HWo := hide hWo
  have h5 := (Blk.new W 28 #[.int .u8 4, .int .i64 0, .string ⟨#[]⟩, .slice none 0 0, .int .i64 b]).alloc (.cells #[.int .u8 0, .int .i64 0, .string ⟨#[]⟩, .slice none 0 0, .int .i64 0] 28)
  have h6 := Blk.new' (W.alloc (.cells #[.int .u8 4, .int .i64 0, .string ⟨#[]⟩, .slice none 0 0, .int .i64 b] 28)) 28 #[.int .u8 0, .int .i64 0, .string ⟨#[]⟩, .slice none 0 0, .int .i64 0] (g := W.heap.size + 1) (by simp)
  have hf0 := ((Fr.refl No W).alloc (.cells #[.int .u8 4, .int .i64 0, .string ⟨#[]⟩, .slice none 0 0, .int .i64 b] 28)).alloc (.cells #[.int .u8 0, .int .i64 0, .string ⟨#[]⟩, .slice none 0 0, .int .i64 0] 28)
  obtain ⟨e0, e1', e2', e3', e4, ef⟩ := h5.cells5
  have eq_ := h5.lt
  have HB := hide h5
  have HB6 := hide h6
  have HF := hide hf0
  clear hin hM hR hI hKo hKb hWb hWo e1 e2 e3 h5 h6 hf0 h hgo hko hmo hgb hkb hmb hb1 hb2 hln
  go_enter Tryz.func20, Tryz.ntmps20
  go_wp2_with fail
  generalize hW0 : World.alloc (World.alloc W _) _ = W0 at *
  refine (HTh.out W0 HF.out).mono ?_
  rintro e w' ⟨rfl, rfl⟩
  go_wp2_with fail
  refine (HM.out w' HF.out).mono ?_
  rintro e w1 ⟨rfl, ff⟩
  have hb' := HB.out.fr ff fun h => h
  replace HB6 := hide (HB6.out.fr ff fun h => h)
  replace HB := hide hb'
  have HF1 := hide (HF.out.trans ff)
  have hs0 : W.heap.size + 2 ≤ w'.heap.size := by rw [← hW0]; simp
  have HS0 := hide (Nat.le_trans hs0 ff.size)
  clear e0 e1' e2' e3' e4 ef eq_ ff hs0 hW0 HF
  obtain ⟨e0, e1, e2, e3, e4, ef⟩ := hb'.cells5
  have eq_ := hb'.lt
  clear hb'
  go_wp2_with fail
  refine (HI.out w1 HF1.out).mono ?_
  rintro e w2 ⟨rfl, rfl⟩
  go_wp2_with fail
  refine (HR.out w2 HF1.out).mono ?_
  rintro e w3 ⟨rfl, ff⟩
  have hb' := HB.out.fr ff fun h => h
  replace HB6 := hide (HB6.out.fr ff fun h => h)
  replace HB := hide hb'
  replace HF1 := hide (HF1.out.trans ff)
  replace HS0 := hide (Nat.le_trans HS0.out ff.size)
  clear e0 e1 e2 e3 e4 ef eq_ ff
  obtain ⟨e0, e1, e2, e3, e4, ef⟩ := hb'.cells5
  have eq_ := hb'.lt
  clear hb'
  go_wp2_with fail
  refine (HKo.out w3 HF1.out).mono ?_
  rintro e w4 ⟨rfl, rfl⟩
  go_wp2_with fail
  refine (HKb.out w4 HF1.out).mono ?_
  rintro e w5 ⟨rfl, rfl⟩
  go_wp2_with fail
  refine (HWb.out w5 HF1.out).mono ?_
  rintro e w6 ⟨⟨k1, n1, s1, A1, c1, l1, r1⟩, rfl, hv1, hsh1, f6⟩
  have hval1 : (Th.val ⟨kb, hb, T.mk k1 n1 s1 A1 c1 l1 r1, nb, lb, ob, yb, sb, fb⟩) = .agg (th16 kb hb k1 n1 s1 A1 l1.length c1 r1 nb lb ob yb sb fb) := rfl
  rw [hval1]
  unfold th16
  have fx := f6.alloc (.cells (th16 kb hb k1 n1 s1 A1 l1.length c1 r1 nb lb ob yb sb fb) 138)
  have b9 := Blk.new w6 138 (th16 kb hb k1 n1 s1 A1 l1.length c1 r1 nb lb ob yb sb fb)
  unfold th16 at fx b9
  have HSZ6 := hide f6.size
  have HSH1 := hide (hsh1.no ((Fr.refl No w6).alloc (.cells (th16 kb hb k1 n1 s1 A1 l1.length c1 r1 nb lb ob yb sb fb) 138)))
  unfold th16 at HSH1
  have HV1 := hide hv1
  replace HB6 := hide (HB6.out.fr fx fun h => h)
  have HB9 := hide b9
  have HF6 := hide (HF1.out.trans fx)
  have HS6 := hide (Nat.le_trans HS0.out fx.size)
  have HZ5 := hide HF1.out.size
  clear e0 e1 e2 e3 e4 ef eq_ hval1 hv1 hsh1 f6 fx b9 HB HF1 HM HR HI HKo HKb HTh HWb
  go_wp2_with fail
  generalize hg9 : w6.heap.size = g9 at *
  have HG9 : Hid (g9 ≤ (w6.alloc (.cells #[.int .u8 kb, .int .i64 hb, .int .u8 k1, .int .i64 n1, .string s1, .slice A1 l1.length c1, .int .i64 r1, .slice none 0 0, .int .i64 nb, .int .i64 lb, .int .i64 ob, .int .i64 yb, .int .u8 sb, .bool fb, .slice none 0 0, .slice none 0 0] 138)).heap.size) := hide (by simp; omega)
  generalize World.alloc w6 _ = w7 at *
  refine (HWo.out w7 HF6.out).mono ?_
  rintro e w8 ⟨⟨k2, n2, s2, A2, c2, l2, r2⟩, rfl, hv2, hsh2, f8⟩
  have hval2 : (Th.val ⟨ko, ho, T.mk k2 n2 s2 A2 c2 l2 r2, no, lo', oo, yo, so, fo⟩) = .agg (th16 ko ho k2 n2 s2 A2 l2.length c2 r2 no lo' oo yo so fo) := rfl
  rw [hval2]
  unfold th16
  have fx := f8.alloc (.cells (th16 ko ho k2 n2 s2 A2 l2.length c2 r2 no lo' oo yo so fo) 138)
  have b11 := Blk.new w8 138 (th16 ko ho k2 n2 s2 A2 l2.length c2 r2 no lo' oo yo so fo)
  unfold th16 at fx b11
  have b9 := HB9.out.fr fx fun h => h
  have b6 := HB6.out.fr fx fun h => h
  have HSH2 := hide (HSH1.out.no fx)
  have HF8 := hide (HF6.out.trans fx)
  have HF86 := hide fx
  have HS8 := hide (Nat.le_trans HS6.out fx.size)
  obtain ⟨d0, d1, d2, d3, d4, d5, d6, d7, d8, d9, d10, d11, d12, d13, d14, d15⟩ := b9.cells16
  have dq := b9.lt
  have p10 := b11.cell 10
  have pq := b11.lt
  obtain ⟨z0, z1, z2, z3, z4, zf⟩ := b6.cells5
  have zq := b6.lt
  simp only [List.getElem?_toArray, List.getElem?_cons_zero, List.getElem?_cons_succ] at p10
  clear hval2 hv2 hsh2 f8 fx b11 b9 b6 HB6 HB9 HF6 HWo
  by_cases hob : ob = oo
  · have hne : (ob != oo) = false := by simp [hob]
    go_wp2_with fail
    refine bodyPost_ret (v := .tuple #[.agg #[.int .u8 k1, .int .i64 n1, .string s1, .slice A1 l1.length c1, .int .i64 r1], .int .i64 0]) (by simp [results, Tryz.results20, go_sem, *]) rfl ?_
    generalize World.alloc w8 _ = w9 at *
    generalize hWe : World.setCell _ _ _ = We
    have fe : Fr (fun i => i = W.heap.size + 1) w9 We := by
      rw [← hWe]
      repeat (first | with_reducible exact Fr.refl _ w9 | with_reducible refine Fr.set ?_ (by simp) _)
    have hfr : Fr No W We := HF8.out.trans' fe fun i hi h => by omega
    have hbl : ∀ b ∈ (T.mk k1 n1 s1 A1 c1 l1 r1).blocks, W.heap.size + 2 ≤ b := fun b hb => by have := (T.In.blocks _ HSH2.out.inn b hb).1; have := HS0.out; omega
    have hsz := HZ5.out
    have hup := fe.size
    refine ⟨fun _ => ⟨T.mk k1 n1 s1 A1 c1 l1 r1, rfl, HV1.out, (HSH2.out.fr fe fun b hb h => by have := hbl b hb; omega).more (by omega) ?_⟩, fun h => absurd hob h, hfr⟩
    have h8 := HF86.out.size
    have h9 := HG9.out
    omega
  · have hne : (ob != oo) = true := by simp [hob]
    go_wp2_with fail
    refine bodyPost_ret (v := .tuple #[.agg #[.int .u8 0, .int .i64 0, .string ⟨#[]⟩, .slice none 0 0, .int .i64 0], .int .i64 91]) (by simp [results, Tryz.results20, go_sem, *]) rfl ?_
    generalize World.alloc w8 _ = w9 at *
    generalize hWe : World.setCell _ _ _ = We
    have fe : Fr (fun i => i = W.heap.size + 1) w9 We := by
      rw [← hWe]
      repeat (first | with_reducible exact Fr.refl _ w9 | with_reducible refine Fr.set ?_ (by simp) _)
    have hfr : Fr No W We := HF8.out.trans' fe fun i hi h => by omega
    exact ⟨fun h => absurd h hob, fun _ => rfl, hfr⟩

end Go.Proofs.YtlejelbefmkakaaGreat


namespace Go.Proofs.YtlejelbefmkakaaGreat
open Go.RowKit

/-- What a pair's or a row's mark looks like, out of what its parts' do. -/
def listMk (ps : List (Value → Prop)) (m : Value) : Prop :=
  match ps with
  | [p, q] => ∃ x y, m = .iface 276 (.agg #[x, y]) ∧ p x ∧ q y
  | _ => ∃ A len cap, m = .iface 279 (.agg #[.slice A len cap])

def mkOf (k n : Int) (s : ByteArray) (ps : List (Value → Prop)) (r : Int) (m : Value) : Prop :=
  if k = 1 then m = .iface 272 (.int .i64 n)
  else if k = 2 then m = .iface 273 (.string s)
  else if k = 4 then m = .iface 274 (.int .i64 r)
  else if k = 3 then listMk ps m
  else m = .iface 281 (.agg #[])

/-- What the mark of a value looks like. -/
def IsMk : V → Value → Prop
  | .mk k n s l r => mkOf k n s (l.map IsMk) r
termination_by v => v

theorem IsMk_mk (k n : Int) (s : ByteArray) (l : List V) (r : Int) : IsMk (.mk k n s l r) = mkOf k n s (l.map IsMk) r := by rw [IsMk]

theorem listMk_row {ps : List (Value → Prop)} {m : Value} (h : ps.length ≠ 2) : listMk ps m = ∃ A len cap, m = .iface 279 (.agg #[.slice A len cap]) := by
  match ps, h with
  | [], _ => rfl
  | [p], _ => rfl
  | [p, q], h => simp at h
  | p :: q :: x :: ps, _ => rfl

theorem mkOf.iface {k n : Int} {s : ByteArray} {ps : List (Value → Prop)} {r : Int} {m : Value} (h : mkOf k n s ps r m) : ∃ ty x, m = .iface ty x := by
  unfold mkOf at h
  by_cases h1 : k = 1
  · rw [if_pos h1] at h; exact ⟨_, _, h⟩
  rw [if_neg h1] at h
  by_cases h2 : k = 2
  · rw [if_pos h2] at h; exact ⟨_, _, h⟩
  rw [if_neg h2] at h
  by_cases h4 : k = 4
  · rw [if_pos h4] at h; exact ⟨_, _, h⟩
  rw [if_neg h4] at h
  by_cases h3 : k = 3
  · rw [if_pos h3] at h
    by_cases hl : ps.length = 2
    · obtain ⟨p, q, rfl⟩ : ∃ p q, ps = [p, q] := by
        match ps, hl with
        | [p, q], _ => exact ⟨p, q, rfl⟩
      obtain ⟨x, y, h, _⟩ := h; exact ⟨_, _, h⟩
    · rw [listMk_row hl] at h
      obtain ⟨A, le, ca, h⟩ := h; exact ⟨_, _, h⟩
  · rw [if_neg h3] at h; exact ⟨_, _, h⟩

theorem IsMk.iface {v : V} {m : Value} (h : IsMk v m) : ∃ ty x, m = .iface ty x := by
  cases v with
  | mk k n s l r => rw [IsMk_mk] at h; exact mkOf.iface h

def MarkP (v : V) (w : World) (e : Ending) (w' : World) : Prop := ∃ m, e = .returned m ∧ IsMk v m ∧ Fr No w w'

theorem Fr.grownNo {a w : World} (h : Fr No a w) : a.grownBy w none := ⟨h.os, h.tape, h.output, h.size, fun k hk _ => h.block k hk (fun h => h)⟩

theorem owns_no {a w : World} {base : Nat} {e : TypeId} {size : Nat} {v : Value} {n : Nat} {xs : List Value} (h : a.ownsRow base e size v n xs) (hf : Fr No a w) : w.ownsRow base e size v n xs :=
  h.kept hf.grownNo (by cases v.ownBlock <;> simp)

theorem mark_after {W0 w2 : World} {g base j : Nat} {v m : Value} {xs : List Value} (hb : Blk W0 g 279 #[v]) (ho : W0.ownsRow base 49 1 v j xs) (fr : Fr No W0.drew w2) :
    (w2.alloc (.cells #[m] 49)).ownsRow base 49 1 v j xs ∧ (w2.alloc (.cells #[m] 49)).cell? ⟨g, 0, none⟩ = some v ∧ (w2.alloc (.cells #[m] 49)).frozen? ⟨g, 0, none⟩ = false ∧ w2.cell? ⟨g, 0, none⟩ = some v ∧ W0.heap.size ≤ w2.heap.size ∧ g < w2.heap.size := by
  have h1 : Blk w2 g 279 #[v] := Blk.fr (a := W0.drew) hb fr (fun h => h)
  have h2 := h1.alloc (.cells #[m] 49)
  exact ⟨(owns_no (a := W0.drew) ho fr).alloc _, h2.cell 0, h2.frozen 0, h1.cell 0, fr.size, h1.lt⟩

theorem mark_grown {W w3 : World} {g : Nat} {v : Value} (hg : W.grownBy w3 v.ownBlock) (hc : W.cell? ⟨g, 0, none⟩ = some v) (hf : W.frozen? ⟨g, 0, none⟩ = false) (hlt : g < W.heap.size) (hne : some g ≠ v.ownBlock) :
    w3.cell? ⟨g, 0, none⟩ = some v ∧ w3.frozen? ⟨g, 0, none⟩ = false :=
  ⟨(hg.cell_far ⟨g, 0, none⟩ hlt hne).trans hc, (hg.frozen_far ⟨g, 0, none⟩ hlt hne).trans hf⟩

structure MarkInv (w : World) (X : Array Value) (j : Nat) (wr : World) : Prop where
  fr : Fr No w wr
  big : w.heap.size + 2 ≤ wr.heap.size
  row : ∃ v xs, Blk wr (w.heap.size + 1) 279 #[v] ∧ wr.ownsRow (w.heap.size + 2) 49 1 v j xs

theorem mark_info : (Tryz.prog.info? 49).map (fun i => (i.zero, i.size, i.bytes)) = some (some .nilIface, 1, 16) := by kernel_rfl

theorem at2 {α : Type} {l : List α} (h : l.length = 2) : ∃ a b, l = [a, b] := by
  match l, h with
  | [a, b], _ => exact ⟨a, b, rfl⟩

set_option maxRecDepth 100000 in
set_option maxHeartbeats 2000000 in
theorem mark_any (t : T) : ∀ (w : World) (lo hi : Nat), t.In w lo hi → hi ≤ w.heap.size → Calls Tryz.prog 163 #[t.val] w (MarkP t.v w) := by
  induction t using T.ind with
  | h k n s A cap l r ih =>
    intro w lo hi ht hh
    rw [T.val_mk]
    have fit := (T.in_mk.1 ht).1
    have hlen := fit.len1
    by_cases h3 : k = 3
    · subst h3
      by_cases hl2 : l.length = 2
      · obtain ⟨x1, x2, rfl⟩ := at2 hl2
        obtain ⟨b, o, k1, n1, s1, A1, cap1, l1, r1, rfl, hb0, hb1, rfl, hin, e0, e1, e2, e3, e4⟩ := T.elem ht (j := 0) (by simp)
        obtain ⟨b', o', k2, n2, s2, A2, cap2, l2, r2, hbb, hb0', hb1', rfl, hin', f0, f1, f2, f3, f4⟩ := T.elem ht (j := 1) (by simp)
        simp only [Option.some.injEq, Addr.mk.injEq, and_true] at hbb
        obtain ⟨rfl, rfl⟩ := hbb
        have IH1 := ih _ (by simp : T.mk k1 n1 s1 A1 cap1 l1 r1 ∈ _)
        have IH2 := ih _ (by simp : T.mk k2 n2 s2 A2 cap2 l2 r2 ∈ _)
        rw [T.val_mk] at IH1 IH2
        simp only [Nat.zero_mul, Nat.add_zero, Nat.one_mul] at e0 e1 e2 e3 e4 f0 f1 f2 f3 f4
        have hbw : b < w.heap.size := by omega
        have hbw' : b ≤ w.heap.size := by omega
        clear ih hl2
        go_enter Tryz.func163, Tryz.ntmps163
        go_wp2_with fail
        have frw := (Fr.refl No w).alloc (.cells #[.int .u8 3, .int .i64 n, .string s, .slice (some ⟨b, o, none⟩) 2 cap, .int .i64 r] 28)
        obtain ⟨c0, c1, c2, c3, c4, cf⟩ := (Blk.new w 28 #[.int .u8 3, .int .i64 n, .string s, .slice (some ⟨b, o, none⟩) 2 cap, .int .i64 r]).cells5
        have hin1 := hin.no frw hh
        have hin2 := hin'.no frw hh
        rw [← frw.cells _ _ hbw] at e0 e1 e2 e3 e4 f0 f1 f2 f3 f4
        have hsz0 : (w.alloc (.cells #[.int .u8 3, .int .i64 n, .string s, .slice (some ⟨b, o, none⟩) 2 cap, .int .i64 r] 28)).heap.size = w.heap.size + 1 := by simp
        generalize w.alloc (.cells #[.int .u8 3, .int .i64 n, .string s, .slice (some ⟨b, o, none⟩) 2 cap, .int .i64 r] 28) = W0 at *
        have hb2 : b < W0.heap.size := by omega
        have hb3 : w.heap.size < W0.heap.size := by omega
        have HF := hide frw
        have HZ := hide hsz0
        clear frw hsz0 hin hin' ht
        have hh0 : hi ≤ W0.heap.size := by have := HZ.out; omega
        go_region_held3 (fun w' => (∀ c i, c < W0.heap.size → w'.cell? ⟨c, i, none⟩ = W0.cell? ⟨c, i, none⟩) ∧ Fr No W0 w')
          (first | exact ⟨fun _ _ _ => rfl, Fr.drew (Fr.refl No W0)⟩ | (have hq : Fr No W0 _ := (‹_ ∧ Fr No W0 _›).2.trans ‹Fr No _ _›; exact ⟨hq.cells, hq⟩))
          (first
            | (go_at_call 163; have hs0 := (‹_ ∧ Fr No W0 _›).2; ((with_reducible refine (IH1 _ lo hi ?_ ?_).mono ?_); (exact hin1.no hs0 hh0); (exact Nat.le_trans hh0 hs0.size); rintro e w2 ⟨m1, rfl, hm1, fr1⟩; obtain ⟨ty1, y1, rfl⟩ := hm1.iface))
            | (go_at_call 163; have hs0 := (‹_ ∧ Fr No W0 _›).2; ((with_reducible refine (IH2 _ lo hi ?_ ?_).mono ?_); (exact hin2.no hs0 hh0); (exact Nat.le_trans hh0 hs0.size); rintro e w3 ⟨m2, rfl, hm2, fr2⟩; obtain ⟨ty2, y2, rfl⟩ := hm2.iface)))
        go_wp2
        go_ret
        refine ⟨_, rfl, ?_, ?_⟩
        · rw [T.v_mk, IsMk_mk]
          exact ⟨_, _, rfl, hm1, hm2⟩
        · exact HF.out.trans (‹Fr No W0 w2›.trans fr2)
      · have hl2' : ((l.length : Int) == 2) = false := by simp; omega
        obtain ⟨i0, hi0, hz0, hz1, hz2⟩ := info_parts mark_info
        go_enter Tryz.func163, Tryz.ntmps163
        go_wp2_with fail
        go_loopw [44] (fun i wr => ∃ j : Nat, j ≤ l.length ∧ i = .int .i64 j ∧ MarkInv w #[] j wr) (fun i _ => l.length - (intOf i).toNat)
        case atStart =>
          exact ⟨0, Nat.zero_le _, rfl, ((Fr.refl No w).alloc _).alloc _, by simp, _, [], Blk.new' (w.alloc _) 279 _ (by simp), World.ownsRow_nil _ _ _ _⟩
        case round =>
          obtain ⟨j, hj, rfl, inv⟩ := hrel
          have fr := inv.fr
          have big := inv.big
          obtain ⟨v, xs, blk, own⟩ := inv.row
          by_cases hlt : j < l.length
          · obtain ⟨b, o, k1, n1, s1, A1, cap1, l1, r1, rfl, hb0, hb1, hx, hin, e0, e1, e2, e3, e4⟩ := T.elem (ht.no fr hh) hlt
            have IH := ih l[j] (List.getElem_mem hlt)
            rw [hx, T.val_mk] at IH
            have HX := hide hx
            have hle := Nat.le_of_lt hlt
            clear hx ih inv
            have HT := hide ht
            clear ht
            go_wp2_with fail
            have blk1 := blk.alloc (.cells #[.int .u8 k1, .int .i64 n1, .string s1, .slice A1 l1.length cap1, .int .i64 r1] 28)
            have own1 := own.alloc (.cells #[.int .u8 k1, .int .i64 n1, .string s1, .slice A1 l1.length cap1, .int .i64 r1] 28)
            obtain ⟨x0, x1, x2, x3, x4, xf⟩ := (Blk.new wr 28 #[.int .u8 k1, .int .i64 n1, .string s1, .slice A1 l1.length cap1, .int .i64 r1]).cells5
            have frA := (Fr.refl No wr).alloc (.cells #[.int .u8 k1, .int .i64 n1, .string s1, .slice A1 l1.length cap1, .int .i64 r1] 28)
            have hinA := hin.no frA (by omega)
            have hszA : (wr.alloc (.cells #[.int .u8 k1, .int .i64 n1, .string s1, .slice A1 l1.length cap1, .int .i64 r1] 28)).heap.size = wr.heap.size + 1 := by simp
            generalize wr.alloc (.cells #[.int .u8 k1, .int .i64 n1, .string s1, .slice A1 l1.length cap1, .int .i64 r1] 28) = W0 at *
            have c0 := blk1.cell 0
            simp only [List.getElem?_toArray, List.getElem?_cons_zero] at c0
            have hv0 : ¬ v.ownBlock = some (w.heap.size + 1) := fun h => by have := own.lt _ h; omega
            have hv1 : ¬ v.ownBlock = some wr.heap.size := fun h => by have := own.lt _ h; omega
            have hq0 : w.heap.size + 1 < W0.heap.size := by omega
            have hq1 : wr.heap.size < W0.heap.size := by omega
            have hh0 : hi ≤ W0.heap.size := by omega
            have HF := hide frA
            have HZ := hide hszA
            have HB := hide blk1
            have HB0 := hide blk
            have HO := hide own
            have HO1 := hide own1
            have f0 := blk1.frozen 0
            have hv0' : some (w.heap.size + 1) ≠ v.ownBlock := Ne.symm hv0
            clear frA hszA blk1 hin e0 e1 e2 e3 e4 blk own own1
            go_region_law (first
              | ((refine step_append_lies _ (by rfl) _ _ _ (by rfl) (w.heap.size + 2) 49 i0 _ 1 16 Tryz.underlying277 hi0 hz0 hz1 hz2 rfl (by omega) v j xs (by rfl) ownD ⟨w2.heap.size, 0, none⟩ 1 1 [.iface ty1 y1] (by rfl) (by rfl) (cell_one_new _ _ _) (by simp [Value.oneCell']) (by omega) (by unfold maxLen; omega) (by omega) (by simp; omega) _ rfl ?_); intro g cp w3 hown3 hgrow hat hlt3; obtain ⟨c3, f3⟩ := mark_grown hgrow c2D f2D (by simp; omega) hv0')
              | (go_simp; go_at_call 163; (with_reducible refine (IH _ lo hi ?_ ?_).mono ?_); (exact hinA.no ((Fr.refl No W0).drew) hh0); (exact hh0); rintro e w2 ⟨m1, rfl, hm1, fr1⟩; obtain ⟨ty1, y1, rfl⟩ := hm1.iface; obtain ⟨ownD, c2D, f2D, c2, hsz2, hlt2⟩ := mark_after (m := .iface ty1 y1) HB.out HO1.out fr1))
            all_goals
              go_wp2
              go_roundw
              case rel =>
                have hb2 : Blk w3 (w.heap.size + 1) 279 #[v] := (hgrow.block (w.heap.size + 1) (by simp; omega) hv0').trans ((Blk.fr (a := W0.drew) HB.out fr1 (fun h => h)).alloc _)
                have hF : Fr No w w3 := (((((fr.thenNo HF.out).drew).thenNo fr1).alloc _).grown hgrow (fun c hc hlt => by have := HO.out.lt c hc; omega))
                exact ⟨j + 1, hlt, by go_num, hF.setNew (by simp) _, Nat.le_trans (by omega) (show w2.heap.size ≤ _ by have := hgrow.size; simp at this ⊢; omega), _, _, hb2.set_ 0 _, ownsRow_setCell_below hown3 (by simp) _⟩
              case measure => simp [intOf]; omega
          · obtain rfl : l.length = j := by omega
            have c0 := blk.cell 0
            simp only [List.getElem?_toArray, List.getElem?_cons_zero] at c0
            obtain ⟨A', n', c', rfl⟩ : ∃ A' n' c', v = .slice A' n' c' := by
              rcases own.2 with ⟨rfl, _⟩ | ⟨g, cp, cur, rfl, _⟩
              · exact ⟨_, _, _, rfl⟩
              · exact ⟨_, _, _, rfl⟩
            have HI := hide inv
            have HO := hide own
            clear inv own ih
            go_wp2
            go_ret
            refine ⟨_, rfl, ?_, HI.out.fr⟩
            rw [T.v_mk, IsMk_mk]
            show listMk _ _
            rw [listMk_row (by simpa using hl2)]
            exact ⟨_, _, _, rfl⟩
    · by_cases h1 : k = 1
      · subst h1
        go_enter Tryz.func163, Tryz.ntmps163
        go_wp2
        go_ret
        exact ⟨_, rfl, by rw [T.v_mk, IsMk_mk]; rfl, (Fr.refl No w).alloc _⟩
      have k1 : (k == 1) = false := by simp; exact h1
      by_cases h2 : k = 2
      · subst h2
        go_enter Tryz.func163, Tryz.ntmps163
        go_wp2
        go_ret
        exact ⟨_, rfl, by rw [T.v_mk, IsMk_mk]; rfl, (Fr.refl No w).alloc _⟩
      have k2 : (k == 2) = false := by simp; exact h2
      by_cases h4 : k = 4
      · subst h4
        go_enter Tryz.func163, Tryz.ntmps163
        go_wp2
        go_ret
        exact ⟨_, rfl, by rw [T.v_mk, IsMk_mk]; rfl, (Fr.refl No w).alloc _⟩
      have k4 : (k == 4) = false := by simp; exact h4
      have k3 : (k == 3) = false := by simp; exact h3
      go_enter Tryz.func163, Tryz.ntmps163
      go_wp2
      go_ret
      exact ⟨_, rfl, by rw [T.v_mk, IsMk_mk, mkOf, if_neg h1, if_neg h2, if_neg h4, if_neg h3]; rfl, (Fr.refl No w).alloc _⟩
end Go.Proofs.YtlejelbefmkakaaGreat

/- brand.Of: the mark of a value that may be. -/
namespace Go.Proofs.YtlejelbefmkakaaGreat
open Go.RowKit

def OfP (v : V) (w : World) (e : Ending) (w' : World) : Prop :=
  (v.may = true → ∃ m, e = .returned (.tuple #[m, .int .i64 0]) ∧ IsMk v m ∧ Fr No w w') ∧ (v.may = false → e = .returned (.tuple #[.nilIface, .int .i64 2]) ∧ Fr No w w')

set_option maxHeartbeats 1000000 in
theorem Of_any (t : T) (w : World) (lo hi : Nat) (ht : t.In w lo hi) (hh : hi ≤ w.heap.size) : Calls Tryz.prog 92 #[t.val] w (OfP t.v w) := by
  have hM := fun w' h h' => may_any t w' lo hi h h'
  have hO := fun w' h h' => mark_any t w' lo hi h h'
  cases t with
  | mk k n s A cap l r =>
    rw [T.val_mk] at *
    cases hm : (T.mk k n s A cap l r).v.may
    · rw [hm] at hM
      have HM := hide hm
      clear hm hO
      go_enter Tryz.func92, Tryz.ntmps92
      go_wp2_with fail
      refine (hM _ (ht.no (((Fr.refl No w).alloc _)) hh) (by simp; omega)).mono ?_
      rintro e w2 ⟨rfl, fr2⟩
      go_wp2
      go_ret2
      exact ⟨fun h => (by rw [HM.out] at h; cases h), fun _ => ⟨rfl, ((Fr.refl No w).alloc _).trans fr2⟩⟩
    · rw [hm] at hM
      have HM := hide hm
      clear hm
      go_enter Tryz.func92, Tryz.ntmps92
      go_wp2_with fail
      refine (hM _ (ht.no (((Fr.refl No w).alloc _)) hh) (by simp; omega)).mono ?_
      rintro e w2 ⟨rfl, fr2⟩
      have b0 := ((Blk.new' w 28 #[.int .u8 k, .int .i64 n, .string s, .slice A l.length cap, .int .i64 r] (g := w.heap.size) rfl)).fr fr2 (fun h => h)
      obtain ⟨c0, c1, c2, c3, c4, cf⟩ := b0.cells5
      have hF2 : Fr No w w2 := ((Fr.refl No w).alloc _).trans fr2
      have ht2 := ht.no hF2 hh
      have hh2 : hi ≤ w2.heap.size := Nat.le_trans hh hF2.size
      clear b0 ht
      go_wp2_with fail
      refine (hO _ ht2 hh2).mono ?_
      rintro e w3 ⟨m, rfl, hmk, fr3⟩
      obtain ⟨ty, y, rfl⟩ := hmk.iface
      go_wp2
      go_ret2
      exact ⟨fun _ => ⟨_, rfl, hmk, hF2.trans fr3⟩, fun h => by rw [HM.out] at h; cases h⟩

end Go.Proofs.YtlejelbefmkakaaGreat

/- What Go's own == of two marks comes to. -/
namespace Go.Proofs.YtlejelbefmkakaaGreat
open Go.RowKit

/-- The kinds of marks: 5 is a row. -/
def shp (k : Int) (len : Nat) : Int := if k = 3 then (if len = 2 then 3 else 5) else if k = 1 then 1 else if k = 2 then 2 else if k = 4 then 4 else 0

/-- Two leaves of one kind: are they the same? -/
def leafEq (k n : Int) (s : ByteArray) (r n' : Int) (s' : ByteArray) (r' : Int) : Bool :=
  if k = 1 then n == n' else if k = 2 then s.toList == s'.toList else if k = 4 then r == r' else true

def pairCmp (ps : List (V → Nat)) (l : List V) : Nat :=
  match ps, l with
  | [f, g], [a, b] => if f a = 1 then g b else f a
  | _, _ => 2

def cmpOf (k n : Int) (s : ByteArray) (ps : List (V → Nat)) (r : Int) : V → Nat
  | .mk k' n' s' l' r' =>
    if shp k ps.length = shp k' l'.length then
      (if k = 3 then pairCmp ps l' else if leafEq k n s r n' s' r' = true then 1 else 0)
    else 0

/-- What the comparison of two marks comes to: 0 Unequal, 1 Equal, 2 Panics. -/
def V.cmp : V → V → Nat
  | .mk k n s l r => cmpOf k n s (l.map V.cmp) r
termination_by v => v

theorem V.cmp_mk (k n : Int) (s : ByteArray) (l : List V) (r : Int) : (V.mk k n s l r).cmp = cmpOf k n s (l.map V.cmp) r := by rw [V.cmp]

/-- What a run of == comes to. -/
def EqRes (res : Result Bool) (c : Nat) (w : World) : Prop :=
  (c = 0 ∧ res = .ok false w) ∨ (c = 1 ∧ res = .ok true w) ∨ (c = 2 ∧ ∃ s, res = .halt (.panic (.iface 10 (.string s))) w)

theorem typeStr_row (w : World) : (typeStr 279).run Tryz.prog w = .ok "brand.row" w := by kernel_rfl

theorem runtimePanic_error (m : String) (w : World) : (runtimePanic (α := Bool) (.error m)).run Tryz.prog w = .halt (.panic (.iface 10 (strVal m))) w := by
  have h : Tryz.prog.rt.errorString = 10 := by kernel_rfl
  simp [runtimePanic, run_program, goPanic]

theorem ty_comparable (t : TypeId) (b : Bool) (h : (Tryz.prog.info? t).map (·.comparable) = some b) : ∃ i, Tryz.prog.info? t = some i ∧ i.comparable = b := by
  cases hi : Tryz.prog.info? t with
  | none => rw [hi] at h; cases h
  | some i => rw [hi] at h; exact ⟨i, rfl, by simpa using h⟩

theorem cmp176 : (Tryz.prog.info? 272).map (·.comparable) = some true := by kernel_rfl
theorem cmp177 : (Tryz.prog.info? 273).map (·.comparable) = some true := by kernel_rfl
theorem cmp178 : (Tryz.prog.info? 274).map (·.comparable) = some true := by kernel_rfl
theorem cmp180 : (Tryz.prog.info? 276).map (·.comparable) = some true := by kernel_rfl
theorem cmp183 : (Tryz.prog.info? 279).map (·.comparable) = some false := by kernel_rfl
theorem cmp185 : (Tryz.prog.info? 281).map (·.comparable) = some true := by kernel_rfl
theorem packed183 : Tryz.prog.holdsPacked Tryz.prog.depth 279 = false := by kernel_rfl
theorem ms45 : ∃ ms, Tryz.prog.underlying 49 = some (.interface ms) := ⟨_, Tryz.underlying49⟩

/-- Two marks of unlike types. -/
theorem eq_unlike {d : Nat} {a b : TypeId} {x y : Value} {w : World} (h : a ≠ b) : (Op.equalIn (d + 1) 49 (.iface a x) (.iface b y)).run Tryz.prog w = .ok false w := by
  obtain ⟨ms, h45⟩ := ms45
  simp [Op.equalIn, run_underlying h45, h]

/-- Two marks of one type that can be compared. -/
theorem eq_like {d : Nat} {a : TypeId} {x y : Value} {w : World} (h : (Tryz.prog.info? a).map (·.comparable) = some true) :
    (Op.equalIn (d + 1) 49 (.iface a x) (.iface a y)).run Tryz.prog w = (Op.equalIn d a x y).run Tryz.prog w := by
  obtain ⟨ms, h45⟩ := ms45
  obtain ⟨i, hi, hc⟩ := ty_comparable a true h
  simp [Op.equalIn, run_underlying h45, typeInfo, hi, hc]

/-- Two rows. -/
theorem eq_rows {d : Nat} {x y : Value} {w : World} : ∃ s, (Op.equalIn (d + 1) 49 (.iface 279 x) (.iface 279 y)).run Tryz.prog w = .halt (.panic (.iface 10 (.string s))) w := by
  obtain ⟨ms, h45⟩ := ms45
  obtain ⟨i, hi, hc⟩ := ty_comparable 279 false cmp183
  obtain ⟨s, hs⟩ : ∃ s, strVal ("comparing uncomparable type " ++ "brand.row") = .string s := ⟨_, rfl⟩
  refine ⟨s, ?_⟩
  rw [← hs]
  simp [Op.equalIn, run_underlying h45, typeInfo, hi, hc, run_program, packed183, typeStr_row, runtimePanic_error]

/-- The dynamic type of a mark. -/
def mty (c : Int) : TypeId := if c = 1 then 272 else if c = 2 then 273 else if c = 4 then 274 else if c = 3 then 276 else if c = 5 then 279 else 281

theorem mty_ne {c c' : Int} (hc : c = 0 ∨ c = 1 ∨ c = 2 ∨ c = 3 ∨ c = 4 ∨ c = 5) (hc' : c' = 0 ∨ c' = 1 ∨ c' = 2 ∨ c' = 3 ∨ c' = 4 ∨ c' = 5) (h : c ≠ c') : mty c ≠ mty c' := by
  rcases hc with rfl | rfl | rfl | rfl | rfl | rfl <;> rcases hc' with rfl | rfl | rfl | rfl | rfl | rfl <;> simp_all [mty]

theorem shp_range (k : Int) (len : Nat) : shp k len = 0 ∨ shp k len = 1 ∨ shp k len = 2 ∨ shp k len = 3 ∨ shp k len = 4 ∨ shp k len = 5 := by
  unfold shp
  by_cases h3 : k = 3
  · by_cases h2 : len = 2 <;> simp [h3, h2]
  by_cases h1 : k = 1
  · simp [h1]
  by_cases h2 : k = 2
  · simp [h2]
  by_cases h4 : k = 4
  · simp [h4]
  · simp [h1, h2, h3, h4]

theorem mkOf.ty {k n : Int} {s : ByteArray} {ps : List (Value → Prop)} {r : Int} {m : Value} (h : mkOf k n s ps r m) : ∃ x, m = .iface (mty (shp k ps.length)) x := by
  unfold mkOf at h
  by_cases h1 : k = 1
  · rw [if_pos h1] at h; subst h1; exact ⟨_, h⟩
  rw [if_neg h1] at h
  by_cases h2 : k = 2
  · rw [if_pos h2] at h; subst h2; exact ⟨_, h⟩
  rw [if_neg h2] at h
  by_cases h4 : k = 4
  · rw [if_pos h4] at h; subst h4; exact ⟨_, h⟩
  rw [if_neg h4] at h
  by_cases h3 : k = 3
  · rw [if_pos h3] at h
    subst h3
    by_cases hl : ps.length = 2
    · obtain ⟨p, q, rfl⟩ : ∃ p q, ps = [p, q] := at2 hl
      obtain ⟨x, y, h, _⟩ := h; exact ⟨_, h⟩
    · rw [listMk_row hl] at h
      obtain ⟨A, le, ca, h⟩ := h
      have : mty (shp 3 ps.length) = 279 := by simp [shp, hl, mty]
      rw [this]; exact ⟨_, h⟩
  · rw [if_neg h3] at h
    have : mty (shp k ps.length) = 281 := by simp [shp, h1, h2, h3, h4, mty]
    rw [this]; exact ⟨_, h⟩

theorem eq_pair {d : Nat} {x y x' y' : Value} {w : World} {c1 c2 : Nat} (hx : ∃ t v, x = .iface t v) (hy : ∃ t v, y = .iface t v) (hx' : ∃ t v, x' = .iface t v) (hy' : ∃ t v, y' = .iface t v)
    (h1 : EqRes ((Op.equalIn d 49 x x').run Tryz.prog w) c1 w) (h2 : EqRes ((Op.equalIn d 49 y y').run Tryz.prog w) c2 w) :
    EqRes ((Op.equalIn (d + 1) 276 (.agg #[x, y]) (.agg #[x', y'])).run Tryz.prog w) (if c1 = 1 then c2 else c1) w := by
  obtain ⟨t1, v1, rfl⟩ := hx
  obtain ⟨t2, v2, rfl⟩ := hy
  obtain ⟨t3, v3, rfl⟩ := hx'
  obtain ⟨t4, v4, rfl⟩ := hy'
  have e : (Op.equalIn (d + 1) 276 (.agg #[.iface t1 v1, .iface t2 v2]) (.agg #[.iface t3 v3, .iface t4 v4])).run Tryz.prog w =
      ((Sem.run Tryz.prog (Op.equalIn d 49 (Value.iface t1 v1) (Value.iface t3 v3)) w).andThen fun a w' =>
        if a = false then Result.ok false w'
        else
          (Sem.run Tryz.prog (Op.equalIn d 49 (Value.iface t2 v2) (Value.iface t4 v4)) w').andThen fun a w' =>
            if a = false then Result.ok false w' else Result.ok true w') := by simp [go_sem]
  rw [e]
  rcases h1 with ⟨rfl, h1⟩ | ⟨rfl, h1⟩ | ⟨rfl, s, h1⟩
  · rw [h1]; exact .inl ⟨rfl, rfl⟩
  · rw [h1]
    simp only [Result.andThen_ok, if_pos]
    rcases h2 with ⟨rfl, h2⟩ | ⟨rfl, h2⟩ | ⟨rfl, s, h2⟩
    · simp [h2]; exact .inl ⟨rfl, rfl⟩
    · simp [h2]; exact .inr (.inl ⟨rfl, rfl⟩)
    · simp [h2]; exact .inr (.inr ⟨rfl, s, rfl⟩)
  · rw [h1]; exact .inr (.inr ⟨rfl, s, rfl⟩)

theorem eqRes_bool {b : Bool} {w : World} {res : Result Bool} (h : res = .ok b w) : EqRes res (if b = true then 1 else 0) w := by
  cases b
  · exact .inl ⟨rfl, h⟩
  · exact .inr (.inl ⟨rfl, h⟩)

theorem run_eq (u : V) : ∀ (v : V) (d : Nat) (m1 m2 : Value) (w : World), 2 * u.dep + 2 ≤ d → IsMk u m1 → IsMk v m2 → EqRes ((Op.equalIn d 49 m1 m2).run Tryz.prog w) (u.cmp v) w := by
  induction u using V.ind with
  | h k n s l r ih =>
    intro v d m1 m2 w hd h1 h2
    cases v with
    | mk k' n' s' l' r' =>
      rw [IsMk_mk] at h1 h2
      rw [V.cmp_mk, cmpOf]
      simp only [List.length_map]
      obtain ⟨d, rfl⟩ : ∃ e, d = e + 2 := ⟨d - 2, by omega⟩
      by_cases hs : shp k l.length = shp k' l'.length
      · rw [if_pos hs]
        by_cases h3 : k = 3
        · subst h3
          rw [if_pos rfl]
          have hk' : k' = 3 ∧ (l.length = 2 ↔ l'.length = 2) := by
            unfold shp at hs
            by_cases hl : l.length = 2 <;> by_cases h3' : k' = 3 <;> by_cases hl' : l'.length = 2 <;> simp [hl, h3', hl'] at hs ⊢ <;> (repeat' split at hs) <;> omega
          obtain ⟨rfl, hll⟩ := hk'
          have e1 : listMk (l.map IsMk) m1 := by simpa [mkOf] using h1
          have e2 : listMk (l'.map IsMk) m2 := by simpa [mkOf] using h2
          by_cases hl : l.length = 2
          · obtain ⟨a, b, rfl⟩ := at2 hl
            obtain ⟨a', b', rfl⟩ := at2 (hll.1 hl)
            obtain ⟨x, y, rfl, hx, hy⟩ := e1
            obtain ⟨x', y', rfl, hx', hy'⟩ := e2
            rw [eq_like cmp180]
            have hda : a.dep ≤ top [a.dep, b.dep] := le_top (by simp)
            have hdb : b.dep ≤ top [a.dep, b.dep] := le_top (by simp)
            rw [V.dep_mk, if_pos rfl] at hd
            simp only [List.map_cons, List.map_nil] at hd
            have g := eq_pair hx.iface hy.iface hx'.iface hy'.iface (ih a (by simp) a' d x x' w (by omega) hx hx') (ih b (by simp) b' d y y' w (by omega) hy hy')
            exact g
          · rw [listMk_row (by simpa using hl)] at e1
            rw [listMk_row (by simpa using fun h => hl (hll.2 h))] at e2
            obtain ⟨A1, n1, c1, rfl⟩ := e1
            obtain ⟨A2, n2, c2, rfl⟩ := e2
            have hp : pairCmp (l.map V.cmp) l' = 2 := by
              match l, hl with
              | [], _ => rfl
              | [a], _ => rfl
              | [a, b], hl => simp at hl
              | a :: b :: c :: l, _ => rfl
            rw [hp]
            obtain ⟨s, hs⟩ := eq_rows (d := d + 1) (x := .agg #[.slice A1 n1 c1]) (y := .agg #[.slice A2 n2 c2]) (w := w)
            exact .inr (.inr ⟨rfl, s, hs⟩)
        · rw [if_neg h3]
          unfold mkOf at h1 h2
          by_cases k1 : k = 1
          · subst k1
            have e : k' = 1 := by
              unfold shp at hs
              by_cases h3' : k' = 3 <;> by_cases hl' : l'.length = 2 <;> simp [h3', hl'] at hs ⊢ <;> (repeat' split at hs) <;> omega
            subst e
            simp at h1 h2
            subst h1 h2
            rw [eq_like cmp176]
            refine eqRes_bool ?_
            simp [go_sem, leafEq]
          by_cases k2 : k = 2
          · subst k2
            have e : k' = 2 := by
              unfold shp at hs
              by_cases h3' : k' = 3 <;> by_cases hl' : l'.length = 2 <;> simp [h3', hl'] at hs ⊢ <;> (repeat' split at hs) <;> omega
            subst e
            simp at h1 h2
            subst h1 h2
            rw [eq_like cmp177]
            refine eqRes_bool ?_
            simp [go_sem, leafEq]
          by_cases k4 : k = 4
          · subst k4
            have e : k' = 4 := by
              unfold shp at hs
              by_cases h3' : k' = 3 <;> by_cases hl' : l'.length = 2 <;> simp [h3', hl'] at hs ⊢ <;> (repeat' split at hs) <;> omega
            subst e
            simp at h1 h2
            subst h1 h2
            rw [eq_like cmp178]
            refine eqRes_bool ?_
            simp [go_sem, leafEq]
          have e : k' ≠ 1 ∧ k' ≠ 2 ∧ k' ≠ 4 ∧ k' ≠ 3 := by
            unfold shp at hs
            by_cases h3' : k' = 3 <;> by_cases hl' : l'.length = 2 <;> simp [h3, k1, k2, k4, h3', hl'] at hs ⊢ <;> (repeat' split at hs) <;> omega
          obtain ⟨e1, e2, e4, e3⟩ := e
          rw [if_neg k1, if_neg k2, if_neg k4, if_neg h3] at h1
          rw [if_neg e1, if_neg e2, if_neg e4, if_neg e3] at h2
          subst h1 h2
          rw [eq_like cmp185]
          refine eqRes_bool ?_
          simp [go_sem, leafEq, k1, k2, k4]
      · rw [if_neg hs]
        obtain ⟨x, rfl⟩ := h1.ty
        obtain ⟨y, rfl⟩ := h2.ty
        simp only [List.length_map]
        exact .inl ⟨rfl, eq_unlike (mty_ne (shp_range _ _) (shp_range _ _) hs)⟩

end Go.Proofs.YtlejelbefmkakaaGreat

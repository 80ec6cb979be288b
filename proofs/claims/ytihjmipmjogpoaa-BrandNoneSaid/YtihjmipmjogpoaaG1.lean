/- (*Table).Get: what it answers. -/
import Derived.Test.YtihjmipmjogpoaaPut3
namespace Go.Proofs.Ytihjmipmjogpoaa
open Go.RowKit

/-- Get's error: a key that may not be; a mark that can't be a key. -/
def getErr (k : V) : Int := if k.may = true then (if k.keys = true then 0 else 40) else 2

theorem zero_may : V.zero.may = true := by simp [V.zero, V.may, V.fits, V.ok_mk, V.size_mk, V.dep_mk, fok, ByteArray.toList_eq, top]

set_option maxRecDepth 10000 in
set_option maxHeartbeats 4000000 in
theorem Get_err (a : T) (w : World) (lo hi : Nat) (ha : a.In w lo hi) (hh : hi ≤ w.heap.size) (tb M O : Nat) (c : Int) (hT : Blk w tb 66 #[.map (some M), .map (some O), .int .i64 c]) (he : getErr a.v ≠ 0) :
    Calls Try.prog 30 #[.pointer (some ⟨tb, 0, none⟩), a.val] w fun e w' => e = .returned (tripZ (getErr a.v)) ∧ Fr No w w' := by
  have hF := fun w' h h' h'' => find_any a w' lo hi h h' tb M O c h''
  cases a with
  | mk k n s A cap l r =>
    rw [T.val_mk] at *
    generalize hu : (T.mk k n s A cap l r).v = u at *
    have hW : Fr No w ((w.alloc (.cells #[.int .u8 k, .int .i64 n, .string s, .slice A l.length cap, .int .i64 r] 27)).alloc (.cells #[.int .u8 0, .int .i64 0, .string ⟨#[]⟩, .slice none 0 0, .int .i64 0] 27)) := ((Fr.refl No w).alloc _).alloc _
    have hK : Blk ((w.alloc (.cells #[.int .u8 k, .int .i64 n, .string s, .slice A l.length cap, .int .i64 r] 27)).alloc (.cells #[.int .u8 0, .int .i64 0, .string ⟨#[]⟩, .slice none 0 0, .int .i64 0] 27)) w.heap.size 27 #[.int .u8 k, .int .i64 n, .string s, .slice A l.length cap, .int .i64 r] := (Blk.new' w 27 _ rfl).alloc _
    have hZ : Blk ((w.alloc (.cells #[.int .u8 k, .int .i64 n, .string s, .slice A l.length cap, .int .i64 r] 27)).alloc (.cells #[.int .u8 0, .int .i64 0, .string ⟨#[]⟩, .slice none 0 0, .int .i64 0] 27)) (w.heap.size + 1) 27 #[.int .u8 0, .int .i64 0, .string ⟨#[]⟩, .slice none 0 0, .int .i64 0] := Blk.new' (w.alloc _) 27 _ (by simp)
    have hT0 := hT.fr hW (fun h => h)
    have ha0 := ha.no hW hh
    have hsz : w.heap.size + 2 ≤ ((w.alloc (.cells #[.int .u8 k, .int .i64 n, .string s, .slice A l.length cap, .int .i64 r] 27)).alloc (.cells #[.int .u8 0, .int .i64 0, .string ⟨#[]⟩, .slice none 0 0, .int .i64 0] 27)).heap.size := by simp
    have HU := hide hu
    clear hu ha hT
    have hd : (u.may = false ∧ getErr u = 2) ∨ (u.may = true ∧ u.keys = false ∧ getErr u = 40) := by
      unfold getErr at *
      cases hm : u.may with
      | false => exact .inl ⟨rfl, by simp⟩
      | true =>
        cases hk : u.keys with
        | false => exact .inr ⟨rfl, rfl, by simp⟩
        | true => rw [hm, hk] at he; exact absurd rfl he
    have HD := hide hd
    clear hd he
    go_enter Try.func30, Try.ntmps30
    go_wp2_with fail
    generalize World.alloc _ (.cells #[.int .u8 0, .int .i64 0, .string ⟨#[]⟩, .slice none 0 0, .int .i64 0] 27) = W0 at *
    refine (hF _ ha0 (by omega) hT0).mono ?_
    rintro e w4 ⟨-, h2, h3⟩
    obtain ⟨eq, E1, fr4, ne⟩ : ∃ eq : Int, getErr u = eq ∧ (e = .returned (.tuple #[.nilIface, .int .i64 eq]) ∧ Fr No W0 w4) ∧ (eq = 2 ∨ eq = 40) := by
      rcases HD.out with ⟨hm, e1⟩ | ⟨hm, hk, e1⟩
      · exact ⟨2, e1, h3 hm, .inl rfl⟩
      · exact ⟨40, e1, h2 hm hk, .inr rfl⟩
    obtain ⟨rfl, fr4⟩ := fr4
    obtain ⟨d0, d1, d2, d3, d4, df⟩ := (hZ.fr fr4 (fun h => h)).cells5
    have hF2 := hide (hW.trans fr4)
    have q0 : w.heap.size + 1 < w4.heap.size := by have := fr4.size; omega
    have EH := hide E1
    clear h2 h3 hZ hK hT0 ha0 hW hF fr4 E1
    rcases ne with rfl | rfl
    · go_wp2
      refine bodyPost_ret (v := tripZ 2) (by simp [results, Try.results30, go_sem, tripZ, *]) rfl ?_
      refine ⟨by rw [EH.out], ?_⟩
      have hF2' := hF2.out
      repeat (first | with_reducible exact hF2' | with_reducible refine Fr.setNew ?_ (by first | (simp; done) | (simp; omega)) _)
    · go_wp2
      refine bodyPost_ret (v := tripZ 40) (by simp [results, Try.results30, go_sem, tripZ, *]) rfl ?_
      refine ⟨by rw [EH.out], ?_⟩
      have hF2' := hF2.out
      repeat (first | with_reducible exact hF2' | with_reducible refine Fr.setNew ?_ (by first | (simp; done) | (simp; omega)) _)

/-- What the table has under a key, in new memory; or nothing. -/
def GotAt (v : V) (b : Bool) (w : World) (e : Ending) (w' : World) : Prop :=
  ∃ t' : T, e = .returned (.tuple #[t'.val, .bool b, .int .i64 0]) ∧ t'.v = v ∧ t'.Ow w' w.heap.size w'.heap.size ∧ Fr No w w'

/-- The entry that a look-up answers. -/
def theEnt (k v : T) (c : Int) : Value := .agg (k.cells ++ (v.cells ++ [Value.int .i64 c])).toArray

set_option maxRecDepth 10000 in
set_option maxHeartbeats 4000000 in
theorem Get_ok (a : T) (w : World) (alo ahi : Nat) (ha : a.In w alo ahi) (hh : ahi ≤ w.heap.size) (lo tb M O : Nat) (l : List Ent) (came : Nat) (hT : Tab w lo w.heap.size tb M O l came)
    (hma : a.v.may = true) (hk : a.v.keys = true) :
    Calls Try.prog 30 #[.pointer (some ⟨tb, 0, none⟩), a.val] w (GotAt (match pos a.v (l.map fun e => e.k.v) with | some i => ((l[i]?.map fun x => x.v.v).getD V.zero) | none => V.zero) (pos a.v (l.map fun e => e.k.v)).isSome w) := by
  have hF := fun w' h h' h'' => find_any a w' alo ahi h h' tb M O came h''
  have hd := may_dep hma
  -- what the look-up answers
  obtain ⟨xk, xv, xc, b, hlk, hlk', hxm⟩ : ∃ (xk xv : T) (xc : Int) (b : Bool), (pos a.v (l.map fun e => e.k.v)).isSome = b ∧
      (∃ hb : (match pos a.v (l.map fun e => e.k.v) with | some i => ((l[i]?.map fun x => x.v.v).getD V.zero) | none => V.zero) = xv.v, xv.v.may = true ∧ xv.In w 0 w.heap.size) ∧
      (∀ (w4 : World) (m : Value), Tab w4 lo w4.heap.size tb M O l came → IsMk a.v m → (Instr.lookup 63 (.map (some M)) m true).run Try.prog w4 = .ok (.tuple #[theEnt xk xv xc, .bool b]) w4) := by
    cases hp : pos a.v (l.map fun e => e.k.v) with
    | none =>
      refine ⟨T.zero, T.zero, 0, false, rfl, ⟨T.zero_v.symm, by rw [T.zero_v]; exact zero_may, (T.zero_ow _ _ _).inn⟩, fun w4 m hT4 hmk => ?_⟩
      obtain ⟨es, cl, hm4, hes⟩ := hT4.m
      have hl4 := run_lookup_mark Try.underlying63 w4 (zero_ent _) a.v _ hmk hd hk true hm4 hes.keys (fun v _ => keys_ne2 a.v hk v)
      rw [hp] at hl4
      simpa [found, theEnt, T.zero, T.cells] using hl4
    | some i =>
      have hkx := pos_some hma hk (fun v hv => by obtain ⟨e, he, rfl⟩ := List.mem_map.1 hv; exact (hT.may e he).1) hp
      rw [List.getElem?_map] at hkx
      cases hx : l[i]? with
      | none => rw [hx] at hkx; cases hkx
      | some x =>
        refine ⟨x.k, x.v, (x.c : Int), true, rfl, ⟨by simp [hx], (hT.may x (List.mem_of_getElem? hx)).2.2, ?_⟩, fun w4 m hT4 hmk => ?_⟩
        · exact T.In.more (Nat.zero_le _) (Nat.le_refl _) _ (hT.forest.inn x.v (by unfold trees; exact List.mem_flatMap.2 ⟨x, List.mem_of_getElem? hx, by simp⟩))
        · obtain ⟨es, cl, hm4, hes⟩ := hT4.m
          have hl4 := run_lookup_mark Try.underlying63 w4 (zero_ent _) a.v _ hmk hd hk true hm4 hes.keys (fun v _ => keys_ne2 a.v hk v)
          rw [hp] at hl4
          obtain ⟨hi, hxi⟩ := List.getElem?_eq_some_iff.1 hx
          have hei := List.getElem?_eq_getElem (l := es.toList) (i := i) (by rw [hes.1]; exact hi)
          have hev := (hes.2 i _ x hei hx).2
          simp only [found, hei, Option.map_some, hev] at hl4
          exact hl4
  rw [hlk]
  obtain ⟨hb, hxv, hxin⟩ := hlk'
  rw [hb]
  clear hb hlk
  have hO := fun w' h h' => bown_any xv w' 0 w.heap.size h h' hxv
  cases a with
  | mk k n s A cap l1 r =>
  cases xk with
  | mk xk xn xs xA xcap xl xr =>
  cases xv with
  | mk yk yn ys yA ycap yl yr =>
    rw [T.val_mk] at *
    generalize hu : (T.mk k n s A cap l1 r).v = u at *
    generalize hv : (T.mk yk yn ys yA ycap yl yr).v = v at *
    have hW : Fr No w ((w.alloc (.cells #[.int .u8 k, .int .i64 n, .string s, .slice A l1.length cap, .int .i64 r] 27)).alloc (.cells #[.int .u8 0, .int .i64 0, .string ⟨#[]⟩, .slice none 0 0, .int .i64 0] 27)) := ((Fr.refl No w).alloc _).alloc _
    have hK : Blk ((w.alloc (.cells #[.int .u8 k, .int .i64 n, .string s, .slice A l1.length cap, .int .i64 r] 27)).alloc (.cells #[.int .u8 0, .int .i64 0, .string ⟨#[]⟩, .slice none 0 0, .int .i64 0] 27)) w.heap.size 27 #[.int .u8 k, .int .i64 n, .string s, .slice A l1.length cap, .int .i64 r] := (Blk.new' w 27 _ rfl).alloc _
    have hZ : Blk ((w.alloc (.cells #[.int .u8 k, .int .i64 n, .string s, .slice A l1.length cap, .int .i64 r] 27)).alloc (.cells #[.int .u8 0, .int .i64 0, .string ⟨#[]⟩, .slice none 0 0, .int .i64 0] 27)) (w.heap.size + 1) 27 #[.int .u8 0, .int .i64 0, .string ⟨#[]⟩, .slice none 0 0, .int .i64 0] := Blk.new' (w.alloc _) 27 _ (by simp)
    have hT0 := (hT.no hW (Nat.le_refl _)).more (Nat.le_refl _) hW.size
    have htb := hT.tb0
    have ha0 := ha.no hW hh
    have hx0 := hxin.no hW (Nat.le_refl _)
    have hsz : w.heap.size + 2 ≤ ((w.alloc (.cells #[.int .u8 k, .int .i64 n, .string s, .slice A l1.length cap, .int .i64 r] 27)).alloc (.cells #[.int .u8 0, .int .i64 0, .string ⟨#[]⟩, .slice none 0 0, .int .i64 0] 27)).heap.size := by simp
    have HU := hide hu
    have HV := hide hv
    have HM := hide hma
    have HK := hide hk
    clear hu hv ha hT hma hk hxin
    go_enter Try.func30, Try.ntmps30
    go_wp2_with fail
    generalize World.alloc _ (.cells #[.int .u8 0, .int .i64 0, .string ⟨#[]⟩, .slice none 0 0, .int .i64 0] 27) = W0 at *
    refine (hF _ ha0 (by omega) hT0.blk).mono ?_
    rintro e w4 ⟨h, -, -⟩
    obtain ⟨m, rfl, hmk, fr4⟩ := h HM.out HK.out
    obtain ⟨ty, z, rfl⟩ := hmk.iface
    have hT4 := (hT0.no fr4 (Nat.le_refl _)).more (Nat.le_refl _) fr4.size
    have hZ4 := hZ.fr fr4 (fun h => h)
    have hx4 := hx0.no fr4 (by omega)
    have hW4 := hW.trans fr4
    have hs4 : w.heap.size + 2 ≤ w4.heap.size := Nat.le_trans hsz fr4.size
    have hl4 := hxm w4 _ hT4 hmk
    simp [theEnt, T.cells] at hl4
    clear h fr4 hZ hK hT0 ha0 hx0 hW hF hsz hxm
    have t0 := hT4.blk.cell 0
    simp at t0
    have htb4 : tb < w4.heap.size := by omega
    have HO := hide hO
    clear hO
    go_wp2_with fail
    have fr8 := (Fr.refl No w4).alloc (.cells #[.int .u8 xk, .int .i64 xn, .string xs, .slice xA xl.length xcap, .int .i64 xr, .int .u8 yk, .int .i64 yn, .string ys, .slice yA yl.length ycap, .int .i64 yr, .int .i64 xc] 132)
    have hx8 := hx4.no fr8 (by omega)
    have hZ8 := hZ4.alloc (.cells #[.int .u8 xk, .int .i64 xn, .string xs, .slice xA xl.length xcap, .int .i64 xr, .int .u8 yk, .int .i64 yn, .string ys, .slice yA yl.length ycap, .int .i64 yr, .int .i64 xc] 132)
    have hs8 : w.heap.size + 2 ≤ (w4.alloc (.cells #[.int .u8 xk, .int .i64 xn, .string xs, .slice xA xl.length xcap, .int .i64 xr, .int .u8 yk, .int .i64 yn, .string ys, .slice yA yl.length ycap, .int .i64 yr, .int .i64 xc] 132)).heap.size := by simp; omega
    generalize World.alloc w4 _ = w8 at *
    refine (HO.out w8 hx8 (by omega)).mono ?_
    rintro e w9 ⟨t', rfl, hv', ow', fr9⟩
    obtain ⟨d0, d1, d2, d3, d4, df⟩ := (hZ8.fr fr9 (fun h => h)).cells5
    have hF9 := hide ((hW4.trans fr8).trans fr9)
    have hs9 := fr9.size
    have q0 : w.heap.size + 1 < w9.heap.size := by omega
    have HV' := hide hv'
    have HO' := hide ow'
    clear hl4 t0 hT4 hZ4 hx4 hW4 fr8 hx8 hZ8 fr9 hv' ow'
    cases t' with
    | mk k2 n2 s2 A2 cap2 l2 r2 =>
      rw [T.val_mk]
      go_wp2
      refine bodyPost_ret (v := .tuple #[.agg #[.int .u8 k2, .int .i64 n2, .string s2, .slice A2 l2.length cap2, .int .i64 r2], .bool b, .int .i64 0]) (by simp [results, Try.results30, go_sem, *]) rfl ?_
      have hF2 := hF9.out
      have hO2 := HO'.out
      refine ⟨T.mk k2 n2 s2 A2 cap2 l2 r2, rfl, HV'.out, ?_, ?_⟩
      · refine ((hO2.fr (S := (· = w.heap.size + 1)) ?_ (Nat.le_refl _) (fun i h0 h1 h2 => by omega)).more (by omega) (by simp))
        repeat (first | with_reducible exact Fr.refl _ w9 | with_reducible refine Fr.set ?_ (by simp) _)
      · repeat (first | with_reducible exact hF2 | with_reducible refine Fr.setNew ?_ (by first | (simp; done) | (simp; omega)) _)

end Go.Proofs.Ytihjmipmjogpoaa

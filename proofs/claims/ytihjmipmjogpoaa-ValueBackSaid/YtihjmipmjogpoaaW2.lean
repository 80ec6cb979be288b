/- Chapter 2: write: the bytes of a value. -/
import Derived.Test.YtihjmipmjogpoaaW1
import Derived.Test.YtihjmipmjogpoaaE1
import Derived.Lib.AppendStr
import Derived.Deep.RegionHeld3
import Derived.Deep.Cut
namespace Go.Proofs.Ytihjmipmjogpoaa
open Go.RowKit

theorem step_append_str {P : Program} {ops : Array Oper} {o : Oper} {a : Act} {w : World} {K : Act → World → Prop} {Q : Exit → Act → World → Prop} {E : Prop} (hg : o.guard = none) (sl x : Operand) (t u : TypeId)
    (ho : o.op = Op.call { callee := Callee.builtin Builtin.append, args := #[sl, x], argTypes := #[t, u] }) (base : Nat) (e : TypeId) (i : TypeInfo) (ht : P.underlying t = some (.slice e)) (hu : P.underlying u = some .string) (hi : P.info? e = some i) (hz : i.zero = some (.int .u8 0))
    (hsize : i.size = 1) (hby : i.bytes = 1) (v : Value) (n : Nat) (xs : List Value) (hs : a.eval sl = v) (hown : w.ownsRow base e 1 v n xs) (s : ByteArray) (hx : a.eval x = .string s) (h63 : n + s.size ≤ maxLen) (hbytes : n + s.size ≤ 140737488355328) (hbase : base ≤ w.heap.size)
    (hK : ∀ v' w', w'.ownsRow base e 1 v' (n + s.size) (xs ++ Lib.strCells s) → w.grownBy w' v.ownBlock → K (a.put o.dst v') w') :
    if Region.wanted o (yielded ops a.tmps) = true then Oper.wp P o a w K Q else E := by
  have hw : Region.wanted o (yielded ops a.tmps) = true := by simp [Region.wanted, hg]
  rw [if_pos hw]
  obtain ⟨v', w', hrun, r1, r2, _⟩ := Lib.run_append_own_string (P := P) w base t u o.type e i ht hu hi hz hsize hby v n xs hown s h63 hbytes hbase
  unfold Oper.wp
  simp [execOp, ho, resolve, invoke, builtin, hs, hx, hrun, Result.andThen]
  exact hK v' w' r1 r2

def strB (s : ByteArray) : List Nat := s.data.toList.map UInt8.toNat

theorem fr_undrew {base : Nat} {w w' : World} (h : Fr (BS base w.drew) w.drew w') : Fr (BS base w) w w' := ⟨h.os, h.tape, h.output, h.size, fun b hb hn => h.block b hb hn⟩

theorem strB_length (s : ByteArray) : (strB s).length = s.size := by rw [strB, List.length_map, Array.length_toList]; rfl

theorem strB_cells (s : ByteArray) : byteCells (strB s) = Lib.strCells s := by simp [byteCells, strB, Lib.strCells]

/-- The bytes of a value: its one form. -/
def V.enc : V → List Nat
  | .mk k n s l r => k.toNat :: (if k = 1 then hiB ((n + 9223372036854775808).toNat) 8 else if k = 2 then hiB s.size 2 ++ strB s else if k = 3 then hiB l.length 2 ++ (l.map V.enc).flatten else if k = 4 then hiB r.toNat 4 else [])
termination_by v => v

theorem V.enc_mk (k n : Int) (s : ByteArray) (l : List V) (r : Int) : (V.mk k n s l r).enc = k.toNat :: (if k = 1 then hiB ((n + 9223372036854775808).toNat) 8 else if k = 2 then hiB s.size 2 ++ strB s else if k = 3 then hiB l.length 2 ++ (l.map V.enc).flatten else if k = 4 then hiB r.toNat 4 else []) := by rw [V.enc]

theorem blk5w {w : World} {g : Nat} {t : TypeId} {a b c d e : Value} (h : Blk w g t #[a, b, c, d, e]) : w.cell? ⟨g, 0, none⟩ = some a ∧ w.cell? ⟨g, 1, none⟩ = some b ∧ w.cell? ⟨g, 2, none⟩ = some c ∧ w.cell? ⟨g, 3, none⟩ = some d ∧ w.cell? ⟨g, 4, none⟩ = some e :=
  ⟨h.cell 0, h.cell 1, h.cell 2, h.cell 3, h.cell 4⟩

theorem u64_num (n : Int) (h0 : -9223372036854775808 ≤ n) (h1 : n ≤ 9223372036854775807) : IntKind.u64.wrap (IntKind.u64.wrap n + 9223372036854775808) = ((n + 9223372036854775808).toNat : Int) ∧ (n + 9223372036854775808).toNat < 18446744073709551616 := by
  rw [IntKind.wrap_u64, IntKind.wrap_u64]; omega

theorem u64_nat (n : Nat) (h : n < 18446744073709551616) : IntKind.u64.wrap (n : Int) = (n : Int) := by
  rw [IntKind.wrap_u64]; omega

theorem u64_pos (r : Int) (h0 : 0 ≤ r) (h1 : r ≤ 9223372036854775807) : IntKind.u64.wrap r = (r.toNat : Int) ∧ r.toNat < 18446744073709551616 := by
  rw [IntKind.wrap_u64]; omega

theorem GrowP.cons {xs more : List Nat} {x base : Nat} {w w1 : World} {e : Ending} {w' : World} (fr : Fr (BS base w) w w1) (h : GrowP (xs ++ [x]) more base w1 e w') : GrowP xs (x :: more) base w e w' := by
  obtain ⟨v', rfl, ho, f⟩ := h
  exact ⟨v', rfl, by simpa using ho, BS.trans fr f⟩

theorem GrowP.more {xs a b : List Nat} {base : Nat} {w w1 : World} {e : Ending} {w' : World} (fr : Fr (BS base w) w w1) (h : GrowP (xs ++ a) b base w1 e w') : GrowP xs (a ++ b) base w e w' := by
  obtain ⟨v', rfl, ho, f⟩ := h
  exact ⟨v', rfl, by rw [← List.append_assoc]; exact ho, BS.trans fr f⟩

set_option maxRecDepth 100000 in
set_option maxHeartbeats 4000000 in
theorem write_any (t : T) : ∀ (v : Value) (xs : List Nat) (base : Nat) (w : World) (lo hi : Nat), t.In w lo hi → hi ≤ base → base ≤ w.heap.size → t.v.ok = true → w.ownsRow base 5 1 v xs.length (byteCells xs) → xs.length + t.v.enc.length ≤ 1000000 → Calls Try.prog 113 #[v, t.val] w (GrowP xs t.v.enc base w) := by
  induction t using T.ind with
  | h k n s A cap l r ih =>
    intro v xs base w lo hi ht hhi hbase hok ho hlen
    rw [T.val_mk]
    obtain ⟨i0, hi0, hz0, hz1, hz2⟩ := info_parts byte_info
    have fit := (T.in_mk.1 ht).1
    have k0 := fit.k0
    have k1 := fit.k1
    have henc : (T.mk k n s A cap l r).v.enc = k.toNat :: (if k = 1 then hiB ((n + 9223372036854775808).toNat) 8 else if k = 2 then hiB s.size 2 ++ strB s else if k = 3 then hiB (l.map T.v).length 2 ++ ((l.map T.v).map V.enc).flatten else if k = 4 then hiB r.toNat 4 else []) := by rw [T.v_mk, V.enc_mk]
    have hb := Blk.new w 27 #[.int .u8 k, .int .i64 n, .string s, .slice A l.length cap, .int .i64 r]
    have hkn : ((k.toNat : Nat) : Int) = k := by omega
    have hxs : xs.length ≤ 1000000 := by omega
    obtain ⟨c0, c1, c2, c3, c4, cf⟩ := hb.cells5
    have hown1 := (ho.alloc (.cells #[.int .u8 k, .int .i64 n, .string s, .slice A l.length cap, .int .i64 r] 27)).alloc (.cells #[.int .u8 k] 5)
    have fr1 : Fr (BS base w) w ((w.alloc (.cells #[.int .u8 k, .int .i64 n, .string s, .slice A l.length cap, .int .i64 r] 27)).alloc (.cells #[.int .u8 k] 5)) := ((Fr.refl _ w).alloc _).alloc _
    have HE := hide henc
    have HB := hide (hb.alloc (.cells #[.int .u8 k] 5))
    have HO := hide hown1
    have HF := hide fr1
    have HKN := hide hkn
    clear henc hb hkn fr1 ho
    go_enter Try.func113, Try.ntmps113
    go_upto_region 2 with (at_builtin; refine wpList_append_lies _ (by rfl) _ _ _ (by rfl) base 5 i0 _ 1 1 Try.underlying151 hi0 hz0 hz1 hz2 (by rfl) (by omega) v xs.length (byteCells xs) (by rfl) hown1 ⟨w.heap.size + 1, 0, none⟩ 1 1 [.int .u8 k] (by rfl) (by rfl) (World.news_of_block (Blk.new' _ 5 #[.int .u8 k] (by simp))) (by simp [Value.oneCell']) (by omega) (by unfold maxLen; omega) (by omega) (by simp; omega) (w.heap.size + 1 + 1) (by simp) ?_; intro g cap1 w1 hown2 hgrow hat hlt1)
    have fr2 := BS.grown HF.out hown1 hgrow
    have hb2 := HB.out.fr ((Fr.refl (fun i => v.ownBlock = some i) _).grown hgrow fun i hi _ => hi) (fun h => by
      have h1 := HB.out.bs (base := base) (by decide)
      rcases HO.out.2 with ⟨rfl, _⟩ | ⟨g', cap', cur, rfl, hb', hh', _⟩
      · cases h
      · simp [Value.ownBlock] at h; subst h; exact h1 ⟨hb', cur, hh'⟩)
    have hown3 : w1.ownsRow base 5 1 (.slice (some ⟨g, 0, none⟩) (xs.length + 1) cap1) (xs ++ [k.toNat]).length (byteCells (xs ++ [k.toNat])) := by
      rw [List.length_append, byteCells, List.map_append]
      have h := hown2
      rw [← HKN.out] at h
      exact h
    have hb1 : base ≤ w1.heap.size := by have := fr2.size; omega
    have hlen1 : (xs ++ [k.toNat]).length = xs.length + 1 := by simp
    have hok1 := hok
    rw [T.v_mk, V.ok_mk, Bool.and_eq_true] at hok1
    have hH := fun n wd w' (f : Fr No w1 w') (h : n < 18446744073709551616) (h2 : wd ≤ 8) => high_any (.slice (some ⟨g, 0, none⟩) (xs.length + 1) cap1) (xs ++ [k.toNat]) base n wd w' h h2 (by rw [hlen1]; have := hlen; rw [HE.out] at this; simp at this; omega) (owns_fr hown3 f fun _ _ h => h) (Nat.le_trans hb1 f.size)
    obtain ⟨x0, x1, x2, x3, x4, xf⟩ := hb2.cells5
    have q0 := hb2.lt
    have HFR := hide fr2
    have HB2 := hide hb2
    have HO3 := hide hown3
    have HOK := hide hok1
    have HH := hide hH
    have HL := hide hlen
    have n0 := fit.n0
    have n1 := fit.n1
    clear hown1 hown2 hgrow hat c0 c1 c2 c3 c4 cf fr2 hb2 hown3 hok1 hH hlen hlen1 hok
    by_cases h1 : k = 1
    · subst h1
      have he1 := HE.out
      rw [if_pos rfl] at he1
      have HE1 := hide he1
      clear he1
      obtain ⟨e1, e2⟩ := u64_num n n0 n1
      have E1 := hide e1
      have E2 := hide e2
      clear e1 e2
      go_wp2_with fail
      rw [E1.out]
      refine (HH.out _ 8 _ (Fr.refl No w1) E2.out (by omega)).mono ?_
      rintro e w2 ⟨v2, rfl, ho2, f2⟩
      have HP := hide (GrowP.cons HFR.out ⟨v2, rfl, ho2, f2⟩)
      clear ho2 f2
      go_wp2
      go_ret
      rw [HE1.out]
      exact HP.out
    by_cases h2 : k = 2
    · subst h2
      have he1 := HE.out
      rw [if_neg (by decide), if_pos rfl] at he1
      have HE1 := hide he1
      clear he1
      have hss : s.size ≤ 256 := by have := HOK.out.1; simp [fok] at this; omega
      have hws := u64_nat s.size (by omega)
      have hbd : (xs ++ [Int.toNat 2] ++ hiB s.size 2).length + s.size ≤ 1001000 := by simp [hiB_length]; omega
      have HBD := hide hbd
      have HL1 := hide hb1
      clear hbd
      go_wp2_with fail
      go_region_held3 (fun w' => w'.cell? ⟨w.heap.size, 2, none⟩ = some (.string s))
        (first | with_reducible exact HS3.out | with_reducible exact HS2.out | exact x2)
        (first
          | ((refine step_append_str rfl _ _ _ _ (by rfl) base 5 i0 Try.underlying151 Try.underlying9 hi0 hz0 hz1 hz2 v2 (xs ++ [Int.toNat 2] ++ hiB s.size 2).length (byteCells (xs ++ [Int.toNat 2] ++ hiB s.size 2)) (by rfl) HO5.out s (by rfl) (Nat.le_trans HBD.out (by unfold maxLen; omega)) (Nat.le_trans HBD.out (by omega)) hb5 ?_); intro v3 w3 ho3 hg3; have HO6 := hide ho3; have HF6 := hide (BS.grown (Fr.refl (BS base w2) w2) HO5.out hg3); have HS3 := hide (blk5w (HB5.out.fr HF6.out (HB5.out.bs (by decide)))).2.2.1; clear ho3 hg3)
          | (go_at_call 139; ((refine (HH.out s.size 2 _ ((Fr.refl No w1).drew) (by omega) (by omega)).mono ?_); rintro e w2 ⟨v2, rfl, ho2, f2⟩; have hb5 := (show base ≤ w2.heap.size from Nat.le_trans HL1.out f2.size); have HB5 := hide (Blk.fr (a := w1.drew) HB2.out f2 (Blk.bs (w := w1.drew) HB2.out (by decide))); have HS2 := hide (blk5w HB5.out).2.2.1; have HF5 := hide f2; have HO5 := hide ho2; clear ho2 f2)))
      go_wp2
      go_ret
      rw [HE1.out]
      have hf5 : Fr (BS base w1) w1 w2 := fr_undrew HF5.out
      refine GrowP.cons HFR.out (GrowP.more hf5 ⟨v3, rfl, ?_, HF6.out⟩)
      have h := HO6.out
      rw [← strB_cells, byteCells, byteCells, ← List.map_append] at h
      rw [List.length_append, strB_length]
      exact h
    by_cases h3 : k = 3
    · subst h3
      have he1 := HE.out
      rw [if_neg (by decide), if_neg (by decide), if_pos rfl] at he1
      have HE1 := hide he1
      clear he1
      have hll := fit.len1
      go_wp2_with fail
      refine (HH.out l.length 2 _ (Fr.refl No w1) (by omega) (by omega)).mono ?_
      rintro e w2 ⟨v2, rfl, ho2, f2⟩
      have hb4 := HB2.out.fr f2 (HB2.out.bs (by decide))
      have HF4 := hide (BS.trans HFR.out f2)
      have HO4 := hide ho2
      have HB4 := hide hb4
      clear x0 x1 x2 x3 x4 xf q0 ho2 f2
      obtain ⟨x0, x1, x2, x3, x4, xf⟩ := hb4.cells5
      have q0 := hb4.lt
      clear hb4
      go_wp2_with fail
      have hll2 : (l.length : Int) ≤ 2199023255488 := by omega
      go_loopw [0, 44] (fun s0 s44 wr => ∃ j : Nat, j ≤ l.length ∧ s44 = .int .i64 j ∧ wr.ownsRow base 5 1 s0 (xs ++ [Int.toNat 3] ++ hiB l.length 2 ++ (((l.map T.v).take j).map V.enc).flatten).length (byteCells (xs ++ [Int.toNat 3] ++ hiB l.length 2 ++ (((l.map T.v).take j).map V.enc).flatten)) ∧ Fr (BS base w2) w2 wr) (fun _ s44 _ => l.length - (intOf s44).toNat)
      case atStart => exact ⟨0, Nat.zero_le _, rfl, by simpa using HO4.out, Fr.refl _ _⟩
      case round =>
        obtain ⟨j, hj, rfl, how, fr⟩ := hrel
        by_cases hlt : j < l.length
        · have fw := BS.trans HF4.out fr
          obtain ⟨b, o, k6, n6, s6, A6, cap6, l6, r6, rfl, hb0, hb9, hx, hin, e0, e1, e2, e3, e4⟩ := T.elem (ht.fr fw (Nat.le_trans hhi hbase) (fun i h0 h1 ⟨h2, _⟩ => by omega)) hlt
          have hbr : base ≤ wr.heap.size := Nat.le_trans hbase fw.size
          have g0 : b < wr.heap.size := by omega
          have IH := ih l[j] (List.getElem_mem hlt)
          have htk : ((l.map T.v).take (j + 1)).map V.enc = ((l.map T.v).take j).map V.enc ++ [(T.mk k6 n6 s6 A6 cap6 l6 r6).v.enc] := by
            rw [List.take_succ_eq_append_getElem (by simpa using hlt), List.map_append, List.getElem_map, hx]; rfl
          have hokx : (T.mk k6 n6 s6 A6 cap6 l6 r6).v.ok = true := by
            rw [← hx]; exact List.all_eq_true.1 HOK.out.2 _ (List.mem_map_of_mem (List.getElem_mem hlt))
          have hsumx : (((l.map T.v).take (j + 1)).map V.enc).flatten.length ≤ (((l.map T.v).map V.enc).flatten).length := by
            conv => rhs; rw [← List.take_append_drop (j + 1) (l.map T.v), List.map_append, List.flatten_append, List.length_append]
            omega
          rw [htk, List.flatten_append, List.length_append] at hsumx
          simp only [List.flatten_cons, List.flatten_nil, List.append_nil] at hsumx
          rw [hx, T.val_mk] at IH
          have hbound : (xs ++ [Int.toNat 3] ++ hiB l.length 2 ++ (((l.map T.v).take j).map V.enc).flatten).length + (T.mk k6 n6 s6 A6 cap6 l6 r6).v.enc.length ≤ 1000000 := by
            have h := HL.out
            rw [HE1.out] at h
            simp only [List.length_append, List.length_cons, List.length_nil, hiB_length, List.length_map] at h ⊢
            omega
          have frB := (Fr.refl No wr).alloc (.cells #[.int .u8 k6, .int .i64 n6, .string s6, .slice A6 l6.length cap6, .int .i64 r6] 27)
          have hI := fun v0 (h0 : wr.ownsRow base 5 1 v0 _ _) => IH v0 _ base (wr.alloc (.cells #[.int .u8 k6, .int .i64 n6, .string s6, .slice A6 l6.length cap6, .int .i64 r6] 27)) lo hi (hin.no frB (by omega)) hhi (Nat.le_trans hbr frB.size) hokx (owns_fr h0 frB fun _ _ h => h) hbound
          have HI := hide (hI _ how)
          have HTK := hide htk
          have HFRR := hide fr
          clear hI IH ih frB htk hx hin hokx hsumx hbound fr fw how
          go_wp2_with fail
          refine HI.out.mono ?_
          rintro e w3 ⟨v3, rfl, ho3, f3⟩
          have HO7 := hide ho3
          have hf3 := BS.trans (HFRR.out.alloc (.cells #[.int .u8 k6, .int .i64 n6, .string s6, .slice A6 l6.length cap6, .int .i64 r6] 27)) f3
          have HF7 := hide hf3
          clear ho3 f3 hf3
          go_wp2
          go_roundw
          case rel =>
            refine ⟨j + 1, hlt, by go_num, ?_, HF7.out⟩
            rw [HTK.out, List.flatten_append, ← List.append_assoc]
            simpa only [List.flatten_cons, List.flatten_nil, List.append_nil] using HO7.out
          case measure => simp [intOf]; omega
        · obtain rfl : j = l.length := by omega
          have HOW := hide how
          have HFRR := hide fr
          clear how fr ih
          go_wp2
          go_ret
          rw [HE1.out]
          have hf := BS.trans HF4.out HFRR.out
          refine ⟨_, rfl, ?_, hf⟩
          have h := HOW.out
          rw [List.take_of_length_le (by simp)] at h
          simp only [List.length_map, List.append_assoc, List.cons_append, List.nil_append] at h ⊢
          exact h
    by_cases h4 : k = 4
    · subst h4
      have he1 := HE.out
      rw [if_neg (by decide), if_neg (by decide), if_neg (by decide), if_pos rfl] at he1
      have HE1 := hide he1
      clear he1
      have hr1 : 1 ≤ r := by have := HOK.out.1; simp [fok] at this; omega
      obtain ⟨e1, e2⟩ := u64_pos r (by omega) fit.r1
      have E1 := hide e1
      have E2 := hide e2
      clear e1 e2 hr1
      go_wp2_with fail
      rw [E1.out]
      refine (HH.out _ 4 _ (Fr.refl No w1) E2.out (by omega)).mono ?_
      rintro e w2 ⟨v2, rfl, ho2, f2⟩
      have HP := hide (GrowP.cons HFR.out ⟨v2, rfl, ho2, f2⟩)
      clear ho2 f2
      go_wp2
      go_ret
      rw [HE1.out]
      exact HP.out
    have h1' : (k == 1) = false := by simpa using h1
    have h2' : (k == 2) = false := by simpa using h2
    have h3' : (k == 3) = false := by simpa using h3
    have h4' : (k == 4) = false := by simpa using h4
    go_wp2
    go_ret
    rw [HE.out, if_neg h1, if_neg h2, if_neg h3, if_neg h4]
    exact GrowP.cons HFR.out ⟨_, rfl, by rw [List.append_nil]; exact HO3.out, Fr.refl _ _⟩

end Go.Proofs.Ytihjmipmjogpoaa

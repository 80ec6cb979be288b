/- Texts joined: P11, Wo3, E5, R0, E7, E8, E9, Wo5, Wo6. -/
import Derived.Test.YtlejelbefmkakaaGreatJn1
import Derived.Test.YtlejelbefmkakaaGreatJn2
import Derived.Test.YtlejelbefmkakaaGreatJn3
import Derived.Deep.RegionHeld3
import Derived.Deep.RegionLawGrows
import Derived.Deep.AppendLies
import Derived.LoopN
import Derived.Deep.Quiet
import Derived.BigQuiet
namespace Go.Proofs.YtlejelbefmkakaaGreat
open Go.RowKit
theorem all1_any (t : T) (w : World) (lo hi : Nat) (ht : t.In w lo hi) (hh : hi ≤ w.heap.size) : Calls Tryz.prog 275 #[t.val] w fun e w' => e = .returned (.bool (!t.v.may)) ∧ Fr No w w' := by
 have IH := fun w' h h' => may_any t w' lo hi h h'
 cases t with
 | mk k n s A cap l r =>
  rw [T.val_mk] at *
  generalize (T.mk k n s A cap l r).v.may = z at *
  cases z
  all_goals
   go_enter Tryz.func275, Tryz.ntmps275
   go_wp2_with fail
   refine (IH _ (ht.no ((Fr.refl No w).alloc _) hh) (by simp; omega)).mono ?_
   rintro e w2 ⟨rfl, fr2⟩
   go_wp2
   go_ret
   exact ⟨rfl, ((Fr.refl No w).alloc _).trans fr2⟩
set_option maxRecDepth 100000 in
set_option maxHeartbeats 4000000 in
theorem indexV_any (A : Option Addr) (cap : Nat) (l : List T) (w : World) (lo hi : Nat) (ht : (T.row A cap l).In w lo hi) (hh : hi ≤ w.heap.size) :
 Calls Tryz.prog 283 #[.slice A l.length cap, .func (.func 275) #[] #[]] w fun e w' => (∃ z : Int, e = .returned (.int .i64 z) ∧ ((0 ≤ z ∧ (l.map T.v).all V.may = false) ∨ (z = -1 ∧ (l.map T.v).all V.may = true))) ∧ Fr No w w' := by
 have hlen := (T.in_mk.1 ht).1.len1
 have hB := all1_any
 go_enter Tryz.func283, Tryz.ntmps283
 go_wp2_with fail
 go_loopw [8] (fun i wr => ∃ j : Nat, j ≤ l.length ∧ i = .int .i64 j ∧ Fr No w wr ∧ ∀ v ∈ (l.map T.v).take j, v.may = true) (fun i _ => l.length - (intOf i).toNat)
 case atStart => exact ⟨0, Nat.zero_le _, rfl, Fr.refl _ _, by simp⟩
 case round =>
  obtain ⟨j, hj, rfl, fr, hall⟩ := hrel
  have HA := hide hall
  have hsz := fr.size
  clear hall
  by_cases hlt : j < l.length
  · obtain ⟨b, o, k1, n1, s1, A1, cap1, l1, r1, rfl, hb0, hb1, hx, hin, e0, e1, e2, e3, e4⟩ := T.elem (ht.no fr hh) hlt
    have hc := hB l[j] wr lo hi (by rw [hx]; exact hin) (by omega)
    have hj' : j < (l.map T.v).length := by simpa using hlt
    have hxv : (l.map T.v)[j] = (T.mk k1 n1 s1 A1 cap1 l1 r1).v := by rw [List.getElem_map, hx]
    rw [hx, T.val_mk] at hc
    generalize (T.mk k1 n1 s1 A1 cap1 l1 r1).v = u at *
    have g0 : b < wr.heap.size := by omega
    have htk : (l.map T.v).take (j + 1) = (l.map T.v).take j ++ [u] := by rw [List.take_succ_eq_append_getElem hj', hxv]
    have hmem : u ∈ l.map T.v := by rw [← hxv]; exact List.getElem_mem hj'
    have HT := hide htk
    have HM := hide hmem
    have HF := hide fr
    clear hx hxv htk hmem fr hin hB ht
    cases hm : u.may with
    | false =>
     rw [hm] at hc
     have HC := hide hc
     have hno : (l.map T.v).all V.may = false := by
      rw [Bool.eq_false_iff]
      intro h
      rw [List.all_eq_true.1 h u HM.out] at hm
      cases hm
     have HN := hide hno
     clear hc hno hm
     go_wp2_with fail
     refine HC.out.mono ?_
     rintro e w2 ⟨rfl, f2⟩
     have HF2 := hide (HF.out.trans f2)
     clear f2
     go_wp2
     go_ret
     exact ⟨⟨_, rfl, .inl ⟨by omega, HN.out⟩⟩, HF2.out⟩
    | true =>
     rw [hm] at hc
     have HC := hide hc
     have HMM := hide hm
     clear hc hm
     go_wp2_with fail
     refine HC.out.mono ?_
     rintro e w2 ⟨rfl, f2⟩
     have HF2 := hide (HF.out.trans f2)
     clear f2
     go_wp2
     go_roundw
     case rel =>
      refine ⟨j + 1, hlt, by go_num, HF2.out, fun v hv => ?_⟩
      rw [HT.out] at hv
      rcases List.mem_append.1 hv with hv | hv
      · exact HA.out v hv
      · simp at hv; subst hv; exact HMM.out
     case measure => simp [intOf]; omega
  · obtain rfl : l.length = j := by omega
    have hyes : (l.map T.v).all V.may = true := List.all_eq_true.2 fun v hv => HA.out v (by rw [List.take_of_length_le (by simp)]; exact hv)
    have HY := hide hyes
    have HF := hide fr
    clear fr hyes ht hB
    go_wp2
    go_ret
    exact ⟨⟨-1, rfl, .inr ⟨rfl, HY.out⟩⟩, HF.out⟩
theorem containsV_any (A : Option Addr) (cap : Nat) (l : List T) (w : World) (lo hi : Nat) (ht : (T.row A cap l).In w lo hi) (hh : hi ≤ w.heap.size) :
 Calls Tryz.prog 274 #[.slice A l.length cap, .func (.func 275) #[] #[]] w fun e w' => e = .returned (.bool (!(l.map T.v).all V.may)) ∧ Fr No w w' := by
 have hI := indexV_any A cap l w lo hi ht hh
 generalize (l.map T.v).all V.may = q at *
 clear ht
 go_enter Tryz.func274, Tryz.ntmps274
 go_wp2_with fail
 refine hI.mono ?_
 rintro e w2 ⟨⟨z, rfl, hz⟩, fr2⟩
 rcases hz with ⟨h0, rfl⟩ | ⟨rfl, rfl⟩
 · have h1 : decide ((0 : Int) ≤ z) = true := by simpa using h0
   go_wp2
   go_ret
   exact ⟨rfl, fr2⟩
 · go_wp2
   go_ret
   exact ⟨rfl, fr2⟩
theorem allV_any (A : Option Addr) (cap : Nat) (l : List T) (w : World) (lo hi : Nat) (ht : (T.row A cap l).In w lo hi) (hh : hi ≤ w.heap.size) :
 Calls Tryz.prog 255 #[.slice A l.length cap] w fun e w' => e = .returned (.bool ((l.map T.v).all V.may)) ∧ Fr No w w' := by
 have hI := containsV_any A cap l w lo hi ht hh
 generalize (l.map T.v).all V.may = q at *
 clear ht
 cases q
 all_goals
  go_enter Tryz.func255, Tryz.ntmps255
  go_wp2_with fail
  refine hI.mono ?_
  rintro e w2 ⟨rfl, fr2⟩
  go_wp2
  go_ret
  exact ⟨rfl, fr2⟩
def ofV (l : List V) : V × Int := if l.all V.may = true then (if (V.mk 3 0 ⟨#[]⟩ l 0).may = true then (V.mk 3 0 ⟨#[]⟩ l 0, 0) else (V.zero, 4)) else (V.zero, 2)
theorem T.row_v (A : Option Addr) (cap : Nat) (l : List T) : (T.row A cap l).v = V.mk 3 0 ⟨#[]⟩ (l.map T.v) 0 := by rw [T.row, T.v_mk]
def InE (v : V) (n : Int) (w : World) (e : Ending) (w' : World) : Prop :=
 ∃ t' : T, e = .returned (.tuple #[t'.val, .int .i64 n]) ∧ t'.v = v ∧ t'.In w' w.heap.size w'.heap.size ∧ Fr No w w'
set_option maxRecDepth 100000 in
set_option maxHeartbeats 4000000 in
theorem vOf_any (A : Option Addr) (cap : Nat) (l : List T) (w : World) (lo hi : Nat) (ht : (T.row A cap l).In w lo hi) (hh : hi ≤ w.heap.size) :
 Calls Tryz.prog 209 #[.slice A l.length cap] w (OwnE2 (ofV (l.map T.v)).1 (ofV (l.map T.v)).2 w) := by
 have hA := fun w' h h' => allV_any A cap l w' lo hi h h'
 have hM := fun w' h h' => may_any (T.row A cap l) w' lo hi h h'
 have hO := fun w' h h' => own2_any (T.row A cap l) w' lo hi h h'
 rw [T.row_v] at hM hO
 have hval : (T.row A cap l).val = .agg #[.int .u8 3, .int .i64 0, .string ⟨#[]⟩, .slice A l.length cap, .int .i64 0] := rfl
 rw [hval] at hM hO
 clear hval
 have fr0 := (Fr.refl No w).alloc (.cells #[.int .u8 0, .int .i64 0, .string ⟨#[]⟩, .slice none 0 0, .int .i64 0] 28)
 have bz0 := Blk.new w 28 #[.int .u8 0, .int .i64 0, .string ⟨#[]⟩, .slice none 0 0, .int .i64 0]
 have ht0 := ht.no fr0 hh
 have hs0 : w.heap.size < (w.alloc (.cells #[.int .u8 0, .int .i64 0, .string ⟨#[]⟩, .slice none 0 0, .int .i64 0] 28)).heap.size := by simp
 clear ht
 cases ha : (l.map T.v).all V.may with
 | false =>
  have e1 : ofV (l.map T.v) = (V.zero, 2) := by simp only [ofV]; rw [ha]; rfl
  rw [e1]
  rw [ha] at hA
  clear ha e1 hM hO
  go_enter Tryz.func209, Tryz.ntmps209
  go_wp2_with fail
  generalize World.alloc w _ = w0 at *
  refine (hA w0 ht0 (by omega)).mono ?_
  rintro e w2 ⟨rfl, f2⟩
  have bz2 := bz0.fr f2 fun h => h
  obtain ⟨d0, d1, d2, d3, d4, df⟩ := bz2.cells5
  have q0 := bz2.lt
  have HF := hide (fr0.trans f2)
  clear hA ht0 bz0 fr0 f2 bz2
  go_wp2
  refine bodyPost_ret (v := .tuple #[.agg #[.int .u8 0, .int .i64 0, .string ⟨#[]⟩, .slice none 0 0, .int .i64 0], .int .i64 2]) (by simp [results, Tryz.results209, go_sem, *]) rfl ?_
  have hF2 := HF.out
  refine ⟨T.zero, rfl, T.zero_v, T.zero_sh _ _ _, ?_⟩
  repeat (first | with_reducible exact hF2 | with_reducible refine Fr.setNew ?_ (Nat.le_refl _) _)
 | true =>
  rw [ha] at hA
  cases hm : (V.mk 3 0 ⟨#[]⟩ (l.map T.v) 0).may with
  | false =>
   have e1 : ofV (l.map T.v) = (V.zero, 4) := by simp only [ofV]; rw [ha, hm]; rfl
   rw [e1]
   rw [hm] at hM
   clear ha hm e1 hO
   go_enter Tryz.func209, Tryz.ntmps209
   go_wp2_with fail
   generalize World.alloc w _ = w0 at *
   refine (hA w0 ht0 (by omega)).mono ?_
   rintro e w2 ⟨rfl, f2⟩
   have bz2 := bz0.fr f2 fun h => h
   have ht2 := ht0.no f2 (by omega)
   have HF := hide (fr0.trans f2)
   have hs2 := (fr0.trans f2).size
   clear hA ht0 bz0 fr0 f2
   go_wp2_with fail
   have f3 := (Fr.refl No w2).alloc (.cells #[.int .u8 3, .int .i64 0, .string ⟨#[]⟩, .slice A l.length cap, .int .i64 0] 28)
   have HF3 := hide (HF.out.trans f3)
   have bz3 := bz2.fr f3 fun h => h
   have ht3 := ht2.no f3 (by omega)
   have hs3 := f3.size
   clear bz2 ht2 f3
   generalize World.alloc w2 _ = w3 at *
   refine (hM w3 ht3 (by omega)).mono ?_
   rintro e w4 ⟨rfl, f4⟩
   have bz4 := bz3.fr f4 fun h => h
   obtain ⟨d0, d1, d2, d3, d4, df⟩ := bz4.cells5
   have q0 := bz4.lt
   have HF4 := hide (HF3.out.trans f4)
   clear hM ht3 bz3 f4 bz4
   go_wp2
   refine bodyPost_ret (v := .tuple #[.agg #[.int .u8 0, .int .i64 0, .string ⟨#[]⟩, .slice none 0 0, .int .i64 0], .int .i64 4]) (by simp [results, Tryz.results209, go_sem, *]) rfl ?_
   have hF2 := HF4.out
   refine ⟨T.zero, rfl, T.zero_v, T.zero_sh _ _ _, ?_⟩
   repeat (first | with_reducible exact hF2 | with_reducible refine Fr.setNew ?_ (Nat.le_refl _) _)
  | true =>
   have e1 : ofV (l.map T.v) = (V.mk 3 0 ⟨#[]⟩ (l.map T.v) 0, 0) := by simp only [ofV]; rw [ha, hm]; rfl
   rw [e1]
   rw [hm] at hM
   generalize V.mk 3 0 ⟨#[]⟩ (l.map T.v) 0 = u at *
   clear ha hm e1
   go_enter Tryz.func209, Tryz.ntmps209
   go_wp2_with fail
   generalize World.alloc w _ = w0 at *
   refine (hA w0 ht0 (by omega)).mono ?_
   rintro e w2 ⟨rfl, f2⟩
   have bz2 := bz0.fr f2 fun h => h
   have ht2 := ht0.no f2 (by omega)
   have HF := hide (fr0.trans f2)
   have hs2 := (fr0.trans f2).size
   clear hA ht0 bz0 fr0 f2
   have hsz2 : w.heap.size < w2.heap.size := bz2.lt
   go_wp2_with fail
   have f3 := (Fr.refl No w2).alloc (.cells #[.int .u8 3, .int .i64 0, .string ⟨#[]⟩, .slice A l.length cap, .int .i64 0] 28)
   have HF3 := hide (HF.out.trans f3)
   have bz3 := bz2.fr f3 fun h => h
   have bv3 := Blk.new w2 28 #[.int .u8 3, .int .i64 0, .string ⟨#[]⟩, .slice A l.length cap, .int .i64 0]
   have ht3 := ht2.no f3 (by omega)
   have hs3 := f3.size
   clear bz2 ht2 f3
   generalize World.alloc w2 _ = w3 at *
   refine (hM w3 ht3 (by omega)).mono ?_
   rintro e w4 ⟨rfl, f4⟩
   have bz4 := bz3.fr f4 fun h => h
   have bv4 := bv3.fr f4 fun h => h
   have ht4 := ht3.no f4 (by omega)
   obtain ⟨c0, c1, c2, c3, c4, -⟩ := bv4.cells5
   have qv := bv4.lt
   have HF4 := hide (HF3.out.trans f4)
   have hs4 := f4.size
   clear hM ht3 bz3 bv3 f4 bv4
   go_wp2_with fail
   refine (hO w4 ht4 (by omega)).mono ?_
   rintro e w5 ⟨⟨k5, n5, s5, A5, cap5, l5, r5⟩, rfl, hv5, hsh5, f5⟩
   rw [T.val_mk]
   have bz5 := bz4.fr f5 fun h => h
   obtain ⟨d0, d1, d2, d3, d4, df⟩ := bz5.cells5
   have q0 := bz5.lt
   have HF5 := hide (HF4.out.trans f5)
   have HV := hide hv5
   have HSH := hide hsh5
   have hs5 := f5.size
   clear hO ht4 bz4 f5 bz5 hv5 hsh5 c0 c1 c2 c3 c4 qv
   go_wp2
   refine bodyPost_ret (v := .tuple #[.agg #[.int .u8 k5, .int .i64 n5, .string s5, .slice A5 l5.length cap5, .int .i64 r5], .int .i64 0]) (by simp [results, Tryz.results209, go_sem, *]) rfl ?_
   have hF2 := HF5.out
   refine ⟨T.mk k5 n5 s5 A5 cap5 l5 r5, rfl, HV.out, ?_, ?_⟩
   · refine (T.Sh.fr' (S := (· = w.heap.size)) HSH.out ?_ (fun i h0 h1 h2 => by have h' : i = w.heap.size := h2; omega)).more (by omega) (by simp)
     repeat (first | with_reducible exact Fr.refl _ w5 | with_reducible refine Fr.set ?_ (by simp) _)
   · repeat (first | with_reducible exact hF2 | with_reducible refine Fr.setNew ?_ (Nat.le_refl _) _)
end Go.Proofs.YtlejelbefmkakaaGreat

namespace Go.Proofs.YtlejelbefmkakaaGreat
open Go.RowKit
theorem Blk.cells16 {w : World} {g : Nat} {t : TypeId} {x0 x1 x2 x3 x4 x5 x6 x7 x8 x9 x10 x11 x12 x13 x14 x15 : Value} (h : Blk w g t #[x0, x1, x2, x3, x4, x5, x6, x7, x8, x9, x10, x11, x12, x13, x14, x15]) :
 w.cell? ⟨g, 0, none⟩ = some x0 ∧ w.cell? ⟨g, 1, none⟩ = some x1 ∧ w.cell? ⟨g, 2, none⟩ = some x2 ∧ w.cell? ⟨g, 3, none⟩ = some x3 ∧ w.cell? ⟨g, 4, none⟩ = some x4 ∧ w.cell? ⟨g, 5, none⟩ = some x5 ∧ w.cell? ⟨g, 6, none⟩ = some x6 ∧ w.cell? ⟨g, 7, none⟩ = some x7 ∧
 w.cell? ⟨g, 8, none⟩ = some x8 ∧ w.cell? ⟨g, 9, none⟩ = some x9 ∧ w.cell? ⟨g, 10, none⟩ = some x10 ∧ w.cell? ⟨g, 11, none⟩ = some x11 ∧ w.cell? ⟨g, 12, none⟩ = some x12 ∧ w.cell? ⟨g, 13, none⟩ = some x13 ∧ w.cell? ⟨g, 14, none⟩ = some x14 ∧ w.cell? ⟨g, 15, none⟩ = some x15 :=
 ⟨h.cell 0, h.cell 1, h.cell 2, h.cell 3, h.cell 4, h.cell 5, h.cell 6, h.cell 7, h.cell 8, h.cell 9, h.cell 10, h.cell 11, h.cell 12, h.cell 13, h.cell 14, h.cell 15⟩
def blankB : V → Bool
 | .mk k n s l r => decide (k = 0) && decide (n = 0) && decide (s = ⟨#[]⟩) && decide (l.length = 0) && decide (r = 0)
theorem toList0 : (⟨#[]⟩ : ByteArray).toList = [] := by rw [ByteArray.toList_eq]
theorem bytes_ext {a b : ByteArray} (h : a.toList = b.toList) : a = b := by
 obtain ⟨⟨x⟩⟩ := a
 obtain ⟨⟨y⟩⟩ := b
 rw [ByteArray.toList_eq, ByteArray.toList_eq] at h
 simp at h
 rw [h]
set_option maxHeartbeats 2000000 in
theorem blank_w (t : T) (W : World) : Calls Tryz.prog 208 #[t.val] W fun e w' => e = .returned (.bool (blankB t.v)) ∧ Fr No W w' := by
 obtain ⟨k, n, s, A, cap, l, r⟩ := t
 rw [T.val_mk, T.v_mk]
 have hb : blankB (.mk k n s (l.map T.v) r) = (decide (k = 0) && decide (n = 0) && decide (s = ⟨#[]⟩) && decide (l.length = 0) && decide (r = 0)) := by simp [blankB]
 rw [hb]
 clear hb
 have h0 := toList0
 by_cases hk : k = 0
 · by_cases hn : n = 0
   · by_cases hs : s = ⟨#[]⟩
     · by_cases hl : l.length = 0
       · by_cases hr : r = 0
         · subst hk hn hs hr
           rw [hl]
           go_enter Tryz.func208, Tryz.ntmps208
           go_wp2
           go_ret
           exact ⟨rfl, (Fr.refl No W).alloc _⟩
         · have e1 : (r == 0) = false := by simpa using hr
           subst hk hn hs
           rw [hl]
           go_enter Tryz.func208, Tryz.ntmps208
           go_wp2
           go_ret
           exact ⟨by simp [hr], (Fr.refl No W).alloc _⟩
       · have e1 : (l.length == 0) = false := by simpa using hl
         have e2 : ((l.length : Int) == 0) = false := by simpa using hl
         subst hk hn hs
         go_enter Tryz.func208, Tryz.ntmps208
         go_wp2
         go_ret
         exact ⟨by simp [hl], (Fr.refl No W).alloc _⟩
     · have e1 : (s.toList == []) = false := by
        simp only [beq_eq_false_iff_ne, ne_eq]
        exact fun h => hs (bytes_ext (by rw [h, h0]))
       subst hk hn
       go_enter Tryz.func208, Tryz.ntmps208
       go_wp2
       go_ret
       exact ⟨by simp [hs], (Fr.refl No W).alloc _⟩
   · have e1 : (n == 0) = false := by simpa using hn
     subst hk
     go_enter Tryz.func208, Tryz.ntmps208
     go_wp2
     go_ret
     exact ⟨by simp [hn], (Fr.refl No W).alloc _⟩
 · have e1 : (k == 0) = false := by simpa using hk
   go_enter Tryz.func208, Tryz.ntmps208
   go_wp2
   go_ret
   exact ⟨by simp [hk], (Fr.refl No W).alloc _⟩
theorem of_none (W : World) : Calls Tryz.prog 209 #[.slice none 0 0] W fun e w' => (∃ t : T, e = .returned (.tuple #[t.val, .int .i64 0])) ∧ Fr No W w' := by
 have hin : (T.row none 0 []).In W 0 0 := T.in_mk.2 ⟨⟨by decide, by decide, by decide, by decide, by decide, by decide, Nat.le_refl _, by decide, by decide⟩, fun h => absurd rfl h, by simp⟩
 have h := vOf_any none 0 [] W 0 0 hin (Nat.zero_le _)
 have he : (ofV (([] : List T).map T.v)).2 = 0 := by simp [ofV, V.may, V.fits, V.ok_mk, V.size_mk, V.dep_mk, fok, top]
 rw [he] at h
 refine h.mono ?_
 rintro e w' ⟨t', rfl, -, -, f⟩
 exact ⟨⟨t', rfl⟩, f⟩
theorem zero_may : V.zero.may = true := by simp [V.zero, V.may, V.fits, V.ok_mk, V.size_mk, V.dep_mk, fok, ByteArray.toList_eq]
theorem may_zero (W : World) : Calls Tryz.prog 86 #[T.zero.val] W fun e w' => e = .returned (.bool true) ∧ Fr No W w' := by
 have h := may_any T.zero W 0 0 (T.zero_ow _ _ _).inn (Nat.zero_le _)
 rw [T.zero_v, zero_may] at h
 exact h
end Go.Proofs.YtlejelbefmkakaaGreat

namespace Go.Proofs.YtlejelbefmkakaaGreat
open Go.RowKit
theorem may_ok {v : V} (h : v.may = true) : v.ok = true := by
 simp [V.may, V.fits] at h; exact h.1.1
structure Ints (w : World) (lo hi : Nat) (A : Option Addr) (cap : Nat) (p : List Int) : Prop where
 len : p.length * 8 ≤ 140737488351232
 cap : p.length ≤ cap
 at_ : p ≠ [] → ∃ b o, A = some ⟨b, o, none⟩ ∧ lo ≤ b ∧ b < hi ∧ ∀ i x, p[i]? = some x → w.cell? ⟨b, o + i, none⟩ = some (.int .i64 x)
 rng : ∀ x ∈ p, -9223372036854775808 ≤ x ∧ x ≤ 9223372036854775807
theorem Ints.keep {w w' : World} {lo hi : Nat} {A : Option Addr} {cap : Nat} {p : List Int} (h : Ints w lo hi A cap p) (hk : ∀ b o, lo ≤ b → b < hi → w'.cell? ⟨b, o, none⟩ = w.cell? ⟨b, o, none⟩) : Ints w' lo hi A cap p :=
 ⟨h.len, h.cap, fun hne => by
  obtain ⟨b, o, hA, h0, h1, hc⟩ := h.at_ hne
  exact ⟨b, o, hA, h0, h1, fun i x hx => (hk b _ h0 h1).trans (hc i x hx)⟩, h.rng⟩
theorem Ints.fr {S : Nat → Prop} {w w' : World} {lo hi : Nat} {A : Option Addr} {cap : Nat} {p : List Int} (h : Ints w lo hi A cap p) (hf : Fr S w w') (hh : hi ≤ w.heap.size) (hs : ∀ i, lo ≤ i → i < hi → ¬ S i) : Ints w' lo hi A cap p :=
 h.keep fun b _ h0 h1 => hf.cell (by omega) (hs b h0 h1)
theorem Ints.no {w w' : World} {lo hi : Nat} {A : Option Addr} {cap : Nat} {p : List Int} (h : Ints w lo hi A cap p) (hf : Fr No w w') (hh : hi ≤ w.heap.size) : Ints w' lo hi A cap p := h.fr hf hh fun _ _ _ h => h
def V.list : V → List V
 | .mk _ _ _ l _ => l
def vAt : List Int → V → Option V
 | [], v => some v
 | i :: p, v => if i < 0 then none else (v.list[i.toNat]?).bind (vAt p)
def FindV (v : V) (p : List Int) (lo hi : Nat) (w : World) (e : Ending) (w' : World) : Prop :=
 Fr No w w' ∧ ((∃ t' : T, e = .returned (.tuple #[t'.val, .bool true]) ∧ vAt p v = some t'.v ∧ t'.In w' lo hi) ∨ (e = .returned (.tuple #[.agg #[.int .u8 0, .int .i64 0, .string ⟨#[]⟩, .slice none 0 0, .int .i64 0], .bool false]) ∧ vAt p v = none))
structure FInv (v : V) (p : List Int) (lo hi : Nat) (w : World) (g : Nat) (j : Nat) (wr : World) : Prop where
 fr : Fr No w wr
 z : Blk wr (g + 1) 28 #[.int .u8 0, .int .i64 0, .string ⟨#[]⟩, .slice none 0 0, .int .i64 0]
 ex : ∃ k n s A cap l r, Blk wr g 28 #[.int .u8 k, .int .i64 n, .string s, .slice A (l : List T).length cap, .int .i64 r] ∧ (T.mk k n s A cap l r).In wr lo hi ∧ vAt p v = vAt (p.drop j) (T.mk k n s A cap l r).v
end Go.Proofs.YtlejelbefmkakaaGreat

namespace Go.Proofs.YtlejelbefmkakaaGreat
open Go.RowKit
def top1 : List Nat → Nat
 | [] => 0
 | x :: l => max (x + 1) (top1 l)
def V.ht : V → Nat
 | .mk _ _ _ l _ => top1 (l.map V.ht)
termination_by v => v
theorem V.ht_mk (k n : Int) (s : ByteArray) (l : List V) (r : Int) : (V.mk k n s l r).ht = top1 (l.map V.ht) := by rw [V.ht]
theorem lt_top1 {l : List Nat} {x : Nat} (h : x ∈ l) : x + 1 ≤ top1 l := by
 induction l with
 | nil => simp at h
 | cons y l ih =>
  rcases List.mem_cons.1 h with rfl | h
  · simp [top1]; omega
  · have := ih h; simp [top1]; omega
theorem top1_le {l : List Nat} {n : Nat} (h : ∀ x ∈ l, x + 1 ≤ n) : top1 l ≤ n := by
 induction l with
 | nil => simp [top1]
 | cons y l ih =>
  have h1 := h y (by simp)
  have h2 := ih fun x hx => h x (by simp [hx])
  simp [top1]; omega
theorem ht_child {k n : Int} {s : ByteArray} {l : List V} {r : Int} {x : V} (h : x ∈ l) : x.ht + 1 ≤ (V.mk k n s l r).ht := by
 rw [V.ht_mk]; exact lt_top1 (List.mem_map_of_mem h)
theorem ht_le_dep (v : V) : v.ok = true → v.ht ≤ v.dep := by
 induction v using V.ind with
 | h k n s l r ih =>
  intro h
  rw [V.ok_mk, Bool.and_eq_true] at h
  rw [V.ht_mk, V.dep_mk]
  by_cases h3 : k = 3
  · rw [if_pos h3]
    refine top1_le fun x hx => ?_
    obtain ⟨y, hy, rfl⟩ := List.mem_map.1 hx
    have h1 := ih y hy (List.all_eq_true.1 h.2 y hy)
    have h2 : y.dep ≤ top (l.map V.dep) := le_top (List.mem_map_of_mem hy)
    omega
  · have := List.eq_nil_of_length_eq_zero (fok_len h3 h.1)
    subst this
    simp [top1]
def PartsIs (v : V) (d z : Nat) : Prop := 1 ≤ z ∧ z ≤ 513 + 512 * (17 - d) ∧ (z ≤ 512 → z = v.size ∧ v.ht + d ≤ 16) ∧ (v.size ≤ 512 → v.ht + d ≤ 16 → z = v.size)
structure PInv (l : List V) (d j n : Nat) : Prop where
 pos : 1 ≤ n
 le : n ≤ 513 + 512 * (17 - d)
 few : n ≤ 512 → n = 1 + sizeTo l j ∧ ∀ i (h : i < l.length), i < j → l[i].ht + (d + 1) ≤ 16
 same : 1 + sizeTo l j ≤ 512 → (∀ i (h : i < l.length), i < j → l[i].ht + (d + 1) ≤ 16) → n = 1 + sizeTo l j
end Go.Proofs.YtlejelbefmkakaaGreat

namespace Go.Proofs.YtlejelbefmkakaaGreat
open Go.RowKit
def walkL : List (List Int → List (List Int × V)) → Nat → List Int → List (List Int × V)
 | [], _, _ => []
 | f :: fs, i, pl => f (pl ++ [(i : Int)]) ++ walkL fs (i + 1) pl
def V.walk : V → List Int → List (List Int × V)
 | .mk k n s l r => fun pl => (pl, .mk k n s l r) :: walkL (l.map V.walk) 0 pl
termination_by v => v
theorem V.walk_mk (k n : Int) (s : ByteArray) (l : List V) (r : Int) (pl : List Int) : (V.mk k n s l r).walk pl = (pl, .mk k n s l r) :: walkL (l.map V.walk) 0 pl := by rw [V.walk]
theorem walkL_append (fs gs : List (List Int → List (List Int × V))) (i : Nat) (pl : List Int) : walkL (fs ++ gs) i pl = walkL fs i pl ++ walkL gs (i + fs.length) pl := by
 induction fs generalizing i with
 | nil => simp [walkL]
 | cons f fs ih => simp only [List.cons_append, walkL, ih, List.append_assoc, List.length_cons]; rw [show i + 1 + fs.length = i + (fs.length + 1) by omega]
theorem walkL_take (fs : List (List Int → List (List Int × V))) (pl : List Int) {j : Nat} (h : j < fs.length) : walkL (fs.take (j + 1)) 0 pl = walkL (fs.take j) 0 pl ++ fs[j] (pl ++ [(j : Int)]) := by
 rw [List.take_succ_eq_append_getElem h, walkL_append]
 simp [walkL, List.length_take, Nat.min_eq_left (Nat.le_of_lt h)]
theorem walkL_length (L : List V) : ∀ (i : Nat) (pl : List Int), (∀ v ∈ L, ∀ p, (v.walk p).length = v.size) → (walkL (L.map V.walk) i pl).length = (L.map V.size).sum := by
 induction L with
 | nil => intro i pl _; rfl
 | cons v L ih =>
  intro i pl h
  simp only [List.map_cons, walkL, List.length_append, List.sum_cons]
  rw [h v (by simp), ih (i + 1) pl fun u hu => h u (by simp [hu])]
theorem walk_length (v : V) : ∀ p, (v.walk p).length = v.size := by
 induction v using V.ind with
 | h k n s l r ih =>
  intro p
  rw [V.walk_mk, V.size_mk, List.length_cons, walkL_length l 0 p ih]
  omega
structure Yields (N : Nat) (f : FuncId) (cp : Array Value) (J Jx : List (List Int × V) → (Nat → Prop) → World → Prop) : Prop where
 enters : ∀ (args : Array Value) (w : World), (callFunc f args).run Tryz.prog w = .ok (.enter f args) w
 call : ∀ (pre : List (List Int × V)) (M : Nat → Prop) (W : World) (x : T) (lo hi : Nat) (A : Option Addr) (cap : Nat) (p : List Int) (lo' hi' : Nat), pre.length < N → J pre M W → x.In W lo hi → hi ≤ W.heap.size → (∀ i, lo ≤ i → i < hi → ¬ M i) →
  Ints W lo' hi' A cap p → hi' ≤ W.heap.size → (∀ i, lo' ≤ i → i < hi' → ¬ M i) → Calls Tryz.prog f (#[.slice A p.length cap, x.val] ++ cp) W fun e W' => ∃ M' : Nat → Prop, Fr M W W' ∧ (∀ i, M' i → i < W.heap.size → M i) ∧
   ((e = .returned (.bool true) ∧ J (pre ++ [(p, x.v)]) M' W') ∨ (e = .returned (.bool false) ∧ Jx (pre ++ [(p, x.v)]) M' W'))
 stay : ∀ (pre : List (List Int × V)) (M : Nat → Prop) (W W' : World) (S : Nat → Prop), J pre M W → Fr S W W' → (∀ i, i < W.heap.size → S i → ¬ M i) → J pre M W'
 lt : ∀ (pre : List (List Int × V)) (M : Nat → Prop) (W : World), J pre M W → ∀ i, M i → i < W.heap.size
theorem Yields.no {N : Nat} {f : FuncId} {cp : Array Value} {J Jx : List (List Int × V) → (Nat → Prop) → World → Prop} (y : Yields N f cp J Jx) {pre : List (List Int × V)} {M : Nat → Prop} {W W' : World} (h : J pre M W) (hf : Fr No W W') : J pre M W' :=
 y.stay pre M W W' No h hf fun _ _ h => h.elim
def WalkP (J Jx : List (List Int × V) → (Nat → Prop) → World → Prop) (pre : List (List Int × V)) (M : Nat → Prop) (L : List (List Int × V)) (W : World) (e : Ending) (W' : World) : Prop :=
 ∃ M' : Nat → Prop, Fr M W W' ∧ (∀ i, M' i → i < W.heap.size → M i) ∧ ((e = .returned (.bool true) ∧ J (pre ++ L) M' W') ∨ (e = .returned (.bool false) ∧ ∃ q, q <+: L ∧ Jx (pre ++ q) M' W'))
theorem Clip_any (A : Option Addr) (n cap : Nat) (hn : n ≤ cap) (hc : n ≤ 9223372036854775807) (w : World) : Calls Tryz.prog 217 #[.slice A n cap] w fun e w' => e = .returned (.slice A n n) ∧ w' = w := by
 have h1 : (n : Int) ≤ (cap : Int) := by omega
 have h2 : (0 : Int) ≤ (n : Int) := by omega
 go_enter Tryz.func217, Tryz.ntmps217
 go_wp2
 go_ret
 exact ⟨by first | rfl | simp, rfl⟩
def WalkB (J Jx : List (List Int × V) → (Nat → Prop) → World → Prop) (pre : List (List Int × V)) (M : Nat → Prop) (L : List (List Int × V)) (W : World) (q : Bool) (W' : World) : Prop :=
 ∃ M' : Nat → Prop, Fr M W W' ∧ (∀ i, M' i → i < W.heap.size → M i) ∧ (q = true → J (pre ++ L) M' W') ∧ (q = false → ∃ q, q <+: L ∧ Jx (pre ++ q) M' W')
theorem WalkP.bool {J Jx : List (List Int × V) → (Nat → Prop) → World → Prop} {pre : List (List Int × V)} {M : Nat → Prop} {L : List (List Int × V)} {W : World} {e : Ending} {W' : World} (h : WalkP J Jx pre M L W e W') : ∃ q : Bool, e = .returned (.bool q) ∧ WalkB J Jx pre M L W q W' := by
 obtain ⟨M', h1, h2, ⟨rfl, h3⟩ | ⟨rfl, h3⟩⟩ := h
 · exact ⟨true, rfl, M', h1, h2, fun _ => h3, (fun h => by cases h)⟩
 · exact ⟨false, rfl, M', h1, h2, (fun h => by cases h), fun _ => h3⟩
theorem Ints.old {w : World} {lo hi : Nat} {A : Option Addr} {cap : Nat} {p : List Int} (h : Ints w lo hi A cap p) : ∀ b, A = some b → ∀ j u, (p.map fun x => Value.int .i64 x)[j]? = some u → w.cell? (b.add j) = some u := by
 intro b hb j u hu
 rw [List.getElem?_map] at hu
 cases hx : p[j]? with
 | none => rw [hx] at hu; cases hu
 | some x =>
  rw [hx] at hu
  simp at hu
  subst hu
  obtain ⟨b', o', hA, _, _, hc⟩ := h.at_ (by rintro rfl; simp at hx)
  rw [hA] at hb
  injection hb with hb
  subst hb
  have : (⟨b', o', none⟩ : Addr).add j = ⟨b', o' + j, none⟩ := by unfold Addr.add; split <;> simp_all
  rw [this]
  exact hc j x hx
theorem ints_of_owns {w : World} {base g cap : Nat} {p : List Int} (h : w.ownsRow base 3 1 (.slice (some ⟨g, 0, none⟩) p.length cap) p.length (p.map fun x => Value.int .i64 x)) (hl : p.length * 8 ≤ 140737488351232) (hr : ∀ x ∈ p, -9223372036854775808 ≤ x ∧ x ≤ 9223372036854775807) :
 Ints w g (g + 1) (some ⟨g, 0, none⟩) cap p := by
 rcases h.2 with ⟨hs, _⟩ | ⟨g', cap', cur, hs, hb, hg, hc, hm, hsz, hx⟩
 · cases hs
 · simp at hs
   obtain ⟨rfl, rfl⟩ := hs
   refine ⟨hl, hc, fun _ => ⟨g, 0, rfl, Nat.le_refl _, by omega, fun i x hi => ?_⟩, hr⟩
   have hcell : w.cell? ⟨g, 0 + i, none⟩ = cur[0 + i]? := cell_of_row w g _ cur 3 (0, 0) hg
   rw [hcell, Nat.zero_add]
   have h1 : (p.map fun x => Value.int .i64 x)[i]? = some (.int .i64 x) := by rw [List.getElem?_map, hi]; rfl
   rw [← hx, List.getElem?_take] at h1
   split at h1
   · simpa using h1
   · cases h1
theorem blk5 {w : World} {g : Nat} {t : TypeId} {a b c d e : Value} (h : Blk w g t #[a, b, c, d, e]) : w.cell? ⟨g, 0, none⟩ = some a ∧ w.cell? ⟨g, 1, none⟩ = some b ∧ w.cell? ⟨g, 2, none⟩ = some c ∧ w.cell? ⟨g, 3, none⟩ = some d ∧ w.cell? ⟨g, 4, none⟩ = some e :=
 ⟨h.cell 0, h.cell 1, h.cell 2, h.cell 3, h.cell 4⟩
structure WInv (J : List (List Int × V) → (Nat → Prop) → World → Prop) (pre : List (List Int × V)) (M : Nat → Prop) (W : World) (X : Array Value) (wr : World) : Prop where
 fr : Fr M W wr
 box : Blk wr W.heap.size 28 X
 ex : ∃ M1 : Nat → Prop, J pre M1 wr ∧ (∀ i, M1 i → i < W.heap.size → M i) ∧ ¬ M1 W.heap.size
end Go.Proofs.YtlejelbefmkakaaGreat

namespace Go.Proofs.YtlejelbefmkakaaGreat
open Go.RowKit
theorem int_info : (Tryz.prog.info? 3).map (fun i => (i.zero, i.size, i.bytes)) = some (some (.int .i64 0), 1, 8) := by kernel_rfl
theorem winv_step {J Jx : List (List Int × V) → (Nat → Prop) → World → Prop} {PRE L : List (List Int × V)} {M M1 : Nat → Prop} {W wr w4 w5 : World} {X : Array Value} {q : Bool} (fr : Fr M W wr) (hb : Blk wr W.heap.size 28 X) (hs1 : ∀ i, M1 i → i < W.heap.size → M i) (hn1 : ¬ M1 W.heap.size)
 (f4 : Fr No wr w4) (hq : WalkB J Jx PRE M1 L w4 q w5) : (q = true → WInv J (PRE ++ L) M W X w5) ∧ (q = false → ∃ M' : Nat → Prop, Fr M W w5 ∧ (∀ i, M' i → i < W.heap.size → M i) ∧ ∃ q', q' <+: L ∧ Jx (PRE ++ q') M' w5) := by
 obtain ⟨M5, f5, hs5, h1, h2⟩ := hq
 have hsz := fr.size
 have hsz4 := f4.size
 have hF : Fr M W w5 := (fr.thenNo f4).trans' f5 fun i hi h => hs1 i h hi
 have hM5 : ∀ i, M5 i → i < W.heap.size → M i := fun i h hi => hs1 i (hs5 i h (by omega)) hi
 refine ⟨fun hq => ⟨hF, (hb.fr f4 fun h => h).fr f5 hn1, M5, h1 hq, hM5, fun h => hn1 (hs5 _ h (by have := hb.lt; omega))⟩, fun hq => ?_⟩
 obtain ⟨q', hp, hx⟩ := h2 hq
 exact ⟨M5, hF, hM5, q', hp, hx⟩
theorem grown_no {W w w' : World} (h : Fr No W w) (hg : w.grownBy w' none) : Fr No W w' := h.grown hg fun k hk => by cases hk
theorem walkb_box {J Jx : List (List Int × V) → (Nat → Prop) → World → Prop} {PRE L : List (List Int × V)} {M1 : Nat → Prop} {w4 w5 : World} {q : Bool} {g : Nat} {X : Array Value} (hq : WalkB J Jx PRE M1 L w4 q w5) (hb : Blk w4 g 28 X) (hn : ¬ M1 g) : Blk w5 g 28 X := by
 obtain ⟨M5, f5, _⟩ := hq
 exact hb.fr f5 hn
theorem prefix_cons {α : Type} {x : α} {L a b c : List α} {q : List α} (h1 : L = x :: (a ++ (b ++ c))) (hq : q <+: b) : x :: (a ++ q) <+: L := by
 obtain ⟨d, rfl⟩ := hq
 exact ⟨d ++ c, by rw [h1]; simp⟩
set_option maxRecDepth 100000 in
set_option maxHeartbeats 4000000 in
theorem walk_any {N : Nat} {f : FuncId} {cp : Array Value} {J Jx : List (List Int × V) → (Nat → Prop) → World → Prop} (y : Yields N f cp J Jx) (t : T) : ∀ (pre : List (List Int × V)) (M : Nat → Prop) (W : World) (lo hi : Nat) (A : Option Addr) (cap : Nat) (p : List Int) (lo' hi' : Nat), J pre M W → t.In W lo hi → hi ≤ W.heap.size → (∀ i, lo ≤ i → i < hi → ¬ M i) →
 Ints W lo' hi' A cap p → hi' ≤ W.heap.size → (∀ i, lo' ≤ i → i < hi' → ¬ M i) → p.length + t.v.ht ≤ 1000 → pre.length + t.v.size ≤ N → Calls Tryz.prog 164 #[t.val, .slice A p.length cap, .func (.func f) #[] cp] W (WalkP J Jx pre M (t.v.walk p) W) := by
 induction t using T.ind with
 | h k n s A1 cap1 l r ih =>
  intro pre M W lo hi A cap p lo' hi' hJ ht hh hM hp hh' hM' hbnd hN
  have hY := y.call pre M (W.alloc (.cells #[.int .u8 k, .int .i64 n, .string s, .slice A1 l.length cap1, .int .i64 r] 28)) (T.mk k n s A1 cap1 l r) lo hi A cap p lo' hi' (by have := (T.mk k n s A1 cap1 l r).v.size_pos; omega) (y.no hJ ((Fr.refl No W).alloc _)) (ht.no ((Fr.refl No W).alloc _) hh) (by simp; omega) hM
   (hp.no ((Fr.refl No W).alloc _) hh') (by simp; omega) hM'
  rw [T.val_mk] at *
  have hK := Blk.new' W 28 #[.int .u8 k, .int .i64 n, .string s, .slice A1 l.length cap1, .int .i64 r] rfl
  have fr1 := (Fr.refl No W).alloc (.cells #[.int .u8 k, .int .i64 n, .string s, .slice A1 l.length cap1, .int .i64 r] 28)
  have hwk : (T.mk k n s A1 cap1 l r).v.walk p = (p, (T.mk k n s A1 cap1 l r).v) :: walkL ((l.map T.v).map V.walk) 0 p := by rw [T.v_mk, V.walk_mk]
  have hlt := y.lt pre M W hJ
  have heg := y.enters
  have HY := hide hY
  have HLT := hide hlt
  clear hlt
  clear hY
  go_enter Tryz.func164, Tryz.ntmps164
  go_wp2_with fail
  refine HY.out.mono ?_
  rintro e W2 ⟨M2, frM2, hsub2, ⟨rfl, hJ2⟩ | ⟨rfl, hJx2⟩⟩
  · have hM0 : ¬ M W.heap.size := fun h => by have := HLT.out _ h; omega
    have hM20 : ¬ M2 W.heap.size := fun h => hM0 (hsub2 _ h (by simp))
    have hst : WInv J (pre ++ (p, (T.mk k n s A1 cap1 l r).v) :: walkL (((l.map T.v).map V.walk).take 0) 0 p) M W #[.int .u8 k, .int .i64 n, .string s, .slice A1 l.length cap1, .int .i64 r] W2 :=
     ⟨(fr1.no (S := M)).trans frM2, hK.fr frM2 hM0, M2, by simpa [walkL] using hJ2, fun i h1 h2 => hsub2 i h1 (by simp; omega), hM20⟩
    have HST := hide hst
    obtain ⟨c0, c1, c2, c3, c4, cf⟩ := hst.box.cells5
    have hlen := (T.in_mk.1 ht).1.len1
    have q0 := hst.box.lt
    have HWK := hide hwk
    have HTT := hide ht
    clear hst hM20 hK hJ2 frM2 hsub2 fr1 hJ hwk ht
    go_wp2_with fail
    go_loopw [17] (fun i wr => ∃ j : Nat, j ≤ l.length ∧ i = .int .i64 j ∧ WInv J (pre ++ (p, (T.mk k n s A1 cap1 l r).v) :: walkL (((l.map T.v).map V.walk).take j) 0 p) M W #[.int .u8 k, .int .i64 n, .string s, .slice A1 l.length cap1, .int .i64 r] wr) (fun i _ => l.length - (intOf i).toNat)
    case atStart => exact ⟨0, Nat.zero_le _, rfl, HST.out⟩
    case round =>
     obtain ⟨j, hj, rfl, inv⟩ := hrel
     by_cases hlt : j < l.length
     · obtain ⟨fr, hb, M1, hJ1, hs1, hn1⟩ := inv
       obtain ⟨b, o, k1, n1, s1, A2, cap2, l1, r1, rfl, hb0, hb1, hx, hin, e0, e1, e2, e3, e4⟩ := T.elem (HTT.out.fr fr hh hM) hlt
       have hsz := fr.size
       have g0 : b < wr.heap.size := by omega
       have hlt1 := y.lt _ _ _ hJ1
       have hch : (T.mk k1 n1 s1 A2 cap2 l1 r1).v.ht + 1 ≤ (T.mk k n s (some ⟨b, o, none⟩) cap1 l r).v.ht := by
        rw [← hx, T.v_mk k n s]; exact ht_child (List.mem_map_of_mem (List.getElem_mem hlt))
       have hpl : p.length + 1 ≤ 1000 := by omega
       have hNN : (pre ++ (p, (T.mk k n s (some ⟨b, o, none⟩) cap1 l r).v) :: walkL (((l.map T.v).map V.walk).take j) 0 p).length + (T.mk k1 n1 s1 A2 cap2 l1 r1).v.size ≤ N := by
        have h1 : (walkL (((l.map T.v).map V.walk).take j) 0 p).length = (((l.map T.v).take j).map V.size).sum := by
         rw [← List.map_take]; exact walkL_length _ 0 p fun v _ => walk_length v
        have h2 := sum_take_succ ((l.map T.v).map V.size) j (by simpa using hlt)
        have h3 := sum_take_le ((l.map T.v).map V.size) (j + 1)
        rw [List.getElem_map, List.getElem_map, hx] at h2
        rw [List.map_take] at h1
        rw [T.v_mk k n s, V.size_mk] at hN
        rw [List.length_append, List.length_cons, h1]
        omega
       have hcapp := hp.cap
       have fr3 := (Fr.refl No wr).alloc (.cells #[.int .u8 k1, .int .i64 n1, .string s1, .slice A2 l1.length cap2, .int .i64 r1] 28)
       have hPW : ∀ w', Fr No (wr.alloc (.cells #[.int .u8 k1, .int .i64 n1, .string s1, .slice A2 l1.length cap2, .int .i64 r1] 28)) w' → Ints w' lo' hi' A p.length p := fun w' f => by
        have h := hp.fr (fr.thenNo (fr3.trans f)) hh' hM'
        exact ⟨h.len, Nat.le_refl _, h.at_, h.rng⟩
       have hnone : A = none → p.length = 0 ∧ p.length = 0 := fun hA => by
        rcases List.eq_nil_or_concat p with rfl | ⟨p', x, rfl⟩
        · simp
        · obtain ⟨b', o', h, _⟩ := hp.at_ (by simp)
          rw [hA] at h; cases h
       have hrec : ∀ (w4 : World) (g4 cap4 : Nat), Fr No (wr.alloc (.cells #[.int .u8 k1, .int .i64 n1, .string s1, .slice A2 l1.length cap2, .int .i64 r1] 28)) w4 → Ints w4 g4 (g4 + 1) (some ⟨g4, 0, none⟩) cap4 (p ++ [(j : Int)]) → wr.heap.size ≤ g4 → g4 < w4.heap.size →
        Calls Tryz.prog 164 #[.agg #[.int .u8 k1, .int .i64 n1, .string s1, .slice A2 l1.length cap2, .int .i64 r1], .slice (some ⟨g4, 0, none⟩) (p.length + 1) cap4, .func (.func f) #[] cp] w4 fun e w5 => ∃ q : Bool, e = .returned (.bool q) ∧
         WalkB J Jx (pre ++ (p, (T.mk k n s (some ⟨b, o, none⟩) cap1 l r).v) :: walkL (((l.map T.v).map V.walk).take j) 0 p) M1 ((T.mk k1 n1 s1 A2 cap2 l1 r1).v.walk (p ++ [(j : Int)])) w4 q w5 := by
        intro w4 g4 cap4 f4 hi4 h0 h1
        have f04 := fr3.trans f4
        have h := ih l[j] (List.getElem_mem hlt) (pre ++ (p, (T.mk k n s (some ⟨b, o, none⟩) cap1 l r).v) :: walkL (((l.map T.v).map V.walk).take j) 0 p) M1 w4 lo hi (some ⟨g4, 0, none⟩) cap4 (p ++ [(j : Int)]) g4 (g4 + 1) (y.no hJ1 f04)
         (by rw [hx]; exact hin.no f04 (by omega)) (by have := f04.size; omega) (fun i q0 q1 q2 => hM i q0 q1 (hs1 i q2 (by omega))) hi4 (by omega) (fun i q0 q1 q2 => by have := hlt1 i q2; omega) (by rw [List.length_append, hx]; simp; omega) (by rw [hx]; exact hNN)
        rw [hx, T.val_mk, List.length_append] at h
        exact h.mono fun e w5 hw => hw.bool
       have hbx := Blk.new wr 28 #[.int .u8 k1, .int .i64 n1, .string s1, .slice A2 l1.length cap2, .int .i64 r1]
       obtain ⟨i0, hi0, hz0, hz1, hz2⟩ := info_parts int_info
       have hrng : ∀ x ∈ p ++ [(j : Int)], -9223372036854775808 ≤ x ∧ x ≤ 9223372036854775807 := fun x hx => by
        rcases List.mem_append.1 hx with hx | hx
        · exact hp.rng x hx
        · simp at hx; omega
       have HREC := hide hrec
       have HPW := hide hPW
       have HBX := hide hbx
       have HNONE := hide hnone
       have HFR := hide fr
       have HB := hide hb
       have HS1 := hide hs1
       have HN1 := hide hn1
       have HF3 := hide fr3
       have HRNG := hide hrng
       have HX := hide hx
       have HLT1 := hide (fun h => by have := hlt1 wr.heap.size h; omega : ¬ M1 wr.heap.size)
       have hcl := fun w' => Clip_any A p.length cap hcapp (by omega) w'
       clear hrec hPW hbx hnone fr hb hs1 hn1 fr3 hin hx hJ1 hlt1 ih hch hrng
       go_wp2_with fail
       go_region_held3 (fun w' => w'.cell? ⟨wr.heap.size, 0, none⟩ = some (.int .u8 k1) ∧ w'.cell? ⟨wr.heap.size, 1, none⟩ = some (.int .i64 n1) ∧ w'.cell? ⟨wr.heap.size, 2, none⟩ = some (.string s1) ∧ w'.cell? ⟨wr.heap.size, 3, none⟩ = some (.slice A2 l1.length cap2) ∧ w'.cell? ⟨wr.heap.size, 4, none⟩ = some (.int .i64 r1))
        (first | with_reducible exact blk5 (Blk.drew HBX.out) | with_reducible exact blk5 (Blk.drew (Blk.alloc HBX.out _)) | with_reducible exact HS5.out | with_reducible exact HS4.out)
        (first
         | ((refine step_append_grows rfl _ _ _ (by rfl) 3 i0 _ 1 8 Tryz.underlying36 hi0 hz0 hz1 hz2 rfl (by omega) A p.length p.length (p.map fun x => Value.int .i64 x) (by rfl) HNONE.out (by simp) (Ints.old (HPW.out _ (by repeat (first | with_reducible exact Fr.refl No _ | with_reducible refine Fr.drew ?_ | with_reducible refine Fr.alloc ?_ _)))) ⟨wr.heap.size + 1, 0, none⟩ 1 1 [.int .i64 (j : Int)] (by rfl) (by rfl) (World.news_of_block (Blk.new' _ 3 #[.int .i64 (j : Int)] (by simp))) (by simp [Value.oneCell']) (by omega) (by unfold maxLen; omega) (by omega) ?_); intro v4 w4 hown hgrow; obtain ⟨g4, cap4, rfl, hg0, hg1⟩ := hown.form (by omega); have FR4 := hide (grown_no (W := wr.alloc (.cells #[.int .u8 k1, .int .i64 n1, .string s1, .slice A2 l1.length cap2, .int .i64 r1] 28)) (by repeat (first | with_reducible exact Fr.refl No _ | with_reducible refine Fr.drew ?_ | with_reducible refine Fr.alloc ?_ _)) hgrow); have INT4 := hide (ints_of_owns (p := p ++ [(j : Int)]) (by simpa using hown) (by simp; omega) HRNG.out); have hg0' : wr.heap.size ≤ g4 := (by simp at hg0; omega); have HG0 := hide hg0'; have HS4 := hide (blk5 (Blk.fr HBX.out FR4.out fun h => h)); clear hown hgrow hg0 hg0')
         | (go_at_call 164; ((with_reducible refine (HREC.out w4 g4 cap4 FR4.out INT4.out HG0.out hg1).mono ?_); rintro e w5 ⟨q, rfl, hq⟩; have HW := hide (winv_step HFR.out HB.out HS1.out HN1.out (HF3.out.trans FR4.out) hq); have HS5 := hide (blk5 (walkb_box hq (Blk.fr HBX.out FR4.out fun h => h) HLT1.out)); clear hq))
         | (go_at_call 217; (with_reducible refine (hcl _).mono ?_); rintro e wc ⟨rfl, rfl⟩))
       all_goals
        have hW := HW.out
        cases q with
        | true =>
         have HW2 := hide (hW.1 rfl)
         clear hW
         go_wp2
         go_roundw
         case rel =>
          refine ⟨j + 1, hlt, by go_num, ?_⟩
          have h := HW2.out
          have hx' := HX.out
          rw [walkL_take _ _ (by simpa using hlt), ← List.cons_append, ← List.append_assoc, List.getElem_map, List.getElem_map, hx']
          exact h
         case measure => simp [intOf]; omega
        | false =>
         have hpost : WalkP J Jx pre M ((T.mk k n s (some ⟨b, o, none⟩) cap1 l r).v.walk p) W (.returned (.bool false)) w5 := by
          obtain ⟨M', f, hs, q', hp', hx2⟩ := hW.2 rfl
          have hx' := HX.out
          refine ⟨M', f, hs, .inr ⟨rfl, (p, (T.mk k n s (some ⟨b, o, none⟩) cap1 l r).v) :: (walkL (((l.map T.v).map V.walk).take j) 0 p ++ q'), ?_, by simpa using hx2⟩⟩
          refine prefix_cons (b := (T.mk k1 n1 s1 A2 cap2 l1 r1).v.walk (p ++ [(j : Int)])) (c := walkL (((l.map T.v).map V.walk).drop (j + 1)) (0 + (((l.map T.v).map V.walk).take (j + 1)).length) p) ?_ hp'
          rw [HWK.out]
          congr 1
          have h1 := walkL_take ((l.map T.v).map V.walk) p (j := j) (by simpa using hlt)
          rw [List.getElem_map, List.getElem_map, hx'] at h1
          rw [← List.append_assoc, ← h1, ← walkL_append, List.take_append_drop]
         have HP := hide hpost
         clear hpost hW
         go_wp2
         go_ret
         exact HP.out
     · obtain rfl : j = l.length := by omega
       have hpost : WalkP J Jx pre M ((T.mk k n s A1 cap1 l r).v.walk p) W (.returned (.bool true)) wr := by
        obtain ⟨fr, hb, M1, hJ1, hs1, _⟩ := inv
        rw [List.take_of_length_le (by simp)] at hJ1
        exact ⟨M1, fr, hs1, .inl ⟨rfl, by rw [HWK.out]; exact hJ1⟩⟩
       have HP := hide hpost
       clear hpost inv ih
       go_wp2
       go_ret
       exact HP.out
  · have hpost : WalkP J Jx pre M ((T.mk k n s A1 cap1 l r).v.walk p) W (.returned (.bool false)) W2 :=
     ⟨M2, (fr1.no (S := M)).trans frM2, fun i h1 h2 => hsub2 i h1 (by simp; omega), .inr ⟨rfl, [(p, (T.mk k n s A1 cap1 l r).v)], ⟨walkL ((l.map T.v).map V.walk) 0 p, by rw [hwk]; rfl⟩, hJx2⟩⟩
    have HP := hide hpost
    clear hpost hJx2 frM2 hsub2 ih hwk
    go_wp2
    go_ret
    exact HP.out
end Go.Proofs.YtlejelbefmkakaaGreat

namespace Go.Proofs.YtlejelbefmkakaaGreat
open Go.RowKit
def refsOf : List (List Int × V) → List Int
 | [] => []
 | (_, .mk k _ _ _ r) :: l => if k = 4 then r :: refsOf l else refsOf l
theorem refsOf_append (a b : List (List Int × V)) : refsOf (a ++ b) = refsOf a ++ refsOf b := by
 induction a with
 | nil => rfl
 | cons x a ih =>
  obtain ⟨p, k, n, s, l, r⟩ := x
  simp only [List.cons_append, refsOf]
  split <;> simp [ih]
theorem refsOf_length (a : List (List Int × V)) : (refsOf a).length ≤ a.length := by
 induction a with
 | nil => simp [refsOf]
 | cons x a ih =>
  obtain ⟨p, k, n, s, l, r⟩ := x
  simp only [refsOf]
  split <;> simp <;> omega
theorem ref_info : (Tryz.prog.info? 22).map (fun i => (i.zero, i.size, i.bytes)) = some (some (.int .i64 0), 1, 8) := by kernel_rfl
def RefsJ (g base : Nat) (pre : List (List Int × V)) (M : Nat → Prop) (W : World) : Prop :=
 g < base ∧ base ≤ W.heap.size ∧ ∃ v, Blk W g 54 #[v] ∧ W.ownsRow base 22 1 v (refsOf pre).length ((refsOf pre).map fun r => Value.int .i64 r) ∧ ∀ i, M i ↔ (i = g ∨ v.ownBlock = some i)
theorem refs_stay {g base : Nat} {pre : List (List Int × V)} {M : Nat → Prop} {W W' : World} {S : Nat → Prop} (h : RefsJ g base pre M W) (hf : Fr S W W') (hs : ∀ i, i < W.heap.size → S i → ¬ M i) : RefsJ g base pre M W' := by
 obtain ⟨h0, h1, v, hb, ho, hM⟩ := h
 exact ⟨h0, Nat.le_trans h1 hf.size, v, hb.fr hf (fun h => hs g hb.lt h ((hM g).2 (.inl rfl))), owns_fr ho hf (fun i hi h => hs i (owns_lt ho i hi).2 h ((hM i).2 (.inr hi))), hM⟩
set_option maxRecDepth 100000 in
set_option maxHeartbeats 2000000 in
theorem refs1_any (g base : Nat) (pre : List (List Int × V)) (M : Nat → Prop) (W : World) (x : T) (A : Option Addr) (n cap : Nat) (p : List Int) (hJ : RefsJ g base pre M W) (hp : pre.length < 1000000) :
 Calls Tryz.prog 165 #[.slice A n cap, x.val, .pointer (some ⟨g, 0, none⟩)] W fun e W' => e = .returned (.bool true) ∧ ∃ M' : Nat → Prop, Fr M W W' ∧ (∀ i, M' i → i < W.heap.size → M i) ∧ RefsJ g base (pre ++ [(p, x.v)]) M' W' := by
 obtain ⟨h0, h1, v, hb, ho, hM⟩ := hJ
 have hlen := refsOf_length pre
 cases x with
 | mk k nn s A1 cap1 l r =>
  rw [T.val_mk]
  have fr1 := (Fr.refl No W).alloc (.cells #[.int .u8 k, .int .i64 nn, .string s, .slice A1 l.length cap1, .int .i64 r] 28)
  have hb1 := hb.alloc (.cells #[.int .u8 k, .int .i64 nn, .string s, .slice A1 l.length cap1, .int .i64 r] 28)
  have hbx := Blk.new W 28 #[.int .u8 k, .int .i64 nn, .string s, .slice A1 l.length cap1, .int .i64 r]
  have ho1 := ho.alloc (.cells #[.int .u8 k, .int .i64 nn, .string s, .slice A1 l.length cap1, .int .i64 r] 28)
  have q0 := hb.lt
  by_cases hk : k = 4
  · subst hk
    have hr : refsOf (pre ++ [(p, (T.mk 4 nn s A1 cap1 l r).v)]) = refsOf pre ++ [r] := by rw [refsOf_append, T.v_mk]; rfl
    obtain ⟨i0, hi0, hz0, hz1, hz2⟩ := info_parts ref_info
    have hol := owns_lt ho
    have HR := hide hr
    have HOL := hide hol
    have HM := hide hM
    have HO := hide ho1
    have HB := hide hb
    have HF := hide fr1
    have c0 := hb1.cell 0
    have f0 := hb1.frozen 0
    simp only [lq1, lq3] at c0
    obtain ⟨x0, x1, x2, x3, x4, xf⟩ := hbx.cells5
    have q1 := hbx.lt
    have q2 := hb1.lt
    generalize hL : refsOf pre = L at *
    have HL := hide hL
    have hownA := ho1.alloc (.cells #[.int .i64 r] 22)
    have hBW : ∀ w1, ((W.alloc (.cells #[.int .u8 4, .int .i64 nn, .string s, .slice A1 l.length cap1, .int .i64 r] 28)).alloc (.cells #[.int .i64 r] 22)).grownBy w1 v.ownBlock → Blk w1 g 54 #[v] := fun w1 hg =>
     (hg.block g (by simp; omega) (fun h => by have := hol g h.symm; omega)).trans (hb1.alloc (.cells #[.int .i64 r] 22))
    have HBW := hide hBW
    clear hr hol hM ho1 hb fr1 hb1 hbx ho hL hBW
    go_enter Tryz.func165, Tryz.ntmps165
    go_wp2_with (at_builtin; refine wpList_append_lies _ (by rfl) _ _ _ (by rfl) base 22 i0 _ 1 8 Tryz.underlying54 hi0 hz0 hz1 hz2 (by rfl) (by omega) v L.length (L.map fun r => Value.int .i64 r) (by rfl) hownA ⟨W.heap.size + 1, 0, none⟩ 1 1 [.int .i64 r] (by rfl) (by rfl) (World.news_of_block (Blk.new' _ 22 #[.int .i64 r] (by simp))) (by simp [Value.oneCell']) (by omega) (by unfold maxLen; omega) (by omega) (by simp; omega) (W.heap.size + 1 + 1) (by simp) ?_; intro g2 cap2 w1 hown1 hgrow hat hlt1; have hbw := HBW.out w1 hgrow; have c1 := hbw.cell 0; have f1 := hbw.frozen 0; have q5 := hbw.lt; have HBW1 := hide hbw; simp only [lq1, lq3] at c1; clear hbw)
    go_ret
    have fA : Fr M W ((W.alloc (.cells #[.int .u8 4, .int .i64 nn, .string s, .slice A1 l.length cap1, .int .i64 r] 28)).alloc (.cells #[.int .i64 r] 22)) := (HF.out.alloc _).no
    have fB : Fr M W w1 := fA.grown hgrow fun i hi hlt => (HM.out i).2 (.inr hi)
    have fC : Fr M W (w1.setCell ⟨g, 0, none⟩ (.slice (some ⟨g2, 0, none⟩) (L.length + 1) cap2)) := fB.set (fun _ => (HM.out g).2 (.inl rfl)) _
    have hg2 : base ≤ g2 := (owns_lt hown1 g2 rfl).1
    refine ⟨rfl, fun i => i = g ∨ i = g2, fC, fun i hi hlt => ?_, h0, Nat.le_trans h1 fC.size, .slice (some ⟨g2, 0, none⟩) (L.length + 1) cap2, HBW1.out.set_ 0 _, ?_, fun i => ?_⟩
    · rcases hi with rfl | rfl
      · exact (HM.out _).2 (.inl rfl)
      · rcases hat with h | h
        · exact (HM.out _).2 (.inr h)
        · omega
    · rw [HR.out, List.length_append, List.map_append]
      exact owns_fr hown1 ((Fr.refl (fun i => i = g) w1).set (fun _ => rfl) _) (fun i hi h => by simp [Value.ownBlock] at hi; have h' : i = g := h; omega)
    · simp [Value.ownBlock, eq_comm]
  · have hk' : (k == 4) = false := by simpa using hk
    have hr : refsOf (pre ++ [(p, (T.mk k nn s A1 cap1 l r).v)]) = refsOf pre := by rw [refsOf_append, T.v_mk]; simp [refsOf, hk]
    have hpost : ∃ M' : Nat → Prop, Fr M W (W.alloc (.cells #[.int .u8 k, .int .i64 nn, .string s, .slice A1 l.length cap1, .int .i64 r] 28)) ∧ (∀ i, M' i → i < W.heap.size → M i) ∧ RefsJ g base (pre ++ [(p, (T.mk k nn s A1 cap1 l r).v)]) M' (W.alloc (.cells #[.int .u8 k, .int .i64 nn, .string s, .slice A1 l.length cap1, .int .i64 r] 28)) := by
     refine ⟨M, fr1.no, fun i h _ => h, h0, Nat.le_trans h1 fr1.size, v, hb1, ?_, hM⟩
     rw [hr]; exact ho1
    have HP := hide hpost
    clear hpost hr hb hb1 hbx ho ho1 hM fr1
    go_enter Tryz.func165, Tryz.ntmps165
    go_wp2
    go_ret
    exact ⟨rfl, HP.out⟩
theorem enters_fn2 {P : Program} {f : FuncId} {fn : Func} {c : Code} (hf : P.funcs[f]? = some fn) (hname : (fn.name == "runtime.NumGoroutine") = false) (hb : fn.body = some c) : ∀ args w, (callFunc f args).run P w = .ok (.enter f args) w := by
 intro args w
 have h1 : fn.name ≠ "runtime.NumGoroutine" := by simpa using hname
 simp [callFunc, hf, h1, hb, mark]
theorem refs_yields (g base : Nat) : Yields 1000000 165 #[.pointer (some ⟨g, 0, none⟩)] (RefsJ g base) (fun _ _ _ => False) where
 enters := enters_fn2 Tryz.func165 (by kernel_rfl) rfl
 call := fun pre M W x lo hi A cap p lo' hi' hl hJ _ _ _ _ _ _ => (refs1_any g base pre M W x A p.length cap p hJ hl).mono fun e W' ⟨he, M', h1, h2, h3⟩ => ⟨M', h1, h2, .inl ⟨he, h3⟩⟩
 stay := fun pre M W W' S h hf hs => refs_stay h hf hs
 lt := fun pre M W h i hi => by
  obtain ⟨h0, h1, v, hb, ho, hM⟩ := h
  rcases (hM i).1 hi with rfl | h
  · exact hb.lt
  · exact (owns_lt ho i h).2
def V.refs (v : V) : List Int := if v.may = true then refsOf (v.walk []) else []
def RefsP (L : List Int) (w : World) (e : Ending) (w' : World) : Prop := ∃ v, e = .returned v ∧ w'.ownsRow w.heap.size 22 1 v L.length (L.map fun r => Value.int .i64 r) ∧ Fr No w w'
theorem ints_nil (w : World) : Ints w 0 0 none 0 [] := ⟨by simp, Nat.le_refl _, fun h => absurd rfl h, by simp⟩
set_option maxRecDepth 100000 in
set_option maxHeartbeats 4000000 in
theorem Refs_any (t : T) (w : World) (lo hi : Nat) (ht : t.In w lo hi) (hh : hi ≤ w.heap.size) : Calls Tryz.prog 95 #[t.val] w (RefsP t.v.refs w) := by
 have hM := fun w' h h' => may_any t w' lo hi h h'
 have hW := fun pre M W hJ h h' h2 h3 => walk_any (refs_yields (w.heap.size + 1) (w.heap.size + 1 + 1)) t pre M W lo hi none 0 [] 0 0 hJ h h' h2 (ints_nil W) (Nat.zero_le _) (fun i h0 h1 => by omega) h3
 have hst : RefsJ (w.heap.size + 1) (w.heap.size + 1 + 1) [] (fun i => i = w.heap.size + 1) ((w.alloc (.cells #[.int .u8 0] 28)).alloc (.cells #[.slice none 0 0] 54)) := ⟨by omega, by simp, .slice none 0 0, Blk.new' (w.alloc _) 54 _ (by simp), World.ownsRow_nil _ _ _ _, fun i => by simp [Value.ownBlock]⟩
 clear hst
 cases t with
 | mk k n s A cap l r =>
  rw [T.val_mk] at *
  have hst : RefsJ (w.heap.size + 1) (w.heap.size + 1 + 1) [] (fun i => i = w.heap.size + 1) ((w.alloc (.cells #[.int .u8 k, .int .i64 n, .string s, .slice A l.length cap, .int .i64 r] 28)).alloc (.cells #[.slice none 0 0] 54)) := ⟨by omega, by simp, .slice none 0 0, Blk.new' (w.alloc _) 54 _ (by simp), World.ownsRow_nil _ _ _ _, fun i => by simp [Value.ownBlock]⟩
  have fr1 : Fr No w ((w.alloc (.cells #[.int .u8 k, .int .i64 n, .string s, .slice A l.length cap, .int .i64 r] 28)).alloc (.cells #[.slice none 0 0] 54)) := ((Fr.refl No w).alloc _).alloc _
  have hK : Blk ((w.alloc (.cells #[.int .u8 k, .int .i64 n, .string s, .slice A l.length cap, .int .i64 r] 28)).alloc (.cells #[.slice none 0 0] 54)) w.heap.size 28 #[.int .u8 k, .int .i64 n, .string s, .slice A l.length cap, .int .i64 r] := (Blk.new' w 28 _ rfl).alloc _
  have hs1 : w.heap.size + 1 + 1 ≤ ((w.alloc (.cells #[.int .u8 k, .int .i64 n, .string s, .slice A l.length cap, .int .i64 r] 28)).alloc (.cells #[.slice none 0 0] 54)).heap.size := by simp
  have ht1 := ht.no fr1 hh
  generalize hu : (T.mk k n s A cap l r).v = u at *
  have HU := hide hu
  clear hu ht
  cases hm : u.may with
  | false =>
   have e1 : u.refs = [] := by simp [V.refs, hm]
   rw [e1]
   rw [hm] at hM
   clear hm e1 hW
   go_enter Tryz.func95, Tryz.ntmps95
   go_wp2_with fail
   generalize World.alloc _ (.cells #[.slice none 0 0] 54) = W0 at *
   refine (hM _ ht1 (by omega)).mono ?_
   rintro e w2 ⟨rfl, fr2⟩
   obtain ⟨h0, h1, v, hb, ho, hMM⟩ := refs_stay hst fr2 (fun _ _ h => h.elim)
   have c0 := hb.cell 0
   simp only [lq1, lq3] at c0
   have q0 := hb.lt
   have HO := hide ho
   have HF := hide (fr1.trans fr2)
   clear hst hK hM hb ho hMM fr1 fr2
   go_wp2
   go_ret
   refine ⟨v, rfl, ?_, HF.out⟩
   have h := HO.out
   exact ⟨h.1, h.2.imp id fun ⟨g, cp, cur, a, b, c⟩ => ⟨g, cp, cur, a, by omega, c⟩⟩
  | true =>
   have e1 : u.refs = refsOf (u.walk []) := by simp [V.refs, hm]
   have hsz : u.size ≤ 512 := by simp [V.may, V.fits] at hm; omega
   have hht : u.ht ≤ 16 := by
    have := ht_le_dep u (may_ok hm)
    simp [V.may, V.fits] at hm; omega
   rw [e1]
   rw [hm] at hM
   clear hm e1
   go_enter Tryz.func95, Tryz.ntmps95
   go_wp2_with fail
   generalize World.alloc _ (.cells #[.slice none 0 0] 54) = W0 at *
   refine (hM _ ht1 (by omega)).mono ?_
   rintro e w2 ⟨rfl, fr2⟩
   have hst2 := refs_stay hst fr2 (fun _ _ h => h.elim)
   obtain ⟨k0, k1, k2, k3, k4, -⟩ := (hK.fr fr2 fun h => h).cells5
   have q1 := (hK.fr fr2 fun h => h).lt
   have hs2 := fr2.size
   have hw := hW [] _ w2 hst2 (ht1.no fr2 (by omega)) (by omega) (fun i h0 h1 h2 => by have h' : i = w.heap.size + 1 := h2; omega) (by simp; omega) (by simp; omega)
   have HW := hide hw
   have HF := hide (fr1.trans fr2)
   clear hst hst2 hK hM hW hw fr1 fr2
   go_wp2_with fail
   refine HW.out.mono ?_
   rintro e w3 hq
   obtain ⟨M', f3, hs3, rfl, hJ⟩ : ∃ M' : Nat → Prop, Fr (fun i => i = w.heap.size + 1) w2 w3 ∧ (∀ i, M' i → i < w2.heap.size → i = w.heap.size + 1) ∧ e = .returned (.bool true) ∧ RefsJ (w.heap.size + 1) (w.heap.size + 1 + 1) (u.walk []) M' w3 := by
    obtain ⟨M', h1, h2, ⟨h3, h4⟩ | ⟨_, q, _, h⟩⟩ := hq
    · exact ⟨M', h1, h2, h3, by simpa using h4⟩
    · exact h.elim
   obtain ⟨h0, h1, v, hb, ho, hMM⟩ := hJ
   have c0 := hb.cell 0
   simp only [lq1, lq3] at c0
   have q0 := hb.lt
   have HO := hide ho
   have HF3 := hide (HF.out.trans' f3 (fun i hi h => by have h' : i = w.heap.size + 1 := h; omega))
   clear hb ho hMM f3 hs3 hq k0 k1 k2 k3 k4
   go_wp2
   go_ret
   refine ⟨v, rfl, ?_, HF3.out⟩
   have h := HO.out
   exact ⟨h.1, h.2.imp id fun ⟨g, cp, cur, a, b, c⟩ => ⟨g, cp, cur, a, by omega, c⟩⟩
end Go.Proofs.YtlejelbefmkakaaGreat

namespace Go.Proofs.YtlejelbefmkakaaGreat
open Go.RowKit
section
variable {m : Wm} {lo : Nat} {W : World}
def Wm.are (m : Wm) (L : List Int) : Bool := L.all fun r => (m.get r).isSome
theorem names1_w (h : m.Ok lo W) {g : Nat} (hb : Blk W g 31 #[.pointer (some ⟨m.wb, 0, none⟩)]) (r : Int) : Calls Tryz.prog 213 #[.int .i64 r, .pointer (some ⟨g, 0, none⟩)] W fun e w' => e = .returned (.bool (!(m.get r).isSome)) ∧ w' = W := by
 have hI := Is_w h r
 have c0 : W.cell? ⟨g, 0, none⟩ = some (.pointer (some ⟨m.wb, 0, none⟩)) := hb.cell 0
 have q0 := hb.lt
 clear h hb
 generalize (m.get r).isSome = q at *
 cases q
 all_goals
  go_enter Tryz.func213, Tryz.ntmps213
  go_wp2_with fail
  refine hI.mono ?_
  rintro e w2 ⟨rfl, rfl⟩
  go_wp2
  go_ret
  exact ⟨rfl, rfl⟩
theorem row_at {w : World} {base : Nat} {A : Option Addr} {cap : Nat} {L : List Int} (h : w.ownsRow base 22 1 (.slice A L.length cap) L.length (L.map fun r => Value.int .i64 r)) {j : Nat} (hj : j < L.length) : ∃ g, A = some ⟨g, 0, none⟩ ∧ g < w.heap.size ∧ w.cell? ⟨g, j, none⟩ = some (.int .i64 L[j]) := by
 obtain ⟨g, c, hA, hg0, hg1⟩ := h.form (by omega)
 simp only [Value.slice.injEq, true_and] at hA
 obtain ⟨rfl, rfl⟩ := hA
 have := World.ownsRow.cells h (g := g) rfl j (.int .i64 L[j]) (by simp [hj])
 rw [add_at, Nat.zero_add] at this
 exact ⟨g, rfl, hg1, this⟩
set_option maxRecDepth 100000 in
set_option maxHeartbeats 4000000 in
theorem indexR_w (h : m.Ok lo W) {g base : Nat} (hb : Blk W g 31 #[.pointer (some ⟨m.wb, 0, none⟩)]) (A : Option Addr) (cap : Nat) (L : List Int) (hr : W.ownsRow base 22 1 (.slice A L.length cap) L.length (L.map fun r => Value.int .i64 r)) (hlen : L.length ≤ 140737488351232) :
 Calls Tryz.prog 257 #[.slice A L.length cap, .func (.func 213) #[] #[.pointer (some ⟨g, 0, none⟩)]] W fun e w' => (∃ z : Int, e = .returned (.int .i64 z) ∧ ((0 ≤ z ∧ m.are L = false) ∨ (z = -1 ∧ m.are L = true))) ∧ w' = W := by
 have HB := hide (names1_w h hb)
 have HR := hide hr
 clear h hb hr
 go_enter Tryz.func257, Tryz.ntmps257
 go_wp2_with fail
 go_loopw [8] (fun i wr => ∃ j : Nat, j ≤ L.length ∧ i = .int .i64 j ∧ wr = W ∧ ∀ v ∈ L.take j, (m.get v).isSome = true) (fun i _ => L.length - (intOf i).toNat)
 case atStart => exact ⟨0, Nat.zero_le _, rfl, rfl, by simp⟩
 case round =>
  obtain ⟨j, hj, rfl, rfl, hall⟩ := hrel
  have HA := hide hall
  clear hall
  by_cases hlt : j < L.length
  · obtain ⟨b, rfl, hb1, e0⟩ := row_at HR.out hlt
    have hc := HB.out L[j]
    have htk : L.take (j + 1) = L.take j ++ [L[j]] := by rw [List.take_succ_eq_append_getElem hlt]
    have hmem : L[j] ∈ L := List.getElem_mem hlt
    generalize L[j] = u at *
    have HT := hide htk
    have HM := hide hmem
    clear htk hmem
    cases hm : (m.get u).isSome with
    | false =>
     rw [hm] at hc
     have HC := hide hc
     have hno : m.are L = false := by
      rw [Bool.eq_false_iff]
      intro h
      have := List.all_eq_true.1 h u HM.out
      rw [hm] at this
      cases this
     have HN := hide hno
     clear hc hno hm
     go_wp2_with fail
     refine HC.out.mono ?_
     rintro e w2 ⟨rfl, rfl⟩
     go_wp2
     go_ret
     exact ⟨⟨_, rfl, .inl ⟨by omega, HN.out⟩⟩, rfl⟩
    | true =>
     rw [hm] at hc
     have HC := hide hc
     have HMM := hide hm
     clear hc hm
     go_wp2_with fail
     refine HC.out.mono ?_
     rintro e w2 ⟨rfl, rfl⟩
     go_wp2
     go_roundw
     case rel =>
      refine ⟨j + 1, hlt, by go_num, trivial, fun v hv => ?_⟩
      rw [HT.out] at hv
      rcases List.mem_append.1 hv with hv | hv
      · exact HA.out v hv
      · simp at hv; subst hv; exact HMM.out
     case measure => simp [intOf]; omega
  · obtain rfl : L.length = j := by omega
    have hyes : m.are L = true := List.all_eq_true.2 fun v hv => HA.out v (by rw [List.take_of_length_le (Nat.le_refl _)]; exact hv)
    have HY := hide hyes
    clear hyes
    go_wp2
    go_ret
    exact ⟨⟨-1, rfl, .inr ⟨rfl, HY.out⟩⟩, rfl⟩
theorem containsR_w (h : m.Ok lo W) {g base : Nat} (hb : Blk W g 31 #[.pointer (some ⟨m.wb, 0, none⟩)]) (A : Option Addr) (cap : Nat) (L : List Int) (hr : W.ownsRow base 22 1 (.slice A L.length cap) L.length (L.map fun r => Value.int .i64 r)) (hlen : L.length ≤ 140737488351232) :
 Calls Tryz.prog 211 #[.slice A L.length cap, .func (.func 213) #[] #[.pointer (some ⟨g, 0, none⟩)]] W fun e w' => e = .returned (.bool (!m.are L)) ∧ w' = W := by
 have hI := indexR_w h hb A cap L hr hlen
 generalize m.are L = q at *
 clear h hb hr
 go_enter Tryz.func211, Tryz.ntmps211
 go_wp2_with fail
 refine hI.mono ?_
 rintro e w2 ⟨⟨z, rfl, hz⟩, rfl⟩
 rcases hz with ⟨h0, rfl⟩ | ⟨rfl, rfl⟩
 · have h1 : decide ((0 : Int) ≤ z) = true := by simpa using h0
   go_wp2
   go_ret
   exact ⟨rfl, rfl⟩
 · go_wp2
   go_ret
   exact ⟨rfl, rfl⟩
end
theorem held_w (kind home k n : Int) (s : ByteArray) (A : Option Addr) (cap : Nat) (l : List T) (r n1 lost ofr byr set : Int) (full : Bool) (W : World) (hi : Nat) (ht : (T.mk k n s A cap l r).In W 0 hi) (hhi : hi ≤ W.heap.size) :
 Calls Tryz.prog 212 #[.agg (th16 kind home k n s A l.length cap r n1 lost ofr byr set full)] W (RefsP (T.mk k n s A cap l r).v.refs W) := by
 have hR := Refs_any (T.mk k n s A cap l r) (W.alloc (.cells (th16 kind home k n s A l.length cap r n1 lost ofr byr set full) 138)) 0 hi (ht.no ((Fr.refl No W).alloc _) hhi) (by simp; omega)
 rw [T.val_mk] at hR
 generalize (T.mk k n s A cap l r).v.refs = L at *
 have hb0 := Blk.new W 138 (th16 kind home k n s A l.length cap r n1 lost ofr byr set full)
 have hf0 := (Fr.refl No W).alloc (.cells (th16 kind home k n s A l.length cap r n1 lost ofr byr set full) 138)
 unfold th16 at hR hb0 hf0 ⊢
 have HR := hide hR
 have HB0 := hide hb0
 have HF0 := hide hf0
 obtain ⟨d0, d1, d2, d3, d4, d5, d6, d7, d8, d9, d10, d11, d12, d13, d14, d15⟩ := hb0.cells16
 have dq := hb0.lt
 clear ht hhi hR hb0 hf0
 go_enter Tryz.func212, Tryz.ntmps212
 go_wp2_with fail
 generalize World.alloc W _ = W0 at *
 refine HR.out.mono ?_
 rintro e w1 ⟨v, rfl, hrow, f1⟩
 have hb := HB0.out.fr f1 fun h => h
 clear d0 d1 d2 d3 d4 d5 d6 d7 d8 d9 d10 d11 d12 d13 d14 d15 dq
 obtain ⟨d0, d1, d2, d3, d4, d5, d6, d7, d8, d9, d10, d11, d12, d13, d14, d15⟩ := hb.cells16
 have dq := hb.lt
 have HROW := hide hrow
 have HF1 := hide (HF0.out.trans f1)
 have HS := hide HF0.out.size
 clear hb hrow f1
 go_wp2_with fail
 refine wp_loop_rounds 1 ?_
 rw [rounds_succ]
 go_wp2_with fail
 refine wp_loop_rounds 1 ?_
 rw [rounds_succ]
 go_wp2_with fail
 go_ret
 exact ⟨v, rfl, owns_mono HROW.out HS.out, HF1.out⟩
end Go.Proofs.YtlejelbefmkakaaGreat

namespace Go.Proofs.YtlejelbefmkakaaGreat
open Go.RowKit
structure ClN (W : World) where
 w : World
 fr : Fr No W w
theorem wp_region_quiet_cl {P : Program} {id : Nat} {Q : Exit → Act → World → Prop} {a : Act} {w : World} {l : List Oper} (C : World → Prop) (hm : P.follows .mixedOrders = true) (hB : Region.lexB .any l.toArray = true) (hC : C { w with drawn := w.drawn + 1 })
 (h : wpQuiet P l.toArray C (fun a' => ∀ w', C w' → Q .normal a' w') l a) : (Code.region id l.toArray true).wp P Q a w :=
 wp_region_quiet (C := C) hm hB hC (by simpa using h)
section
variable {m : Wm} {lo : Nat} {W : World}
theorem map_cell (h : m.Ok lo W) : W.cell? ⟨m.wb, 2, none⟩ = some (.map (some m.M)) := by
 have c0 := h.blk.cell 2
 simpa only [Wm.cells, List.getElem?_toArray, List.getElem?_cons_zero, List.getElem?_cons_succ] using c0
structure OI (W : World) (M cl rI : Nat) (v : List Nat) (wr : World) : Prop where
 fr : Fr No W wr
 it : wr.heap[rI]? = some (.mapIter (some M) cl v.toArray cl)
 r0 : W.heap.size ≤ rI
theorem fr_setBlock (W : World) (r : Nat) (o : Obj) : Fr (fun i => i = r) W (ChangeMaps.setBlock W r o) :=
 ⟨rfl, rfl, rfl, by simp [ChangeMaps.setBlock], fun b hb hn => by simp [ChangeMaps.setBlock, Array.getElem?_setIfInBounds]; intro h; exact absurd h.symm hn⟩
theorem setBlock_at {W : World} {r : Nat} (o : Obj) (h : r < W.heap.size) : (ChangeMaps.setBlock W r o).heap[r]? = some o := by
 simp [ChangeMaps.setBlock, h]
theorem iterSeen_of {W : World} {r : Nat} {m : Option Nat} {a c : Nat} {s : Array Nat} (h : W.heap[r]? = some (.mapIter m a s c)) : W.iterSeen r = s := by
 simp [World.iterSeen, h]
end
end Go.Proofs.YtlejelbefmkakaaGreat

/- Texts joined: Tr0, Of4, Sa1, Sa2, Sa3. -/
import Derived.Test.YtlejelbefmkakaaGreatJn1
import Derived.Test.YtlejelbefmkakaaGreatJn4
import Derived.Test.YtlejelbefmkakaaGreatJn18
import Derived.Test.YtlejelbefmkakaaGreatJn19
import Derived.Test.YtlejelbefmkakaaGreatJn35
import Derived.Test.YtlejelbefmkakaaGreatJn36
import Derived.Test.YtlejelbefmkakaaGreatJn37
import Derived.Shelf.SortM.Plain
import Derived.Ground.SlgmProg
import Derived.Shelf.SlSortCmp.Whole1
import Derived.Ground.SlsfProg
import Derived.Deep.RegionHeld3
import Derived.Deep.MidRow
import Derived.Deep.Cut
import Derived.Deep.CutRange
namespace Go.Proofs.YtlejelbefmkakaaGreat
open Go.RowKit Go.Sort Go.Shelf
def laySM_ren : Go.Shelf.Ren := ⟨fun | 5 => 96 | 8 => 167 | 7 => 166 | 19 => 227 | 20 => 228 | 10 => 218 | 11 => 219 | 12 => 220 | 13 => 221 | 14 => 222 | 15 => 223 | 16 => 224 | 17 => 225 | 18 => 226 | 30 => 258 | 31 => 259 | 32 => 260 | 33 => 261 | 34 => 262 | 35 => 263 | 40 => 278 | n => n, fun | 23 => 54 | 25 => 22 | 3 => 3 | 32 => 132 | 22 => 54 | 0 => 0 | 44 => 291 | 46 => 293 | 4 => 4 | 36 => 284 | 35 => 283 | 41 => 288 | 5 => 5 | 9 => 9 | 53 => 318 | 57 => 210 | 63 => 329 | 64 => 330 | n => n, fun | n => n⟩
theorem laySM : Go.Proofs.SlLaysM.n5 Tryz.prog laySM_ren := {
 mixed := by kernel_rfl,
 f5 := ⟨Tryz.f96.name, by decide, Tryz.func96.trans (congrArg some (by kernel_rfl))⟩,
 f7 := ⟨Tryz.f166.name, by decide, Tryz.func166.trans (congrArg some (by kernel_rfl))⟩,
 f8 := Tryz.func167.trans (congrArg some (by kernel_rfl)),
 f10 := ⟨Tryz.f218.name, by decide, Tryz.func218.trans (congrArg some (by kernel_rfl))⟩,
 f11 := ⟨Tryz.f219.name, by decide, Tryz.func219.trans (congrArg some (by kernel_rfl))⟩,
 f12 := ⟨Tryz.f220.name, by decide, Tryz.func220.trans (congrArg some (by kernel_rfl))⟩,
 f13 := ⟨Tryz.f221.name, by decide, Tryz.func221.trans (congrArg some (by kernel_rfl))⟩,
 f14 := ⟨Tryz.f222.name, by decide, Tryz.func222.trans (congrArg some (by kernel_rfl))⟩,
 f15 := ⟨Tryz.f223.name, by decide, Tryz.func223.trans (congrArg some (by kernel_rfl))⟩,
 f16 := ⟨Tryz.f224.name, by decide, Tryz.func224.trans (congrArg some (by kernel_rfl))⟩,
 f17 := ⟨Tryz.f225.name, by decide, Tryz.func225.trans (congrArg some (by kernel_rfl))⟩,
 f18 := ⟨Tryz.f226.name, by decide, Tryz.func226.trans (congrArg some (by kernel_rfl))⟩,
 f19 := Tryz.func227.trans (congrArg some (by kernel_rfl)),
 f20 := Tryz.func228.trans (congrArg some (by kernel_rfl)),
 f30 := ⟨Tryz.f258.name, by decide, Tryz.func258.trans (congrArg some (by kernel_rfl))⟩,
 f31 := Tryz.func259.trans (congrArg some (by kernel_rfl)),
 f32 := Tryz.func260.trans (congrArg some (by kernel_rfl)),
 f33 := ⟨Tryz.f261.name, by decide, Tryz.func261.trans (congrArg some (by kernel_rfl))⟩,
 f34 := ⟨Tryz.f262.name, by decide, Tryz.func262.trans (congrArg some (by kernel_rfl))⟩,
 f35 := ⟨Tryz.f263.name, by decide, Tryz.func263.trans (congrArg some (by kernel_rfl))⟩,
 f40 := ⟨Tryz.f278.name, by decide, Tryz.func278.trans (congrArg some (by kernel_rfl))⟩,
 t0 := Tryz.underlying0,
 a0 := Tryz.isAgg0,
 z0 := Tryz.sizeOf0,
 v0 := Tryz.zeroValue0,
 t3 := Tryz.underlying3,
 a3 := Tryz.isAgg3,
 z3 := Tryz.sizeOf3,
 v3 := Tryz.zeroValue3,
 t4 := Tryz.underlying4,
 a4 := Tryz.isAgg4,
 z4 := Tryz.sizeOf4,
 v4 := Tryz.zeroValue4,
 t5 := Tryz.underlying5,
 a5 := Tryz.isAgg5,
 z5 := Tryz.sizeOf5,
 v5 := Tryz.zeroValue5,
 t9 := Tryz.underlying9,
 a9 := Tryz.isAgg9,
 z9 := Tryz.sizeOf9,
 v9 := Tryz.zeroValue9,
 t22 := Tryz.underlying54,
 a22 := Tryz.isAgg54,
 z22 := Tryz.sizeOf54,
 v22 := Tryz.zeroValue54,
 t23 := Tryz.underlying54,
 a23 := Tryz.isAgg54,
 z23 := Tryz.sizeOf54,
 v23 := Tryz.zeroValue54,
 t25 := Tryz.underlying22,
 a25 := Tryz.isAgg22,
 z25 := Tryz.sizeOf22,
 v25 := Tryz.zeroValue22,
 t32 := Tryz.underlying132,
 a32 := Tryz.isAgg132,
 z32 := Tryz.sizeOf132,
 v32 := Tryz.zeroValue132,
 t35 := Tryz.underlying283,
 a35 := Tryz.isAgg283,
 z35 := Tryz.sizeOf283,
 v35 := Tryz.zeroValue283,
 t36 := Tryz.underlying284,
 a36 := Tryz.isAgg284,
 z36 := Tryz.sizeOf284,
 v36 := Tryz.zeroValue284,
 t41 := Tryz.underlying288,
 a41 := Tryz.isAgg288,
 z41 := Tryz.sizeOf288,
 v41 := Tryz.zeroValue288,
 t44 := Tryz.underlying291,
 a44 := Tryz.isAgg291,
 z44 := Tryz.sizeOf291,
 v44 := Tryz.zeroValue291,
 t46 := Tryz.underlying293,
 a46 := Tryz.isAgg293,
 z46 := Tryz.sizeOf293,
 v46 := Tryz.zeroValue293,
 t53 := Tryz.underlying318,
 a53 := Tryz.isAgg318,
 z53 := Tryz.sizeOf318,
 v53 := Tryz.zeroValue318,
 t57 := Tryz.underlying210,
 a57 := Tryz.isAgg210,
 z57 := Tryz.sizeOf210,
 v57 := Tryz.zeroValue210,
 t63 := Tryz.underlying329,
 a63 := Tryz.isAgg329,
 z63 := Tryz.sizeOf329,
 v63 := Tryz.zeroValue329,
 t64 := Tryz.underlying330,
 a64 := Tryz.isAgg330,
 z64 := Tryz.sizeOf330,
 v64 := Tryz.zeroValue330 }
theorem sortRefs : SortRefs := fun blk cap zs w hH hb hl => AnyM.slices_Sort_int laySM blk 0 cap zs w hH hb hl
end Go.Proofs.YtlejelbefmkakaaGreat

namespace Go.Proofs.YtlejelbefmkakaaGreat
open Go.RowKit Go.Sort Go.Shelf
def laySF_ren : Go.Shelf.Ren := ⟨fun | 6 => 143 | 15 => 167 | 14 => 196 | 28 => 227 | 29 => 228 | 20 => 243 | 21 => 244 | 22 => 245 | 23 => 246 | 24 => 247 | 25 => 248 | 26 => 249 | 27 => 250 | 46 => 270 | 47 => 259 | 48 => 260 | 49 => 271 | 50 => 272 | 57 => 282 | n => n, fun | 22 => 54 | 24 => 22 | 25 => 219 | 3 => 3 | 39 => 132 | 0 => 0 | 53 => 291 | 55 => 293 | 4 => 4 | 46 => 284 | 45 => 283 | 50 => 288 | 5 => 5 | 9 => 9 | 66 => 318 | 70 => 210 | 76 => 329 | 77 => 330 | n => n, fun | n => n⟩
theorem laySF : Go.Proofs.SlLaysF.n6 Tryz.prog laySF_ren := {
 mixed := by kernel_rfl,
 f6 := ⟨Tryz.f143.name, by decide, Tryz.func143.trans (congrArg some (by kernel_rfl))⟩,
 f14 := ⟨Tryz.f196.name, by decide, Tryz.func196.trans (congrArg some (by kernel_rfl))⟩,
 f15 := Tryz.func167.trans (congrArg some (by kernel_rfl)),
 f20 := ⟨Tryz.f243.name, by decide, Tryz.func243.trans (congrArg some (by kernel_rfl))⟩,
 f21 := ⟨Tryz.f244.name, by decide, Tryz.func244.trans (congrArg some (by kernel_rfl))⟩,
 f22 := ⟨Tryz.f245.name, by decide, Tryz.func245.trans (congrArg some (by kernel_rfl))⟩,
 f23 := ⟨Tryz.f246.name, by decide, Tryz.func246.trans (congrArg some (by kernel_rfl))⟩,
 f24 := ⟨Tryz.f247.name, by decide, Tryz.func247.trans (congrArg some (by kernel_rfl))⟩,
 f25 := ⟨Tryz.f248.name, by decide, Tryz.func248.trans (congrArg some (by kernel_rfl))⟩,
 f26 := ⟨Tryz.f249.name, by decide, Tryz.func249.trans (congrArg some (by kernel_rfl))⟩,
 f27 := ⟨Tryz.f250.name, by decide, Tryz.func250.trans (congrArg some (by kernel_rfl))⟩,
 f28 := Tryz.func227.trans (congrArg some (by kernel_rfl)),
 f29 := Tryz.func228.trans (congrArg some (by kernel_rfl)),
 f46 := ⟨Tryz.f270.name, by decide, Tryz.func270.trans (congrArg some (by kernel_rfl))⟩,
 f47 := Tryz.func259.trans (congrArg some (by kernel_rfl)),
 f48 := Tryz.func260.trans (congrArg some (by kernel_rfl)),
 f49 := ⟨Tryz.f271.name, by decide, Tryz.func271.trans (congrArg some (by kernel_rfl))⟩,
 f50 := ⟨Tryz.f272.name, by decide, Tryz.func272.trans (congrArg some (by kernel_rfl))⟩,
 f57 := ⟨Tryz.f282.name, by decide, Tryz.func282.trans (congrArg some (by kernel_rfl))⟩,
 t0 := Tryz.underlying0,
 a0 := Tryz.isAgg0,
 z0 := Tryz.sizeOf0,
 v0 := Tryz.zeroValue0,
 t3 := Tryz.underlying3,
 a3 := Tryz.isAgg3,
 z3 := Tryz.sizeOf3,
 v3 := Tryz.zeroValue3,
 t4 := Tryz.underlying4,
 a4 := Tryz.isAgg4,
 z4 := Tryz.sizeOf4,
 v4 := Tryz.zeroValue4,
 t5 := Tryz.underlying5,
 a5 := Tryz.isAgg5,
 z5 := Tryz.sizeOf5,
 v5 := Tryz.zeroValue5,
 t9 := Tryz.underlying9,
 a9 := Tryz.isAgg9,
 z9 := Tryz.sizeOf9,
 v9 := Tryz.zeroValue9,
 t22 := Tryz.underlying54,
 a22 := Tryz.isAgg54,
 z22 := Tryz.sizeOf54,
 v22 := Tryz.zeroValue54,
 a24 := Tryz.isAgg22,
 z24 := Tryz.sizeOf22,
 t25 := Tryz.underlying219,
 a25 := Tryz.isAgg219,
 z25 := Tryz.sizeOf219,
 v25 := Tryz.zeroValue219,
 t39 := Tryz.underlying132,
 a39 := Tryz.isAgg132,
 z39 := Tryz.sizeOf132,
 v39 := Tryz.zeroValue132,
 t45 := Tryz.underlying283,
 a45 := Tryz.isAgg283,
 z45 := Tryz.sizeOf283,
 v45 := Tryz.zeroValue283,
 t46 := Tryz.underlying284,
 a46 := Tryz.isAgg284,
 z46 := Tryz.sizeOf284,
 v46 := Tryz.zeroValue284,
 t50 := Tryz.underlying288,
 a50 := Tryz.isAgg288,
 z50 := Tryz.sizeOf288,
 v50 := Tryz.zeroValue288,
 t53 := Tryz.underlying291,
 a53 := Tryz.isAgg291,
 z53 := Tryz.sizeOf291,
 v53 := Tryz.zeroValue291,
 t55 := Tryz.underlying293,
 a55 := Tryz.isAgg293,
 z55 := Tryz.sizeOf293,
 v55 := Tryz.zeroValue293,
 t66 := Tryz.underlying318,
 a66 := Tryz.isAgg318,
 z66 := Tryz.sizeOf318,
 v66 := Tryz.zeroValue318,
 t70 := Tryz.underlying210,
 a70 := Tryz.isAgg210,
 z70 := Tryz.sizeOf210,
 v70 := Tryz.zeroValue210,
 t76 := Tryz.underlying329,
 a76 := Tryz.isAgg329,
 z76 := Tryz.sizeOf329,
 v76 := Tryz.zeroValue329,
 t77 := Tryz.underlying330,
 a77 := Tryz.isAgg330,
 z77 := Tryz.sizeOf330,
 v77 := Tryz.zeroValue330 }
theorem sortFn : SortFn := fun cf hO g cb blk cap d w eg hcmp hH hb hl => Go.Proofs.Any.slices_SortFunc laySF (Value.int .i64) (fun _ => rfl) cf hO g cb blk 0 cap d w eg hcmp hH hb hl
end Go.Proofs.YtlejelbefmkakaaGreat

namespace Go.Proofs.YtlejelbefmkakaaGreat
open Go.RowKit
def SameP (u v : V) (w : World) (e : Ending) (w' : World) : Prop := ∃ q : Bool, e = .returned (.bool q) ∧ (q = true ↔ u = v) ∧ Fr No w w'
set_option maxRecDepth 100000 in
set_option maxHeartbeats 2000000 in
theorem same4_any (t : T) : ∀ (t' : T) (w : World) (lo hi lo' hi' : Nat), t.In w lo hi → hi ≤ w.heap.size → t'.In w lo' hi' → hi' ≤ w.heap.size → Calls Tryz.prog 204 #[t.val, t'.val] w (SameP t.v t'.v w) := by
 induction t using T.ind with
 | h k n s A cap l r ih =>
  intro t' w lo hi lo' hi' ht hh ht' hh'
  cases t' with
  | mk k' n' s' A' cap' l' r' =>
   rw [T.val_mk, T.val_mk]
   have fr2 := ((Fr.refl No w).alloc (.cells #[.int .u8 k, .int .i64 n, .string s, .slice A l.length cap, .int .i64 r] 28)).alloc (.cells #[.int .u8 k', .int .i64 n', .string s', .slice A' l'.length cap', .int .i64 r'] 28)
   by_cases hk : k = k'
   case neg =>
    have hk' : (k != k') = true := by simpa using hk
    go_enter Tryz.func204, Tryz.ntmps204
    go_wp2
    go_ret
    exact ⟨false, rfl, by rw [T.v_mk, T.v_mk]; simp [hk], fr2⟩
   by_cases hn : n = n'
   case neg =>
    have hn' : (n != n') = true := by simpa using hn
    subst hk
    go_enter Tryz.func204, Tryz.ntmps204
    go_wp2
    go_ret
    exact ⟨false, rfl, by rw [T.v_mk, T.v_mk]; simp [hn], fr2⟩
   by_cases hs : s = s'
   case neg =>
    have hs' : (s.toList == s'.toList) = false := by simpa using fun h => hs (bytes_ext h)
    have hs2 : ¬ s.toList = s'.toList := fun h => hs (bytes_ext h)
    subst hk
    subst hn
    go_enter Tryz.func204, Tryz.ntmps204
    go_wp2
    go_ret
    exact ⟨false, rfl, by rw [T.v_mk, T.v_mk]; simp [hs], fr2⟩
   by_cases hr : r = r'
   case neg =>
    have hr' : (r != r') = true := by simpa using hr
    have HF2 := hide fr2
    subst hk
    subst hn
    subst hs
    go_enter Tryz.func204, Tryz.ntmps204
    go_wp2
    go_ret
    exact ⟨false, rfl, by rw [T.v_mk, T.v_mk]; simp [hr], HF2.out⟩
   by_cases hl : l.length = l'.length
   case neg =>
    have hl' : ((l.length : Int) != (l'.length : Int)) = true := by simp; omega
    subst hk
    subst hn
    subst hs
    subst hr
    go_enter Tryz.func204, Tryz.ntmps204
    go_wp2
    go_ret
    refine ⟨false, rfl, ?_, fr2⟩
    rw [T.v_mk, T.v_mk]
    simp
    intro h
    exact hl (by simpa using congrArg List.length h)
   subst hk
   subst hn
   subst hs
   subst hr
   have hlen := (T.in_mk.1 ht).1.len1
   have hl' : ((l.length : Int) != (l'.length : Int)) = false := by simp; omega
   have HL := hide hl
   clear hl
   go_enter Tryz.func204, Tryz.ntmps204
   go_wp2_with fail
   go_loopw [5] (fun i wr => ∃ j : Nat, j ≤ l.length ∧ i = .int .i64 j ∧ Fr No ((w.alloc (.cells #[.int .u8 k, .int .i64 n, .string s, .slice A l.length cap, .int .i64 r] 28)).alloc (.cells #[.int .u8 k, .int .i64 n, .string s, .slice A' l'.length cap', .int .i64 r] 28)) wr ∧ ∀ i (h : i < j) (h1 : i < l.length) (h2 : i < l'.length), l[i].v = l'[i].v) (fun i _ => l.length - (intOf i).toNat)
   case atStart =>
    exact ⟨0, Nat.zero_le _, rfl, Fr.refl _ _, fun i h => absurd h (by omega)⟩
   case round =>
    obtain ⟨j, hj, rfl, fr, hsame⟩ := hrel
    have hK := ((Blk.new' w 28 #[.int .u8 k, .int .i64 n, .string s, .slice A l.length cap, .int .i64 r] rfl).alloc (.cells #[.int .u8 k, .int .i64 n, .string s, .slice A' l'.length cap', .int .i64 r] 28)).fr fr (fun h => h)
    have hV := (Blk.new' (w.alloc (.cells #[.int .u8 k, .int .i64 n, .string s, .slice A l.length cap, .int .i64 r] 28)) 28 #[.int .u8 k, .int .i64 n, .string s, .slice A' l'.length cap', .int .i64 r] (g := w.heap.size + 1) (by simp)).fr fr (fun h => h)
    have frw := fr2.trans fr
    have hszr := fr.size
    simp at hszr
    by_cases hlt : j < l.length
    · have hlt' : j < l'.length := by have := HL.out; omega
      obtain ⟨b, o, k1, n1, s1, A1, cap1, l1, r1, rfl, hb0, hb1, hx, hin, e0, e1, e2, e3, e4⟩ := T.elem (ht.no frw hh) hlt
      obtain ⟨b', o', k2, n2, s2, A2, cap2, l2, r2, rfl, hb0', hb1', hx', hin', f0, f1, f2, f3, f4⟩ := T.elem (ht'.no frw hh') hlt'
      have IH := ih l[j] (List.getElem_mem hlt) l'[j]
      rw [hx, hx', T.val_mk, T.val_mk] at IH
      obtain ⟨c0, c1, c2, c3, c4, cf⟩ := hK.cells5
      obtain ⟨d0, d1, d2, d3, d4, df⟩ := hV.cells5
      have g0 : b < wr.heap.size := by omega
      have g1 : b' < wr.heap.size := by omega
      have g2 : w.heap.size < wr.heap.size := by omega
      have g3 : w.heap.size + 1 < wr.heap.size := by omega
      have hh0 : hi ≤ wr.heap.size := by omega
      have hh1 : hi' ≤ wr.heap.size := by omega
      have HX := hide hx
      have HX' := hide hx'
      have HF := hide fr
      have HW := hide frw
      have HT := hide ht
      have HT' := hide ht'
      have HS := hide hsame
      clear hx hx' ih hK hV fr frw ht ht' fr2 hsame
      go_wp2_with fail
      go_region_held3 (fun w' => (∀ c i, c < wr.heap.size → w'.cell? ⟨c, i, none⟩ = wr.cell? ⟨c, i, none⟩) ∧ Fr No wr w')
       (first | exact ⟨fun _ _ _ => rfl, Fr.drew (Fr.refl No wr)⟩ | (have hq : Fr No wr _ := (‹_ ∧ Fr No wr _›).2.trans ‹Fr No _ _›; exact ⟨hq.cells, hq⟩))
       (first
        | (go_at_call 204; have hs0 := (‹_ ∧ Fr No wr _›).2; ((with_reducible refine (IH _ lo hi lo' hi' ?_ ?_ ?_ ?_).mono ?_); (exact hin.no hs0 hh0); (exact Nat.le_trans hh0 hs0.size); (exact hin'.no hs0 hh1); (exact Nat.le_trans hh1 hs0.size); rintro e w2 ⟨q, rfl, hq, fr1⟩)))
      cases q with
      | false =>
       go_wp2
       go_ret
       refine ⟨false, rfl, ?_, HW.out.trans (‹_ ∧ Fr No wr _›).2⟩
       rw [T.v_mk, T.v_mk]
       simp
       intro h
       have h1 := congrArg (fun q => q[j]?) h
       simp [hlt, hlt'] at h1
       rw [HX.out, HX'.out] at h1
       exact absurd (hq.2 h1) (by simp)
      | true =>
       go_wp2
       go_roundw
       case rel =>
        refine ⟨j + 1, hlt, by go_num, HF.out.trans (‹_ ∧ Fr No wr _›).2, fun i hi h1 h2 => ?_⟩
        rcases Nat.lt_or_ge i j with h | h
        · exact HS.out i h h1 h2
        · obtain rfl : i = j := by omega
          rw [HX.out, HX'.out]
          exact hq.1 rfl
       case measure => simp [intOf]; omega
    · obtain rfl : l.length = j := by omega
      obtain ⟨c0, c1, c2, c3, c4, cf⟩ := hK.cells5
      obtain ⟨d0, d1, d2, d3, d4, df⟩ := hV.cells5
      have HS := hide hsame
      clear hsame ih
      go_wp2
      go_ret
      refine ⟨true, rfl, ?_, frw⟩
      rw [T.v_mk, T.v_mk]
      simp
      refine List.ext_getElem (by simpa using HL.out) fun i h1 h2 => ?_
      simp at h1 h2
      simpa using HS.out i h1 h1 h2
end Go.Proofs.YtlejelbefmkakaaGreat

namespace Go.Proofs.YtlejelbefmkakaaGreat
open Go.RowKit
theorem er_expr {k n k' n' : Int} {s s' : ByteArray} {A A' : Option Addr} {cap cap' : Nat} {l l' : List G} (h : (G.mk [.int .u8 k, .int .i64 n, .string s, .slice A (List.length l) cap] [(A, l)]).er = (G.mk [.int .u8 k', .int .i64 n', .string s', .slice A' (List.length l') cap'] [(A', l')]).er) :
 k = k' ∧ n = n' ∧ s = s' ∧ l.length = l'.length ∧ l.map G.er = l'.map G.er := by
 rw [G.er_mk, G.er_mk] at h
 injection h with h1 h2
 simp only [List.map_cons, List.map_nil, erV, List.cons.injEq, Value.int.injEq, Value.string.injEq, Value.slice.injEq, and_true, true_and, Prod.mk.injEq] at h1 h2
 exact ⟨h1.1, h1.2.1, h1.2.2.1, h1.2.2.2, h2⟩
theorem er_at {l l' : List G} (h : l.map G.er = l'.map G.er) {j : Nat} (hj : j < l.length) (hj' : j < l'.length) : l[j].er = l'[j].er := by
 have := congrArg (fun q => q[j]?) h
 simp only [List.getElem?_map, List.getElem?_eq_getElem hj, List.getElem?_eq_getElem hj', Option.map_some, Option.some.injEq] at this
 exact this
set_option maxRecDepth 100000 in
set_option maxHeartbeats 4000000 in
theorem sameExpr_eq (g : G) : ∀ (g' : G) (w : World) (lo hi lo' hi' : Nat), Ty 308 g → Ty 308 g' → g.er = g'.er → g.In w lo hi → hi ≤ w.heap.size → g'.In w lo' hi' → hi' ≤ w.heap.size →
 Calls Tryz.prog 254 #[.agg g.c.toArray, .agg g'.c.toArray] w fun e w' => e = .returned (.bool true) ∧ Fr No w w' := by
 induction g using G.ind with
 | h c subs ih =>
  intro g' w lo hi lo' hi' hty hty' her hin hh hin' hh'
  obtain ⟨k, n, s, A, cap, l, e, fit, hk⟩ := ty_expr hty
  injection e with e1 e2
  subst e1 e2
  obtain ⟨k', n', s', A', cap', l', rfl, fit', hk'⟩ := ty_expr hty'
  obtain ⟨rfl, rfl, rfl, hl, hls⟩ := er_expr her
  have hl' : ((l.length : Int) != (l'.length : Int)) = false := by simp; omega
  have hlen := fit.len1
  have fr2 := ((Fr.refl No w).alloc (.cells #[.int .u8 k, .int .i64 n, .string s, .slice A l.length cap] 308)).alloc (.cells #[.int .u8 k, .int .i64 n, .string s, .slice A' l'.length cap'] 308)
  have hb0 := (Blk.new w 308 #[.int .u8 k, .int .i64 n, .string s, .slice A l.length cap]).alloc (.cells #[.int .u8 k, .int .i64 n, .string s, .slice A' l'.length cap'] 308)
  have hb1 := Blk.new' (w.alloc (.cells #[.int .u8 k, .int .i64 n, .string s, .slice A l.length cap] 308)) 308 #[.int .u8 k, .int .i64 n, .string s, .slice A' l'.length cap'] (g := w.heap.size + 1) (by simp)
  have HIH := hide fun (x : G) (hx : x ∈ l) => ih A l (by simp) x hx
  have HIN := hide (G.in_rows.1 hin A l (by simp))
  have HIN' := hide (G.in_rows.1 hin' A' l' (by simp))
  have HTY := hide hk
  have HTY' := hide hk'
  have HL := hide hl
  have HLS := hide hls
  have HB0 := hide hb0
  have HB1 := hide hb1
  have HF2 := hide fr2
  have HH := hide hh
  have HH' := hide hh'
  clear hty hty' her hin hin' ih hk hk' hl hls hb0 hb1 fr2 fit fit' hh hh'
  show Calls Tryz.prog 254 #[.agg #[.int .u8 k, .int .i64 n, .string s, .slice A l.length cap], .agg #[.int .u8 k, .int .i64 n, .string s, .slice A' l'.length cap']] w _
  go_enter Tryz.func254, Tryz.ntmps254
  go_wp2_with fail
  generalize World.alloc (World.alloc w _) _ = W0 at *
  go_loopw [5] (fun i wr => ∃ j : Nat, j ≤ l.length ∧ i = .int .i64 j ∧ Fr No W0 wr) (fun i _ => l.length - (intOf i).toNat)
  case atStart => exact ⟨0, Nat.zero_le _, rfl, Fr.refl _ _⟩
  case round =>
   obtain ⟨j, hj, rfl, fr⟩ := hrel
   have hK := HB0.out.fr fr fun h => h
   have hV := HB1.out.fr fr fun h => h
   have frw := HF2.out.trans fr
   have c3 : wr.cell? ⟨w.heap.size, 3, none⟩ = some (.slice A l.length cap) := hK.cell 3
   have d3 : wr.cell? ⟨w.heap.size + 1, 3, none⟩ = some (.slice A' l'.length cap') := hV.cell 3
   have q0 := hK.lt
   have q1 := hV.lt
   by_cases hlt : j < l.length
   · have hlt' : j < l'.length := by have := HL.out; omega
     have hs0 := Nat.le_trans HH.out frw.size
     have hs1 := Nat.le_trans HH'.out frw.size
     obtain ⟨b, o, rfl, hg0, hg1, hxin, hce⟩ := G.row_at (HIN.out.no frw HH.out) hlt
     obtain ⟨b', o', rfl, hg0', hg1', hyin, hce'⟩ := G.row_at (HIN'.out.no frw HH'.out) hlt'
     have htx := HTY.out _ (List.getElem_mem hlt)
     have hty := HTY'.out _ (List.getElem_mem hlt')
     have her := er_at HLS.out hlt hlt'
     have IH := fun w' (f : Fr No wr w') => HIH.out l[j] (List.getElem_mem hlt) l'[j] w' lo hi lo' hi' htx hty her (hxin.no f hs0) (Nat.le_trans hs0 f.size) (hyin.no f hs1) (Nat.le_trans hs1 f.size)
     obtain ⟨k1, n1, s1, A1, cap1, l1, hx, -, -⟩ := ty_expr htx
     obtain ⟨k2, n2, s2, A2, cap2, l2, hy, -, -⟩ := ty_expr hty
     rw [hx] at hce IH
     rw [hy] at hce' IH
     replace IH : ∀ w', Fr No wr w' → Calls Tryz.prog 254 #[.agg #[.int .u8 k1, .int .i64 n1, .string s1, .slice A1 l1.length cap1], .agg #[.int .u8 k2, .int .i64 n2, .string s2, .slice A2 l2.length cap2]] w' fun e w'' => e = .returned (.bool true) ∧ Fr No w' w'' := IH
     have x0 : wr.cell? ⟨b, o + j * 4, none⟩ = some (.int .u8 k1) := hce 0 _ rfl
     have x1 : wr.cell? ⟨b, o + j * 4 + 1, none⟩ = some (.int .i64 n1) := hce 1 _ rfl
     have x2 : wr.cell? ⟨b, o + j * 4 + 2, none⟩ = some (.string s1) := hce 2 _ rfl
     have x3 : wr.cell? ⟨b, o + j * 4 + 3, none⟩ = some (.slice A1 l1.length cap1) := hce 3 _ rfl
     have y0 : wr.cell? ⟨b', o' + j * 4, none⟩ = some (.int .u8 k2) := hce' 0 _ rfl
     have y1 : wr.cell? ⟨b', o' + j * 4 + 1, none⟩ = some (.int .i64 n2) := hce' 1 _ rfl
     have y2 : wr.cell? ⟨b', o' + j * 4 + 2, none⟩ = some (.string s2) := hce' 2 _ rfl
     have y3 : wr.cell? ⟨b', o' + j * 4 + 3, none⟩ = some (.slice A2 l2.length cap2) := hce' 3 _ rfl
     have g0 : b < wr.heap.size := by omega
     have g1 : b' < wr.heap.size := by omega
     have HIH2 := hide IH
     have HF := hide fr
     have HLT := hide hlt
     clear hx hy IH her htx hty hce hce' hxin hyin fr frw hK hV HIH HIN HIN' hs0 hs1 hj hg0 hg1 hg0' hg1'
     go_wp2_with fail
     go_region_held3 (fun w' => (∀ c i, c < wr.heap.size → w'.cell? ⟨c, i, none⟩ = wr.cell? ⟨c, i, none⟩) ∧ Fr No wr w')
      (first | exact ⟨fun _ _ _ => rfl, Fr.drew (Fr.refl No wr)⟩ | (have hq : Fr No wr _ := (‹_ ∧ Fr No wr _›).2.trans ‹Fr No _ _›; exact ⟨hq.cells, hq⟩))
      (first
       | (go_at_call 254; have hs0 := (‹_ ∧ Fr No wr _›).2; ((with_reducible refine (HIH2.out _ hs0).mono ?_); rintro e w2 ⟨rfl, fr1⟩)))
     go_wp2
     go_roundw
     case rel => exact ⟨j + 1, HLT.out, by go_num, HF.out.trans (‹_ ∧ Fr No wr _›).2⟩
     case measure =>
      have := HLT.out
      simp [intOf] <;> omega
   · obtain rfl : l.length = j := by omega
     have HFW := hide frw
     clear frw fr hK hV
     go_wp2
     go_ret
     exact ⟨rfl, HFW.out⟩
end Go.Proofs.YtlejelbefmkakaaGreat

namespace Go.Proofs.YtlejelbefmkakaaGreat
open Go.RowKit
theorem er_stmt {op op' : Int} {nm sc nm' sc' : ByteArray} {ab wh ab' wh' : Int} {k1 n1 k1' n1' : Int} {s1 s1' : ByteArray} {A1 A1' : Option Addr} {z1 z1' : Nat} {k2 n2 k2' n2' : Int} {s2 s2' : ByteArray} {A2 A2' : Option Addr} {z2 z2' : Nat} {A3 A4 A5 A6 A3' A4' A5' A6' : Option Addr} {z3 z4 z5 z6 z3' z4' z5' z6' : Nat} {l1 l2 l3 l4 l5 l6 l1' l2' l3' l4' l5' l6' : List G}
 (h : (G.mk (stC op nm sc ab wh k1 n1 s1 A1 (List.length l1) z1 k2 n2 s2 A2 (List.length l2) z2 A3 (List.length l3) z3 A4 (List.length l4) z4 A5 (List.length l5) z5 A6 (List.length l6) z6) [(A1, l1), (A2, l2), (A3, l3), (A4, l4), (A5, l5), (A6, l6)]).er =
  (G.mk (stC op' nm' sc' ab' wh' k1' n1' s1' A1' (List.length l1') z1' k2' n2' s2' A2' (List.length l2') z2' A3' (List.length l3') z3' A4' (List.length l4') z4' A5' (List.length l5') z5' A6' (List.length l6') z6') [(A1', l1'), (A2', l2'), (A3', l3'), (A4', l4'), (A5', l5'), (A6', l6')]).er) :
 (op = op' ∧ nm = nm' ∧ sc = sc' ∧ ab = ab' ∧ wh = wh' ∧ k1 = k1' ∧ n1 = n1' ∧ s1 = s1' ∧ k2 = k2' ∧ n2 = n2' ∧ s2 = s2') ∧ l1.map G.er = l1'.map G.er ∧ l2.map G.er = l2'.map G.er ∧ l3.map G.er = l3'.map G.er ∧ l4.map G.er = l4'.map G.er ∧ l5.map G.er = l5'.map G.er ∧ l6.map G.er = l6'.map G.er := by
 rw [G.er_mk, G.er_mk] at h
 injection h with h1 h2
 simp only [stC, List.map_cons, List.map_nil, erV, List.cons.injEq, Value.int.injEq, Value.string.injEq, Value.slice.injEq, and_true, true_and, Prod.mk.injEq] at h1 h2
 obtain ⟨a1, a2, a3, a4, a5, a6, a7, a8, -, a9, a10, a11, -⟩ := h1
 exact ⟨⟨a1, a2, a3, a4, a5, a6, a7, a8, a9, a10, a11⟩, h2⟩
theorem er_ex {k n : Int} {s : ByteArray} {A A' : Option Addr} {c c' : Nat} {l l' : List G} (h : l.map G.er = l'.map G.er) : (G.mk [.int .u8 k, .int .i64 n, .string s, .slice A l.length c] [(A, l)]).er = (G.mk [.int .u8 k, .int .i64 n, .string s, .slice A' l'.length c'] [(A', l')]).er := by
 have hl : l.length = l'.length := by simpa using congrArg List.length h
 rw [G.er_mk, G.er_mk]
 simp [erV, h, hl]
theorem er_str {x y : G} (hx : Ty 9 x) (hy : Ty 9 y) (h : x.er = y.er) : ∃ s : ByteArray, x = .mk [.string s] [] ∧ y = .mk [.string s] [] := by
 obtain ⟨s, rfl, -⟩ := ty_str hx
 obtain ⟨s', rfl, -⟩ := ty_str hy
 rw [G.er_mk, G.er_mk] at h
 injection h with h1 h2
 simp [erV] at h1
 subst h1
 exact ⟨s, rfl, rfl⟩
def SC (l : List G) : Prop := ∀ (l' : List G) (A A' : Option Addr) (cap cap' : Nat) (w : World) (lo hi lo' hi' : Nat), (∀ x ∈ l, Ty 311 x) → (∀ x ∈ l', Ty 311 x) → l.map G.er = l'.map G.er → (G.row A l).In w lo hi → hi ≤ w.heap.size → (G.row A' l').In w lo' hi' → hi' ≤ w.heap.size → l.length * 256 ≤ 140737488351232 →
 Calls Tryz.prog 206 #[.slice A l.length cap, .slice A' l'.length cap'] w fun e w' => e = .returned (.bool true) ∧ Fr No w w'
set_option maxRecDepth 100000 in
set_option maxHeartbeats 16000000 in
theorem sc_row (l : List G) (hq : ∀ x ∈ l, ∀ A1 l1, (A1, l1) ∈ x.subs → SC l1) : SC l := by
 intro l' A A' cap cap' w lo hi lo' hi' hty hty' her hin hh hin' hh' hlen
 have hl : l.length = l'.length := by simpa using congrArg List.length her
 have hl' : ((l.length : Int) != (l'.length : Int)) = false := by simp; omega
 have HQ := hide hq
 have HTY := hide hty
 have HTY' := hide hty'
 have HER := hide her
 have HIN := hide hin
 have HIN' := hide hin'
 have HH := hide hh
 have HH' := hide hh'
 have HL := hide hl
 clear hq hty hty' her hin hin' hh hh' hl
 go_enter Tryz.func206, Tryz.ntmps206
 go_wp2_with fail
 go_loopw [5] (fun i wr => ∃ j : Nat, j ≤ l.length ∧ i = .int .i64 j ∧ Fr No w wr) (fun i _ => l.length - (intOf i).toNat)
 case atStart => exact ⟨0, Nat.zero_le _, rfl, Fr.refl _ _⟩
 case round =>
  obtain ⟨j, hj, rfl, fr⟩ := hrel
  by_cases hlt : j < l.length
  · have hlt' : j < l'.length := by have := HL.out; omega
    have hs0 := Nat.le_trans HH.out fr.size
    have hs1 := Nat.le_trans HH'.out fr.size
    obtain ⟨b, o, rfl, hg0, hg1, hxin, hce⟩ := G.row_at (HIN.out.no fr HH.out) hlt
    obtain ⟨b', o', rfl, hg0', hg1', hyin, hce'⟩ := G.row_at (HIN'.out.no fr HH'.out) hlt'
    have htx := HTY.out _ (List.getElem_mem hlt)
    have hty := HTY'.out _ (List.getElem_mem hlt')
    have her := er_at HER.out hlt hlt'
    have hq := HQ.out _ (List.getElem_mem hlt)
    obtain ⟨op, nm, sc, ab, wh, k1, n1, s1, A1, l1, z1, k2, n2, s2, A2, l2, z2, A3, l3, z3, A4, l4, z4, A5, l5, z5, A6, l6, z6, hx, fS, fE1, fE2, t1, t2, t3, t4, t5, t6⟩ := ty_stmt htx
    obtain ⟨op', nm', sc', ab', wh', k1', n1', s1', yA1, yl1, yz1, k2', n2', s2', yA2, yl2, yz2, yA3, yl3, yz3, yA4, yl4, yz4, yA5, yl5, yz5, yA6, yl6, yz6, hy, fS', fE1', fE2', t1', t2', t3', t4', t5', t6'⟩ := ty_stmt hty
    rw [hx] at hce her hq hxin
    rw [hy] at hce' her hyin
    obtain ⟨⟨rfl, rfl, rfl, rfl, rfl, rfl, rfl, rfl, rfl, rfl, rfl⟩, e1, e2, e3, e4, e5, e6⟩ := er_stmt her
    have hxr := G.in_rows.1 hxin
    have hyr := G.in_rows.1 hyin
    have HE1 := hide fun w' (f : Fr No wr w') => (show Calls Tryz.prog 254 #[.agg #[.int .u8 k1, .int .i64 n1, .string s1, .slice A1 l1.length z1], .agg #[.int .u8 k1, .int .i64 n1, .string s1, .slice yA1 yl1.length yz1]] w' (fun e w'' => e = .returned (.bool true) ∧ Fr No w' w'') from
     sameExpr_eq (.mk [.int .u8 k1, .int .i64 n1, .string s1, .slice A1 l1.length z1] [(A1, l1)]) (.mk [.int .u8 k1, .int .i64 n1, .string s1, .slice yA1 yl1.length yz1] [(yA1, yl1)]) w' lo hi lo' hi' (mk_expr fE1 t1) (mk_expr fE1' t1') (er_ex e1) ((G.in_rows.2 fun A' l' hm => by simp at hm; obtain ⟨rfl, rfl⟩ := hm; exact hxr A' l' (by simp)).no f hs0) (Nat.le_trans hs0 f.size) ((G.in_rows.2 fun A' l' hm => by simp at hm; obtain ⟨rfl, rfl⟩ := hm; exact hyr A' l' (by simp)).no f hs1) (Nat.le_trans hs1 f.size))
    have HE2 := hide fun w' (f : Fr No wr w') => (show Calls Tryz.prog 254 #[.agg #[.int .u8 k2, .int .i64 n2, .string s2, .slice A2 l2.length z2], .agg #[.int .u8 k2, .int .i64 n2, .string s2, .slice yA2 yl2.length yz2]] w' (fun e w'' => e = .returned (.bool true) ∧ Fr No w' w'') from
     sameExpr_eq (.mk [.int .u8 k2, .int .i64 n2, .string s2, .slice A2 l2.length z2] [(A2, l2)]) (.mk [.int .u8 k2, .int .i64 n2, .string s2, .slice yA2 yl2.length yz2] [(yA2, yl2)]) w' lo hi lo' hi' (mk_expr fE2 t2) (mk_expr fE2' t2') (er_ex e2) ((G.in_rows.2 fun A' l' hm => by simp at hm; obtain ⟨rfl, rfl⟩ := hm; exact hxr A' l' (by simp)).no f hs0) (Nat.le_trans hs0 f.size) ((G.in_rows.2 fun A' l' hm => by simp at hm; obtain ⟨rfl, rfl⟩ := hm; exact hyr A' l' (by simp)).no f hs1) (Nat.le_trans hs1 f.size))
    have H3 := hide fun w' (f : Fr No wr w') => hq A3 l3 (by simp [G.subs]) yl3 A3 yA3 z3 yz3 w' lo hi lo' hi' t3 t3' e3 ((hxr A3 l3 (by simp)).no f hs0) (Nat.le_trans hs0 f.size) ((hyr yA3 yl3 (by simp)).no f hs1) (Nat.le_trans hs1 f.size) fS.th1.1
    have H4 := hide fun w' (f : Fr No wr w') => hq A4 l4 (by simp [G.subs]) yl4 A4 yA4 z4 yz4 w' lo hi lo' hi' t4 t4' e4 ((hxr A4 l4 (by simp)).no f hs0) (Nat.le_trans hs0 f.size) ((hyr yA4 yl4 (by simp)).no f hs1) (Nat.le_trans hs1 f.size) fS.el1.1
    have H5 := hide fun w' (f : Fr No wr w') => hq A5 l5 (by simp [G.subs]) yl5 A5 yA5 z5 yz5 w' lo hi lo' hi' t5 t5' e5 ((hxr A5 l5 (by simp)).no f hs0) (Nat.le_trans hs0 f.size) ((hyr yA5 yl5 (by simp)).no f hs1) (Nat.le_trans hs1 f.size) fS.co1.1
    have hl6 : l6.length = yl6.length := by simpa using congrArg List.length e6
    have HL6 := hide hl6
    have HT6 := hide t6
    have HT6' := hide t6'
    have HE6 := hide e6
    have HX6 := hide ((hxr A6 l6 (by simp)))
    have HY6 := hide ((hyr yA6 yl6 (by simp)))
    have hw6 := fS.wi1.1
    have g0 : b < wr.heap.size := by omega
    have g1 : b' < wr.heap.size := by omega
    have HRX := hide fun (w' : World) (f : Fr No wr w') => (show w'.rangeAt b (o + j * 17) [.int .u8 op, .string nm, .string sc, .int .u8 ab, .int .u8 wh, .int .u8 k1, .int .i64 n1, .string s1, .slice A1 l1.length z1, .int .u8 k2, .int .i64 n2, .string s2, .slice A2 l2.length z2, .slice A3 l3.length z3, .slice A4 l4.length z4, .slice A5 l5.length z5, .slice A6 l6.length z6] from fun i u hu => (f.cell g0 fun h => h).trans (hce i u hu))
    have HRY := hide fun (w' : World) (f : Fr No wr w') => (show w'.rangeAt b' (o' + j * 17) [.int .u8 op, .string nm, .string sc, .int .u8 ab, .int .u8 wh, .int .u8 k1, .int .i64 n1, .string s1, .slice yA1 yl1.length yz1, .int .u8 k2, .int .i64 n2, .string s2, .slice yA2 yl2.length yz2, .slice yA3 yl3.length yz3, .slice yA4 yl4.length yz4, .slice yA5 yl5.length yz5, .slice yA6 yl6.length yz6] from fun i u hu => (f.cell g1 fun h => h).trans (hce' i u hu))
    have HF := hide fr
    have HLT := hide hlt
    have HS0 := hide hs0
    have HS1 := hide hs1
    clear hx hy her htx hty hce hce' hxin hyin fr HQ HIN HIN' hs0 hs1 hj hg0 hg1 hg0' hg1' t1 t2 t3 t4 t5 t6 t1' t2' t3' t4' t5' t6' e1 e2 e3 e4 e5 e6 fS fS' fE1 fE2 fE1' fE2' hxr hyr hq hl6 g0 g1
    go_upto_region 6 with (fail)
    go_cut [6, 7] from 20 to 27 (fun tx ty wx => ∃ gx gy : Nat, tx = .pointer (some ⟨gx, 0, none⟩) ∧ ty = .pointer (some ⟨gy, 0, none⟩) ∧ Blk wx gx 311 #[.int .u8 op, .string nm, .string sc, .int .u8 ab, .int .u8 wh, .int .u8 k1, .int .i64 n1, .string s1, .slice A1 l1.length z1, .int .u8 k2, .int .i64 n2, .string s2, .slice A2 l2.length z2, .slice A3 l3.length z3, .slice A4 l4.length z4, .slice A5 l5.length z5, .slice A6 l6.length z6] ∧ Blk wx gy 311 #[.int .u8 op, .string nm, .string sc, .int .u8 ab, .int .u8 wh, .int .u8 k1, .int .i64 n1, .string s1, .slice yA1 yl1.length yz1, .int .u8 k2, .int .i64 n2, .string s2, .slice yA2 yl2.length yz2, .slice yA3 yl3.length yz3, .slice yA4 yl4.length yz4, .slice yA5 yl5.length yz5, .slice yA6 yl6.length yz6] ∧ Fr No wr wx)
    case first =>
     refine wp_region_held_drew (S := fun w' => Fr No wr w') (by kernel_rfl) ?_ (fun hHeld => ?_)
     · exact (Fr.refl No wr).drew
     refine tk (i := 0) (v := ?_) (by simp only [lq1, lq3]; rfl) (by kernel_rfl) (by intro _ _ _ h; exact h) (by rfl) (by assumption) ?_ ?_; rotate_left
     · (intro w hSw; (try dsimp only at hSw); go_simp; try (with_reducible rfl))
     try simp only [Act.put, lq4, lq5, lq6]
     refine tk (i := 1) (v := ?_) (by simp only [lq1, lq2, lq3]; rfl) (by kernel_rfl) (by intro _ _ _ h; exact h) (by rfl) (by assumption) ?_ ?_; rotate_left
     · (intro w hSw; (try dsimp only at hSw); go_simp; try (with_reducible rfl))
     try simp only [Act.put, lq4, lq5, lq6]
     refine tk (i := 2) (v := ?_) (by simp only [lq1, lq2, lq3]; rfl) (by kernel_rfl) (by intro _ _ _ h; exact h) (by rfl) (by assumption) ?_ ?_; rotate_left
     · (intro w hSw; (try dsimp only at hSw); go_simp; try (with_reducible rfl))
     try simp only [Act.put, lq4, lq5, lq6]
     refine wpAnyH_take (i := 3) (by simp only [lq1, lq2, lq3]; rfl) (by kernel_rfl) (by kernel_rfl) (by kernel_rfl) (by intro _ _ _ h; exact h) (yieldsIf_load_mid (by rfl) 311 (.tmp 22) (by rfl) b (o + j * 17) (by rfl) [.int .u8 op, .string nm, .string sc, .int .u8 ab, .int .u8 wh, .int .u8 k1, .int .i64 n1, .string s1, .slice A1 l1.length z1, .int .u8 k2, .int .i64 n2, .string s2, .slice A2 l2.length z2, .slice A3 l3.length z3, .slice A4 l4.length z4, .slice A5 l5.length z5, .slice A6 l6.length z6] _ HRX.out Tryz.underlying311 (by rfl) stmt_size) (by assumption) ?_
     try simp only [Act.put, lq4, lq5, lq6]
     refine tk (i := 4) (v := ?_) (by simp only [lq1, lq2, lq3]; rfl) (by kernel_rfl) (by intro _ _ _ h; exact h) (by rfl) (by assumption) ?_ ?_; rotate_left
     · (intro w hSw; (try dsimp only at hSw); go_simp; try (with_reducible rfl))
     try simp only [Act.put, lq4, lq5, lq6]
     refine tk (i := 5) (v := ?_) (by simp only [lq1, lq2, lq3]; rfl) (by kernel_rfl) (by intro _ _ _ h; exact h) (by rfl) (by assumption) ?_ ?_; rotate_left
     · (intro w hSw; (try dsimp only at hSw); go_simp; try (with_reducible rfl))
     try simp only [Act.put, lq4, lq5, lq6]
     refine tk (i := 6) (v := ?_) (by simp only [lq1, lq2, lq3]; rfl) (by kernel_rfl) (by intro _ _ _ h; exact h) (by rfl) (by assumption) ?_ ?_; rotate_left
     · (intro w hSw; (try dsimp only at hSw); go_simp; try (with_reducible rfl))
     try simp only [Act.put, lq4, lq5, lq6]
     refine wpAnyH_take (i := 7) (by simp only [lq1, lq2, lq3]; rfl) (by kernel_rfl) (by kernel_rfl) (by kernel_rfl) (by intro _ _ _ h; exact h) (yieldsIf_load_mid (by rfl) 311 (.tmp 26) (by rfl) b' (o' + j * 17) (by rfl) [.int .u8 op, .string nm, .string sc, .int .u8 ab, .int .u8 wh, .int .u8 k1, .int .i64 n1, .string s1, .slice yA1 yl1.length yz1, .int .u8 k2, .int .i64 n2, .string s2, .slice yA2 yl2.length yz2, .slice yA3 yl3.length yz3, .slice yA4 yl4.length yz4, .slice yA5 yl5.length yz5, .slice yA6 yl6.length yz6] _ HRY.out Tryz.underlying311 (by rfl) stmt_size) (by assumption) ?_
     try simp only [Act.put, lq4, lq5, lq6]
     refine wpAnyH_ready (rs := [8, 9]) (by kernel_rfl) (by simp) ?_
     refine AllReadyH.cons rfl (fun K hK => ?_) (AllReadyH.cons rfl (fun K hK => ?_) AllReadyH.nil)
     · go_simp
       have Hx1 : Hid (Blk (World.drew (World.alloc wr (.cells #[.int .u8 0, .string ⟨#[]⟩, .string ⟨#[]⟩, .int .u8 0, .int .u8 0, .int .u8 0, .int .i64 0, .string ⟨#[]⟩, .slice none 0 0, .int .u8 0, .int .i64 0, .string ⟨#[]⟩, .slice none 0 0, .slice none 0 0, .slice none 0 0, .slice none 0 0, .slice none 0 0] 311))) wr.heap.size 311 #[.int .u8 0, .string ⟨#[]⟩, .string ⟨#[]⟩, .int .u8 0, .int .u8 0, .int .u8 0, .int .i64 0, .string ⟨#[]⟩, .slice none 0 0, .int .u8 0, .int .i64 0, .string ⟨#[]⟩, .slice none 0 0, .slice none 0 0, .slice none 0 0, .slice none 0 0, .slice none 0 0]) := hide (Blk.new wr 311 #[.int .u8 0, .string ⟨#[]⟩, .string ⟨#[]⟩, .int .u8 0, .int .u8 0, .int .u8 0, .int .i64 0, .string ⟨#[]⟩, .slice none 0 0, .int .u8 0, .int .i64 0, .string ⟨#[]⟩, .slice none 0 0, .slice none 0 0, .slice none 0 0, .slice none 0 0, .slice none 0 0])
       have F1 : Hid (Fr No wr (World.drew (World.alloc wr (.cells #[.int .u8 0, .string ⟨#[]⟩, .string ⟨#[]⟩, .int .u8 0, .int .u8 0, .int .u8 0, .int .i64 0, .string ⟨#[]⟩, .slice none 0 0, .int .u8 0, .int .i64 0, .string ⟨#[]⟩, .slice none 0 0, .slice none 0 0, .slice none 0 0, .slice none 0 0, .slice none 0 0] 311)))) := hide (((Fr.refl No wr).alloc (.cells #[.int .u8 0, .string ⟨#[]⟩, .string ⟨#[]⟩, .int .u8 0, .int .u8 0, .int .u8 0, .int .i64 0, .string ⟨#[]⟩, .slice none 0 0, .int .u8 0, .int .i64 0, .string ⟨#[]⟩, .slice none 0 0, .slice none 0 0, .slice none 0 0, .slice none 0 0, .slice none 0 0] 311)).drew)
       generalize World.drew (World.alloc wr _) = w1 at *
       refine hK.out _ _ ?_ (fun hHeld2 => ?_)
       · exact F1.out
       clear hK K hHeld
       have hHeld := hHeld2
       clear hHeld2
       try simp only [Act.put, lq4, lq5, lq6]
       refine wpAnyH_ready (rs := [9]) (by kernel_rfl) (by simp) ?_
       refine AllReadyH.cons rfl (fun K hK => ?_) AllReadyH.nil
       · go_simp
         have Hy2 := hide (Blk.new w1 311 #[.int .u8 0, .string ⟨#[]⟩, .string ⟨#[]⟩, .int .u8 0, .int .u8 0, .int .u8 0, .int .i64 0, .string ⟨#[]⟩, .slice none 0 0, .int .u8 0, .int .i64 0, .string ⟨#[]⟩, .slice none 0 0, .slice none 0 0, .slice none 0 0, .slice none 0 0, .slice none 0 0])
         have Hx2 := hide (Hx1.out.alloc (.cells #[.int .u8 0, .string ⟨#[]⟩, .string ⟨#[]⟩, .int .u8 0, .int .u8 0, .int .u8 0, .int .i64 0, .string ⟨#[]⟩, .slice none 0 0, .int .u8 0, .int .i64 0, .string ⟨#[]⟩, .slice none 0 0, .slice none 0 0, .slice none 0 0, .slice none 0 0, .slice none 0 0] 311))
         have F2 := hide (F1.out.alloc (.cells #[.int .u8 0, .string ⟨#[]⟩, .string ⟨#[]⟩, .int .u8 0, .int .u8 0, .int .u8 0, .int .i64 0, .string ⟨#[]⟩, .slice none 0 0, .int .u8 0, .int .i64 0, .string ⟨#[]⟩, .slice none 0 0, .slice none 0 0, .slice none 0 0, .slice none 0 0, .slice none 0 0] 311))
         have HG := hide Hx1.out.lt
         generalize hg : w1.heap.size = g at *
         generalize World.alloc w1 _ = w2 at *
         refine hK.out _ _ ?_ (fun hHeld2 => ?_)
         · exact F2.out
         clear hK K hHeld
         have hHeld := hHeld2
         clear hHeld2
         try simp only [Act.put, lq4, lq5, lq6]
         refine wpAnyH_ready (rs := [10]) (by kernel_rfl) (by simp) ?_
         refine AllReadyH.cons rfl (fun K hK => ?_) AllReadyH.nil
         · refine step_store_row (by rfl) 311 (.tmp 6) (.tmp 23) (by rfl) (wr.heap.size) #[.int .u8 op, .string nm, .string sc, .int .u8 ab, .int .u8 wh, .int .u8 k1, .int .i64 n1, .string s1, .slice A1 l1.length z1, .int .u8 k2, .int .i64 n2, .string s2, .slice A2 l2.length z2, .slice A3 l3.length z3, .slice A4 l4.length z4, .slice A5 l5.length z5, .slice A6 l6.length z6] (by rfl) (by rfl) 311 _ Hx2.out stmt_size (by rfl) (by simp [Value.oneCell']) ?_
           have hY3 := Hy2.out.fr (row_fr w2 (wr.heap.size) #[.int .u8 op, .string nm, .string sc, .int .u8 ab, .int .u8 wh, .int .u8 k1, .int .i64 n1, .string s1, .slice A1 l1.length z1, .int .u8 k2, .int .i64 n2, .string s2, .slice A2 l2.length z2, .slice A3 l3.length z3, .slice A4 l4.length z4, .slice A5 l5.length z5, .slice A6 l6.length z6]) (fun e => by have e' : g = wr.heap.size := e; have := HG.out; omega)
           have Hx3 := hide (row_blk (us := #[.int .u8 op, .string nm, .string sc, .int .u8 ab, .int .u8 wh, .int .u8 k1, .int .i64 n1, .string s1, .slice A1 l1.length z1, .int .u8 k2, .int .i64 n2, .string s2, .slice A2 l2.length z2, .slice A3 l3.length z3, .slice A4 l4.length z4, .slice A5 l5.length z5, .slice A6 l6.length z6]) Hx2.out)
           have Hy3 := hide hY3
           have F3 := hide (F2.out.trans' (row_fr w2 (wr.heap.size) #[.int .u8 op, .string nm, .string sc, .int .u8 ab, .int .u8 wh, .int .u8 k1, .int .i64 n1, .string s1, .slice A1 l1.length z1, .int .u8 k2, .int .i64 n2, .string s2, .slice A2 l2.length z2, .slice A3 l3.length z3, .slice A4 l4.length z4, .slice A5 l5.length z5, .slice A6 l6.length z6]) fun i hi e => by have e' : i = wr.heap.size := e; have := HG.out; omega)
           clear hY3
           generalize World.setRow w2 _ _ = w3 at *
           refine hK.out _ _ ?_ (fun hHeld2 => ?_)
           · exact F3.out
           clear hK K hHeld
           have hHeld := hHeld2
           clear hHeld2
           try simp only [Act.put, lq4]
           refine wpAnyH_ready (rs := [11]) (by kernel_rfl) (by simp) ?_
           refine AllReadyH.cons rfl (fun K hK => ?_) AllReadyH.nil
           · refine step_store_row (by rfl) 311 (.tmp 7) (.tmp 27) (by rfl) (g) #[.int .u8 op, .string nm, .string sc, .int .u8 ab, .int .u8 wh, .int .u8 k1, .int .i64 n1, .string s1, .slice yA1 yl1.length yz1, .int .u8 k2, .int .i64 n2, .string s2, .slice yA2 yl2.length yz2, .slice yA3 yl3.length yz3, .slice yA4 yl4.length yz4, .slice yA5 yl5.length yz5, .slice yA6 yl6.length yz6] (by rfl) (by rfl) 311 _ Hy3.out stmt_size (by rfl) (by simp [Value.oneCell']) ?_
             have hX4 := Hx3.out.fr (row_fr w3 (g) #[.int .u8 op, .string nm, .string sc, .int .u8 ab, .int .u8 wh, .int .u8 k1, .int .i64 n1, .string s1, .slice yA1 yl1.length yz1, .int .u8 k2, .int .i64 n2, .string s2, .slice yA2 yl2.length yz2, .slice yA3 yl3.length yz3, .slice yA4 yl4.length yz4, .slice yA5 yl5.length yz5, .slice yA6 yl6.length yz6]) (fun e => by have e' : wr.heap.size = g := e; have := HG.out; omega)
             have Hx4 := hide hX4
             have Hy4 := hide (row_blk (us := #[.int .u8 op, .string nm, .string sc, .int .u8 ab, .int .u8 wh, .int .u8 k1, .int .i64 n1, .string s1, .slice yA1 yl1.length yz1, .int .u8 k2, .int .i64 n2, .string s2, .slice yA2 yl2.length yz2, .slice yA3 yl3.length yz3, .slice yA4 yl4.length yz4, .slice yA5 yl5.length yz5, .slice yA6 yl6.length yz6]) Hy3.out)
             have F4 := hide (F3.out.trans' (row_fr w3 (g) #[.int .u8 op, .string nm, .string sc, .int .u8 ab, .int .u8 wh, .int .u8 k1, .int .i64 n1, .string s1, .slice yA1 yl1.length yz1, .int .u8 k2, .int .i64 n2, .string s2, .slice yA2 yl2.length yz2, .slice yA3 yl3.length yz3, .slice yA4 yl4.length yz4, .slice yA5 yl5.length yz5, .slice yA6 yl6.length yz6]) fun i hi e => by have e' : i = g := e; have := HG.out; omega)
             clear hX4
             generalize World.setRow w3 _ _ = w4 at *
             refine hK.out _ _ ?_ (fun hHeld2 => ?_)
             · exact F4.out
             clear hK K hHeld
             have hHeld := hHeld2
             clear hHeld2
             try simp only [Act.put]
             refine wpAnyH_done (by kernel_rfl) ?_ _
             clear hHeld
             go_wp2_with fail
             go_meet
             case rel => exact ⟨wr.heap.size, g, rfl, rfl, Hx4.out, Hy4.out, F4.out⟩
     · go_simp
       have Hy1 : Hid (Blk (World.drew (World.alloc wr (.cells #[.int .u8 0, .string ⟨#[]⟩, .string ⟨#[]⟩, .int .u8 0, .int .u8 0, .int .u8 0, .int .i64 0, .string ⟨#[]⟩, .slice none 0 0, .int .u8 0, .int .i64 0, .string ⟨#[]⟩, .slice none 0 0, .slice none 0 0, .slice none 0 0, .slice none 0 0, .slice none 0 0] 311))) wr.heap.size 311 #[.int .u8 0, .string ⟨#[]⟩, .string ⟨#[]⟩, .int .u8 0, .int .u8 0, .int .u8 0, .int .i64 0, .string ⟨#[]⟩, .slice none 0 0, .int .u8 0, .int .i64 0, .string ⟨#[]⟩, .slice none 0 0, .slice none 0 0, .slice none 0 0, .slice none 0 0, .slice none 0 0]) := hide (Blk.new wr 311 #[.int .u8 0, .string ⟨#[]⟩, .string ⟨#[]⟩, .int .u8 0, .int .u8 0, .int .u8 0, .int .i64 0, .string ⟨#[]⟩, .slice none 0 0, .int .u8 0, .int .i64 0, .string ⟨#[]⟩, .slice none 0 0, .slice none 0 0, .slice none 0 0, .slice none 0 0, .slice none 0 0])
       have F1 : Hid (Fr No wr (World.drew (World.alloc wr (.cells #[.int .u8 0, .string ⟨#[]⟩, .string ⟨#[]⟩, .int .u8 0, .int .u8 0, .int .u8 0, .int .i64 0, .string ⟨#[]⟩, .slice none 0 0, .int .u8 0, .int .i64 0, .string ⟨#[]⟩, .slice none 0 0, .slice none 0 0, .slice none 0 0, .slice none 0 0, .slice none 0 0] 311)))) := hide (((Fr.refl No wr).alloc (.cells #[.int .u8 0, .string ⟨#[]⟩, .string ⟨#[]⟩, .int .u8 0, .int .u8 0, .int .u8 0, .int .i64 0, .string ⟨#[]⟩, .slice none 0 0, .int .u8 0, .int .i64 0, .string ⟨#[]⟩, .slice none 0 0, .slice none 0 0, .slice none 0 0, .slice none 0 0, .slice none 0 0] 311)).drew)
       generalize World.drew (World.alloc wr _) = w1 at *
       refine hK.out _ _ ?_ (fun hHeld2 => ?_)
       · exact F1.out
       clear hK K hHeld
       have hHeld := hHeld2
       clear hHeld2
       try simp only [Act.put, lq4, lq5, lq6]
       refine wpAnyH_ready (rs := [8]) (by kernel_rfl) (by simp) ?_
       refine AllReadyH.cons rfl (fun K hK => ?_) AllReadyH.nil
       · go_simp
         have Hx2 := hide (Blk.new w1 311 #[.int .u8 0, .string ⟨#[]⟩, .string ⟨#[]⟩, .int .u8 0, .int .u8 0, .int .u8 0, .int .i64 0, .string ⟨#[]⟩, .slice none 0 0, .int .u8 0, .int .i64 0, .string ⟨#[]⟩, .slice none 0 0, .slice none 0 0, .slice none 0 0, .slice none 0 0, .slice none 0 0])
         have Hy2 := hide (Hy1.out.alloc (.cells #[.int .u8 0, .string ⟨#[]⟩, .string ⟨#[]⟩, .int .u8 0, .int .u8 0, .int .u8 0, .int .i64 0, .string ⟨#[]⟩, .slice none 0 0, .int .u8 0, .int .i64 0, .string ⟨#[]⟩, .slice none 0 0, .slice none 0 0, .slice none 0 0, .slice none 0 0, .slice none 0 0] 311))
         have F2 := hide (F1.out.alloc (.cells #[.int .u8 0, .string ⟨#[]⟩, .string ⟨#[]⟩, .int .u8 0, .int .u8 0, .int .u8 0, .int .i64 0, .string ⟨#[]⟩, .slice none 0 0, .int .u8 0, .int .i64 0, .string ⟨#[]⟩, .slice none 0 0, .slice none 0 0, .slice none 0 0, .slice none 0 0, .slice none 0 0] 311))
         have HG := hide Hy1.out.lt
         generalize hg : w1.heap.size = g at *
         generalize World.alloc w1 _ = w2 at *
         refine hK.out _ _ ?_ (fun hHeld2 => ?_)
         · exact F2.out
         clear hK K hHeld
         have hHeld := hHeld2
         clear hHeld2
         try simp only [Act.put, lq4, lq5, lq6]
         refine wpAnyH_ready (rs := [10]) (by kernel_rfl) (by simp) ?_
         refine AllReadyH.cons rfl (fun K hK => ?_) AllReadyH.nil
         · refine step_store_row (by rfl) 311 (.tmp 6) (.tmp 23) (by rfl) (g) #[.int .u8 op, .string nm, .string sc, .int .u8 ab, .int .u8 wh, .int .u8 k1, .int .i64 n1, .string s1, .slice A1 l1.length z1, .int .u8 k2, .int .i64 n2, .string s2, .slice A2 l2.length z2, .slice A3 l3.length z3, .slice A4 l4.length z4, .slice A5 l5.length z5, .slice A6 l6.length z6] (by rfl) (by rfl) 311 _ Hx2.out stmt_size (by rfl) (by simp [Value.oneCell']) ?_
           have hY3 := Hy2.out.fr (row_fr w2 (g) #[.int .u8 op, .string nm, .string sc, .int .u8 ab, .int .u8 wh, .int .u8 k1, .int .i64 n1, .string s1, .slice A1 l1.length z1, .int .u8 k2, .int .i64 n2, .string s2, .slice A2 l2.length z2, .slice A3 l3.length z3, .slice A4 l4.length z4, .slice A5 l5.length z5, .slice A6 l6.length z6]) (fun e => by have e' : wr.heap.size = g := e; have := HG.out; omega)
           have Hx3 := hide (row_blk (us := #[.int .u8 op, .string nm, .string sc, .int .u8 ab, .int .u8 wh, .int .u8 k1, .int .i64 n1, .string s1, .slice A1 l1.length z1, .int .u8 k2, .int .i64 n2, .string s2, .slice A2 l2.length z2, .slice A3 l3.length z3, .slice A4 l4.length z4, .slice A5 l5.length z5, .slice A6 l6.length z6]) Hx2.out)
           have Hy3 := hide hY3
           have F3 := hide (F2.out.trans' (row_fr w2 (g) #[.int .u8 op, .string nm, .string sc, .int .u8 ab, .int .u8 wh, .int .u8 k1, .int .i64 n1, .string s1, .slice A1 l1.length z1, .int .u8 k2, .int .i64 n2, .string s2, .slice A2 l2.length z2, .slice A3 l3.length z3, .slice A4 l4.length z4, .slice A5 l5.length z5, .slice A6 l6.length z6]) fun i hi e => by have e' : i = g := e; have := HG.out; omega)
           clear hY3
           generalize World.setRow w2 _ _ = w3 at *
           refine hK.out _ _ ?_ (fun hHeld2 => ?_)
           · exact F3.out
           clear hK K hHeld
           have hHeld := hHeld2
           clear hHeld2
           try simp only [Act.put, lq4]
           refine wpAnyH_ready (rs := [11]) (by kernel_rfl) (by simp) ?_
           refine AllReadyH.cons rfl (fun K hK => ?_) AllReadyH.nil
           · refine step_store_row (by rfl) 311 (.tmp 7) (.tmp 27) (by rfl) (wr.heap.size) #[.int .u8 op, .string nm, .string sc, .int .u8 ab, .int .u8 wh, .int .u8 k1, .int .i64 n1, .string s1, .slice yA1 yl1.length yz1, .int .u8 k2, .int .i64 n2, .string s2, .slice yA2 yl2.length yz2, .slice yA3 yl3.length yz3, .slice yA4 yl4.length yz4, .slice yA5 yl5.length yz5, .slice yA6 yl6.length yz6] (by rfl) (by rfl) 311 _ Hy3.out stmt_size (by rfl) (by simp [Value.oneCell']) ?_
             have hX4 := Hx3.out.fr (row_fr w3 (wr.heap.size) #[.int .u8 op, .string nm, .string sc, .int .u8 ab, .int .u8 wh, .int .u8 k1, .int .i64 n1, .string s1, .slice yA1 yl1.length yz1, .int .u8 k2, .int .i64 n2, .string s2, .slice yA2 yl2.length yz2, .slice yA3 yl3.length yz3, .slice yA4 yl4.length yz4, .slice yA5 yl5.length yz5, .slice yA6 yl6.length yz6]) (fun e => by have e' : g = wr.heap.size := e; have := HG.out; omega)
             have Hx4 := hide hX4
             have Hy4 := hide (row_blk (us := #[.int .u8 op, .string nm, .string sc, .int .u8 ab, .int .u8 wh, .int .u8 k1, .int .i64 n1, .string s1, .slice yA1 yl1.length yz1, .int .u8 k2, .int .i64 n2, .string s2, .slice yA2 yl2.length yz2, .slice yA3 yl3.length yz3, .slice yA4 yl4.length yz4, .slice yA5 yl5.length yz5, .slice yA6 yl6.length yz6]) Hy3.out)
             have F4 := hide (F3.out.trans' (row_fr w3 (wr.heap.size) #[.int .u8 op, .string nm, .string sc, .int .u8 ab, .int .u8 wh, .int .u8 k1, .int .i64 n1, .string s1, .slice yA1 yl1.length yz1, .int .u8 k2, .int .i64 n2, .string s2, .slice yA2 yl2.length yz2, .slice yA3 yl3.length yz3, .slice yA4 yl4.length yz4, .slice yA5 yl5.length yz5, .slice yA6 yl6.length yz6]) fun i hi e => by have e' : i = wr.heap.size := e; have := HG.out; omega)
             clear hX4
             generalize World.setRow w3 _ _ = w4 at *
             refine hK.out _ _ ?_ (fun hHeld2 => ?_)
             · exact F4.out
             clear hK K hHeld
             have hHeld := hHeld2
             clear hHeld2
             try simp only [Act.put]
             refine wpAnyH_done (by kernel_rfl) ?_ _
             clear hHeld
             go_wp2_with fail
             go_meet
             case rel => exact ⟨g, wr.heap.size, rfl, rfl, Hx4.out, Hy4.out, F4.out⟩
    case rest =>
     obtain ⟨gx, gy, rfl, rfl, hX, hY, hF⟩ := hcut
     have HX0 := hide hX
     have HY0 := hide hY
     have HF0 := hide hF
     clear hX hY hF HRX HRY
     have x0 : wc.cell? ⟨gx, 0, none⟩ = some (.int .u8 op) := HX0.out.cell 0
     have x1 : wc.cell? ⟨gx, 1, none⟩ = some (.string nm) := HX0.out.cell 1
     have x2 : wc.cell? ⟨gx, 2, none⟩ = some (.string sc) := HX0.out.cell 2
     have x3 : wc.cell? ⟨gx, 3, none⟩ = some (.int .u8 ab) := HX0.out.cell 3
     have x4 : wc.cell? ⟨gx, 4, none⟩ = some (.int .u8 wh) := HX0.out.cell 4
     have x5 : wc.cell? ⟨gx, 5, none⟩ = some (.int .u8 k1) := HX0.out.cell 5
     have x6 : wc.cell? ⟨gx, 6, none⟩ = some (.int .i64 n1) := HX0.out.cell 6
     have x7 : wc.cell? ⟨gx, 7, none⟩ = some (.string s1) := HX0.out.cell 7
     have x8 : wc.cell? ⟨gx, 8, none⟩ = some (.slice A1 l1.length z1) := HX0.out.cell 8
     have xq := HX0.out.lt
     have y0 : wc.cell? ⟨gy, 0, none⟩ = some (.int .u8 op) := HY0.out.cell 0
     have y1 : wc.cell? ⟨gy, 1, none⟩ = some (.string nm) := HY0.out.cell 1
     have y2 : wc.cell? ⟨gy, 2, none⟩ = some (.string sc) := HY0.out.cell 2
     have y3 : wc.cell? ⟨gy, 3, none⟩ = some (.int .u8 ab) := HY0.out.cell 3
     have y4 : wc.cell? ⟨gy, 4, none⟩ = some (.int .u8 wh) := HY0.out.cell 4
     have y5 : wc.cell? ⟨gy, 5, none⟩ = some (.int .u8 k1) := HY0.out.cell 5
     have y6 : wc.cell? ⟨gy, 6, none⟩ = some (.int .i64 n1) := HY0.out.cell 6
     have y7 : wc.cell? ⟨gy, 7, none⟩ = some (.string s1) := HY0.out.cell 7
     have y8 : wc.cell? ⟨gy, 8, none⟩ = some (.slice yA1 yl1.length yz1) := HY0.out.cell 8
     have yq := HY0.out.lt
     have hl6n : ((l6.length : Int) != (yl6.length : Int)) = false := by have := HL6.out; simp; omega
     go_wp2_with fail
     refine (HE1.out wc HF0.out).mono ?_
     rintro e u1 ⟨rfl, f1⟩
     have HX1 := hide (HX0.out.fr f1 fun h => h)
     have HY1 := hide (HY0.out.fr f1 fun h => h)
     have HF1 := hide (HF0.out.trans f1)
     clear f1 x0 y0 x1 y1 x2 y2 x3 y3 x4 y4 x5 y5 x6 y6 x7 y7 x8 y8 xq yq
     have x9 : u1.cell? ⟨gx, 9, none⟩ = some (.int .u8 k2) := HX1.out.cell 9
     have x10 : u1.cell? ⟨gx, 10, none⟩ = some (.int .i64 n2) := HX1.out.cell 10
     have x11 : u1.cell? ⟨gx, 11, none⟩ = some (.string s2) := HX1.out.cell 11
     have x12 : u1.cell? ⟨gx, 12, none⟩ = some (.slice A2 l2.length z2) := HX1.out.cell 12
     have xq := HX1.out.lt
     have y9 : u1.cell? ⟨gy, 9, none⟩ = some (.int .u8 k2) := HY1.out.cell 9
     have y10 : u1.cell? ⟨gy, 10, none⟩ = some (.int .i64 n2) := HY1.out.cell 10
     have y11 : u1.cell? ⟨gy, 11, none⟩ = some (.string s2) := HY1.out.cell 11
     have y12 : u1.cell? ⟨gy, 12, none⟩ = some (.slice yA2 yl2.length yz2) := HY1.out.cell 12
     have yq := HY1.out.lt
     go_wp2_with fail
     refine (HE2.out u1 HF1.out).mono ?_
     rintro e u2 ⟨rfl, f2⟩
     have HX2 := hide (HX1.out.fr f2 fun h => h)
     have HY2 := hide (HY1.out.fr f2 fun h => h)
     have HF2 := hide (HF1.out.trans f2)
     clear f2 x9 y9 x10 y10 x11 y11 x12 y12 xq yq
     have x13 : u2.cell? ⟨gx, 13, none⟩ = some (.slice A3 l3.length z3) := HX2.out.cell 13
     have xq := HX2.out.lt
     have y13 : u2.cell? ⟨gy, 13, none⟩ = some (.slice yA3 yl3.length yz3) := HY2.out.cell 13
     have yq := HY2.out.lt
     go_wp2_with fail
     refine (H3.out u2 HF2.out).mono ?_
     rintro e u3 ⟨rfl, f3⟩
     have HX3 := hide (HX2.out.fr f3 fun h => h)
     have HY3 := hide (HY2.out.fr f3 fun h => h)
     have HF3 := hide (HF2.out.trans f3)
     clear f3 x13 y13 xq yq
     have x14 : u3.cell? ⟨gx, 14, none⟩ = some (.slice A4 l4.length z4) := HX3.out.cell 14
     have xq := HX3.out.lt
     have y14 : u3.cell? ⟨gy, 14, none⟩ = some (.slice yA4 yl4.length yz4) := HY3.out.cell 14
     have yq := HY3.out.lt
     go_wp2_with fail
     refine (H4.out u3 HF3.out).mono ?_
     rintro e u4 ⟨rfl, f4⟩
     have HX4 := hide (HX3.out.fr f4 fun h => h)
     have HY4 := hide (HY3.out.fr f4 fun h => h)
     have HF4 := hide (HF3.out.trans f4)
     clear f4 x14 y14 xq yq
     have x15 : u4.cell? ⟨gx, 15, none⟩ = some (.slice A5 l5.length z5) := HX4.out.cell 15
     have xq := HX4.out.lt
     have y15 : u4.cell? ⟨gy, 15, none⟩ = some (.slice yA5 yl5.length yz5) := HY4.out.cell 15
     have yq := HY4.out.lt
     go_wp2_with fail
     refine (H5.out u4 HF4.out).mono ?_
     rintro e u5 ⟨rfl, f5⟩
     have HX5 := hide (HX4.out.fr f5 fun h => h)
     have HY5 := hide (HY4.out.fr f5 fun h => h)
     have HF5 := hide (HF4.out.trans f5)
     clear f5 x15 y15 xq yq
     have x16 : u5.cell? ⟨gx, 16, none⟩ = some (.slice A6 l6.length z6) := HX5.out.cell 16
     have xq := HX5.out.lt
     have y16 : u5.cell? ⟨gy, 16, none⟩ = some (.slice yA6 yl6.length yz6) := HY5.out.cell 16
     have yq := HY5.out.lt
     go_wp2_with fail
     clear x16 y16 xq yq
     obtain ⟨wo, rfl⟩ : ∃ wo : World, wo = wr := ⟨_, rfl⟩
     go_loopw [8] (fun i wr => ∃ k : Nat, k ≤ l6.length ∧ i = .int .i64 k ∧ Fr No u5 wr) (fun i _ => l6.length - (intOf i).toNat)
     case atStart => exact ⟨0, Nat.zero_le _, rfl, Fr.refl _ _⟩
     case round =>
      obtain ⟨k, hk, rfl, f6⟩ := hrel
      have HX6w := hide (HX5.out.fr f6 fun h => h)
      have HY6w := hide (HY5.out.fr f6 fun h => h)
      have HF6w := hide (HF5.out.trans f6)
      have x16 : wr.cell? ⟨gx, 16, none⟩ = some (.slice A6 l6.length z6) := HX6w.out.cell 16
      have xq := HX6w.out.lt
      have y16 : wr.cell? ⟨gy, 16, none⟩ = some (.slice yA6 yl6.length yz6) := HY6w.out.cell 16
      have yq := HY6w.out.lt
      by_cases hlk : k < l6.length
      · have hlk2 : k < yl6.length := by have := HL6.out; omega
        have fw := HF6w.out
        obtain ⟨b6, o6, rfl, -, hb6, -, hc6⟩ := G.row_at (HX6.out.no fw HS0.out) hlk
        obtain ⟨b7, o7, rfl, -, hb7, -, hc7⟩ := G.row_at (HY6.out.no fw HS1.out) hlk2
        obtain ⟨sx, hsx, hsy⟩ := er_str (HT6.out _ (List.getElem_mem hlk)) (HT6'.out _ (List.getElem_mem hlk2)) (er_at HE6.out hlk hlk2)
        rw [hsx] at hc6
        rw [hsy] at hc7
        have s0 : wr.cell? ⟨b6, o6 + k, none⟩ = some (.string sx) := by have := hc6 0 (.string sx) rfl; have e : (G.mk [Value.string sx] []).c.length = 1 := rfl; rw [e] at this; simpa using this
        have s1' : wr.cell? ⟨b7, o7 + k, none⟩ = some (.string sx) := by have := hc7 0 (.string sx) rfl; have e : (G.mk [Value.string sx] []).c.length = 1 := rfl; rw [e] at this; simpa using this
        have g6 : b6 < wr.heap.size := by have := HS0.out; have := fw.size; omega
        have g7 : b7 < wr.heap.size := by have := HS1.out; have := fw.size; omega
        have HLK := hide hlk
        have HF6 := hide f6
        clear hc6 hc7 hsx hsy hb6 hb7 fw f6 hk
        go_wp2_with fail
        go_quiet (fail)
        generalize hwq : World.drewN wr _ = wq
        have fq : Fr No wr wq := by rw [← hwq]; exact ⟨rfl, rfl, rfl, Nat.le_refl _, fun _ _ _ => rfl⟩
        have HFQ := hide (HF6.out.trans fq)
        clear fq hwq
        go_wp2_with fail
        go_roundw
        case rel => exact ⟨k + 1, HLK.out, by go_num, HFQ.out⟩
        case measure =>
         have := HLK.out
         simp [intOf] <;> omega
      · obtain rfl : l6.length = k := by omega
        clear hlk hk f6
        go_wp2_with fail
        go_roundw
        case rel => exact ⟨j + 1, HLT.out, by go_num, HF.out.trans HF6w.out⟩
        case measure =>
         have := HLT.out
         simp [intOf] <;> omega
  · obtain rfl : l.length = j := by omega
    have HF := hide fr
    clear fr hlt hj
    go_wp2
    go_ret
    exact ⟨rfl, HF.out⟩
theorem sc_all (x : G) : ∀ A l, (A, l) ∈ x.subs → SC l := by
 induction x using G.ind with
 | h c subs ih =>
  intro A l hm
  exact sc_row l fun y hy A' l' h' => ih A l hm y hy A' l' h'
theorem SameCode_eq (l : List G) : SC l := sc_row l fun y _ => sc_all y
end Go.Proofs.YtlejelbefmkakaaGreat

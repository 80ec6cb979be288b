/- Texts joined: Fm1, Im, Of0, Tr1, Ap1, Tr2b, H2, Th1, Ab. -/
import Derived.Test.YtlejelbefmkakaaGreatJn1
import Derived.Test.YtlejelbefmkakaaGreatJn2
import Derived.Test.YtlejelbefmkakaaGreatJn8
import Derived.Test.YtlejelbefmkakaaGreatJn10
import Derived.Test.YtlejelbefmkakaaGreatJn18
import Derived.Test.YtlejelbefmkakaaGreatJn26
import Derived.Test.YtlejelbefmkakaaGreatJn28
import Derived.Test.YtlejelbefmkakaaGreatJn34
import Derived.Sort.OwnSortedInts
import Derived.RangeFuncLeaves
import Derived.CallsIn
import Derived.RangeFuncNested
import Derived.OrdersIn
import Derived.RangeFuncBound
import Derived.RangeFuncCalls
import Derived.OwnWalkIn
import Derived.TacticsInMore
import Derived.LoopNIn
import Derived.LoopIn
import Derived.Sort.Grow
namespace Go.Proofs.YtlejelbefmkakaaGreat
open Go.RowKit
def subs (a : Nat) : List Nat := (List.range 64).filter fun s => s &&& a == s
def cntTo (a k : Nat) : Nat := (List.range k).foldl (fun n i => if a &&& 2 ^ i = 0 then n else n * 2) 1
theorem cntTo_succ (a k : Nat) : cntTo a (k + 1) = if a &&& 2 ^ k = 0 then cntTo a k else cntTo a k * 2 := by
 unfold cntTo
 rw [List.range_succ, List.foldl_append]
 rfl
theorem cnt_subs : ∀ a : Fin 64, (subs a.val).length = cntTo a.val 6 ∧ 1 ≤ cntTo a.val 6 ∧ cntTo a.val 6 ≤ 64 := by decide +kernel
theorem mem_subs {a s : Nat} : s ∈ subs a ↔ s < 64 ∧ s &&& a = s := by simp [subs]
theorem subs_nodup (a : Nat) : (subs a).Nodup := List.nodup_range.filter _
theorem and_sub (s a : Nat) : (s &&& a) &&& a = s &&& a := by rw [Nat.and_assoc, Nat.and_self]
theorem nodup_map_on {α β : Type} {f : α → β} {l : List α} (hn : l.Nodup) (hf : ∀ x ∈ l, ∀ y ∈ l, f x = f y → x = y) : (l.map f).Nodup := by
 induction l with
 | nil => simp
 | cons x l ih =>
  rw [List.nodup_cons] at hn
  rw [List.map_cons, List.nodup_cons]
  refine ⟨fun hm => ?_, ih hn.2 fun y hy z hz => hf y (by simp [hy]) z (by simp [hz])⟩
  obtain ⟨y, hy, he⟩ := List.mem_map.1 hm
  have := hf y (by simp [hy]) x (by simp) he
  subst this
  exact hn.1 hy
theorem count_sets {m : Gm} {t : Int} {L : List Int} {K : List Nat} (hn : L.Nodup) (hk : K.Nodup) (h1 : ∀ q ∈ L, ∃ u ∈ K, Is1 m q t u) (h2 : ∀ u ∈ K, ∃ q ∈ L, Is1 m q t u) (hone : ∀ p q u, Is1 m p t u → Is1 m q t u → p = q) (huniq : ∀ q u v, Is1 m q t u → Is1 m q t v → u = v) : L.length = K.length := by
 classical
 obtain ⟨f, hf⟩ : ∃ f : Nat → Int, ∀ u ∈ K, f u ∈ L ∧ Is1 m (f u) t u := by
  refine ⟨fun u => if h : ∃ q ∈ L, Is1 m q t u then h.choose else 0, fun u hu => ?_⟩
  have h := h2 u hu
  simp only [h, dite_true]
  exact h.choose_spec
 have hnd : (K.map f).Nodup := nodup_map_on hk fun u hu v hv e => huniq (f u) u v (hf u hu).2 (by rw [e]; exact (hf v hv).2)
 have hp : L.Perm (K.map f) := (List.perm_ext_iff_of_nodup hn hnd).2 fun q => ⟨fun hq => by
  obtain ⟨u, hu, hi⟩ := h1 q hq
  exact List.mem_map.2 ⟨u, hu, hone _ _ u (hf u hu).2 hi⟩, fun hq => by
  obtain ⟨u, hu, rfl⟩ := List.mem_map.1 hq
  exact (hf u hu).1⟩
 have := hp.length_eq
 simpa using this
end Go.Proofs.YtlejelbefmkakaaGreat

namespace Go.Proofs.YtlejelbefmkakaaGreat
open Go.RowKit
def iget {α : Type} (l : List (Int × α)) (r : Int) : Option α := (l.find? fun x => x.1 == r).map Prod.snd
def iput {α : Type} (l : List (Int × α)) (r : Int) (v : α) : List (Int × α) := if r ∈ l.map Prod.fst then l.map fun x => if x.1 = r then (r, v) else x else l ++ [(r, v)]
section
variable {α : Type} {l : List (Int × α)} {r q : Int} {v : α}
theorem iget_none : iget l r = none ↔ r ∉ l.map Prod.fst := by
 unfold iget
 rw [Option.map_eq_none_iff, List.find?_eq_none]
 simp only [List.mem_map, not_exists, not_and, beq_iff_eq]
theorem iget_some (h : iget l r = some v) : (r, v) ∈ l := by
 unfold iget at h
 obtain ⟨x, hx, rfl⟩ := Option.map_eq_some_iff.1 h
 have h1 : x.1 = r := by simpa using List.find?_some hx
 rw [← h1]
 exact List.mem_of_find?_eq_some hx
theorem iget_of (hn : (l.map Prod.fst).Nodup) (h : (r, v) ∈ l) : iget l r = some v := by
 cases hg : iget l r with
 | none => exact absurd (List.mem_map_of_mem h) (iget_none.1 hg)
 | some u =>
  have h1 := iget_some hg
  obtain ⟨i, hi, hxi⟩ := List.mem_iff_getElem.1 h
  obtain ⟨j, hj, hyj⟩ := List.mem_iff_getElem.1 h1
  have : i = j := by
   refine (List.getElem_inj (h₀ := by simpa using hi) (h₁ := by simpa using hj) hn).1 ?_
   simp [hxi, hyj]
  subst this
  rw [hxi] at hyj
  injection hyj with _ e
  rw [e]
theorem iput_keys : (iput l r v).map Prod.fst = if r ∈ l.map Prod.fst then l.map Prod.fst else l.map Prod.fst ++ [r] := by
 unfold iput
 split
 · rw [List.map_map]
   refine List.map_congr_left fun x _ => ?_
   simp only [Function.comp]
   split
   · rename_i h; exact h.symm
   · rfl
 · simp
theorem iput_nodup (h : (l.map Prod.fst).Nodup) : ((iput l r v).map Prod.fst).Nodup := by
 rw [iput_keys]
 split
 · exact h
 · rename_i hn
   exact List.nodup_append.2 ⟨h, by simp, fun a ha b hb => by simp only [List.mem_singleton] at hb; subst hb; rintro rfl; exact hn ha⟩
theorem iput_mem : q ∈ (iput l r v).map Prod.fst ↔ q = r ∨ q ∈ l.map Prod.fst := by
 rw [iput_keys]
 split
 · rename_i h
   exact ⟨.inr, fun h' => h'.elim (fun e => e ▸ h) id⟩
 · rw [List.mem_append, List.mem_singleton]
   exact Or.comm
end
def IMap {α : Type} (enc : α → Value) (W : World) (B : Nat) (l : List (Int × α)) : Prop :=
 ∃ es cl, W.heap[B]? = some (.map es cl) ∧ (es.toList.length = l.length ∧ ∀ (i : Nat) (e : MapEntry) (x : Int × α), es.toList[i]? = some e → l[i]? = some x → e.key = .int .i64 x.1 ∧ e.val = enc x.2) ∧ Stm es.toList cl ∧ (l.map Prod.fst).Nodup
section
variable {α : Type} {enc : α → Value} {W W' : World} {B : Nat} {l : List (Int × α)} {S : Nat → Prop} {t el kt : TypeId}
theorem IMap.fr (h : IMap enc W B l) (f : Fr S W W') (hs : ¬ S B) : IMap enc W' B l := by
 obtain ⟨es, cl, hm, he⟩ := h
 exact ⟨es, cl, (f.block _ (lt_of_heap hm) hs).trans hm, he⟩
theorem IMap.made (W : World) : IMap enc (W.alloc (.map #[] 0)) W.heap.size [] :=
 ⟨#[], 0, World.alloc_heap_new _ _, ⟨rfl, fun i e x h => by simp at h⟩, ⟨by simp, by simp⟩, by simp⟩
theorem imap_num {es : Array MapEntry} (h : es.toList.length = l.length ∧ ∀ (i : Nat) (e : MapEntry) (x : Int × α), es.toList[i]? = some e → l[i]? = some x → e.key = .int .i64 x.1 ∧ e.val = enc x.2) : ∀ e ∈ es.toList, ∃ x ∈ l, e.key = .int .i64 x.1 ∧ e.val = enc x.2 := fun e hm => by
 obtain ⟨i, hi, rfl⟩ := List.mem_iff_getElem.1 hm
 have hi' : i < l.length := by rw [← h.1]; exact hi
 exact ⟨l[i], List.getElem_mem hi', h.2 i _ _ (List.getElem?_eq_getElem hi) (List.getElem?_eq_getElem hi')⟩
theorem imap_at {es : Array MapEntry} (h : es.toList.length = l.length ∧ ∀ (i : Nat) (e : MapEntry) (x : Int × α), es.toList[i]? = some e → l[i]? = some x → e.key = .int .i64 x.1 ∧ e.val = enc x.2) (hn : (l.map Prod.fst).Nodup) {r : Int} {v : α} (hg : (r, v) ∈ l) :
 ∃ (i : Nat) (e : MapEntry), l[i]? = some (r, v) ∧ es.toList[i]? = some e ∧ e.key = .int .i64 r ∧ e.val = enc v ∧ ∀ (k : Nat) (e' : MapEntry), k < i → es.toList[k]? = some e' → e'.key ≠ .int .i64 r := by
 obtain ⟨i, hi, hxi⟩ := List.mem_iff_getElem.1 hg
 have hi' : i < es.toList.length := by rw [h.1]; exact hi
 obtain ⟨h1, h2⟩ := h.2 i _ _ (List.getElem?_eq_getElem hi') (List.getElem?_eq_getElem hi)
 rw [hxi] at h1 h2
 refine ⟨i, es.toList[i], by rw [List.getElem?_eq_getElem hi, hxi], List.getElem?_eq_getElem hi', h1, h2, fun k e' hk hek hkey => ?_⟩
 have hk' : k < l.length := by omega
 rw [(h.2 k e' _ hek (List.getElem?_eq_getElem hk')).1] at hkey
 simp only [Value.int.injEq, true_and] at hkey
 have : k = i := by
  refine (List.getElem_inj (h₀ := by simpa using hk') (h₁ := by simpa using hi) hn).1 ?_
  simp [hxi, hkey]
 omega
theorem imap_look (h : IMap enc W B l) (hk : Tryz.prog.underlying kt = some (.int .i64)) (ht : Tryz.prog.underlying t = some (.map kt el)) {z : Value} (hz : (zeroValue el).run Tryz.prog W = .ok z W) (n : Int) :
 (Instr.lookup t (.map (some B)) (.int .i64 n) false).run Tryz.prog W = .ok (((iget l n).map enc).getD z) W ∧
 (Instr.lookup t (.map (some B)) (.int .i64 n) true).run Tryz.prog W = .ok (match iget l n with | some v => .tuple #[enc v, .bool true] | none => .tuple #[z, .bool false]) W := by
 obtain ⟨es, cl, hm, he, hst, hn⟩ := h
 cases hg : iget l n with
 | none =>
  have hno := iget_none.1 hg
  have hl := look_num (o := none) hk ht hz n hm (fun _ e hmem => by
   obtain ⟨x, hx, hkx, -⟩ := imap_num he e hmem
   exact ⟨x.1, hkx, fun e' => hno (e' ▸ List.mem_map_of_mem hx)⟩) (fun j hj => by cases hj)
  rw [hl.1, hl.2]
  exact ⟨rfl, rfl⟩
 | some v =>
  obtain ⟨i, e, hli, hei, hke, hve, hbef⟩ := imap_at he hn (iget_some hg)
  have hl := look_num (o := some i) hk ht hz n hm (fun ho => by cases ho) (fun j hj => by
   simp only [Option.some.injEq] at hj
   subst hj
   exact ⟨e, hei, hke, fun e' hm' => by obtain ⟨x, _, hkx, _⟩ := imap_num he e' hm'; exact ⟨_, hkx⟩, hbef⟩)
  rw [hl.1, hl.2]
  constructor <;> simp only [Option.bind_some, hei, hve, Option.map_some, Option.getD_some]
theorem stays_num (n : Int) (w : World) : (Instr.keyThatStays (.int .i64 n) (.int .i64 n)).run Tryz.prog w = .ok (.int .i64 n) w := by
 have : Instr.sameBits 10000 (.int .i64 n) (.int .i64 n) = true := by simp [Instr.sameBits]
 simp [Instr.keyThatStays, this]
theorem imap_put (h : IMap enc W B l) (hk : Tryz.prog.underlying kt = some (.int .i64)) (ht : Tryz.prog.underlying t = some (.map kt el)) (n : Int) (v : α) :
 ∃ W', (Instr.mapUpdate t (.map (some B)) (.int .i64 n) (enc v)).run Tryz.prog W = .ok () W' ∧ IMap enc W' B (iput l n v) ∧ Fr (fun i => i = B) W W' := by
 obtain ⟨es, cl, hm, he, hst, hn⟩ := h
 have hB := lt_of_heap hm
 have hput : ∀ o, Fr (fun i => i = B) W (W.putObj B o) := fun o => ⟨rfl, rfl, rfl, by simp [World.putObj], fun b hb hn => by simp [World.putObj, Array.getElem?_setIfInBounds]; intro h; exact absurd h.symm hn⟩
 have hat : ∀ o, (W.putObj B o).heap[B]? = some o := fun o => World.putObj_heap_same hB
 by_cases hin : n ∈ l.map Prod.fst
 · obtain ⟨x, hx, rfl⟩ := List.mem_map.1 hin
   obtain ⟨i, e, hli, hei, hke, hve, hbef⟩ := imap_at he hn (r := x.1) (v := x.2) hx
   have hf := findNow_some (i := 0) (n := x.1) (fun e' hm' => by obtain ⟨y, _, hky, _⟩ := imap_num he e' hm'; exact ⟨_, hky⟩) hei hke hbef
   have hei' : es[i]? = some e := by simpa using hei
   refine ⟨_, ?_, ⟨es.modify i fun e => { e with key := .int .i64 x.1, val := enc v }, cl, hat _, ⟨?_, fun k e' y he' hy => ?_⟩, ?_, iput_nodup hn⟩, hput _⟩
   · unfold Instr.mapUpdate
     simp only [Sem.run_bind, run_underlying ht, Result.andThen_ok, get_map hm, checkKey_num hk, Instr.findKey, run_underlying hk, hf, Sem.run_pure, Nat.zero_add, hei', Option.map_some, Option.getD_some, hke, stays_num, set_map _ hm]
   · simp [iput, hin, he.1]
   · have hli' := (List.getElem?_eq_some_iff.1 hli).1
     simp only [iput, hin, if_true, List.getElem?_map, Option.map_eq_some_iff] at hy
     obtain ⟨y0, hy0, rfl⟩ := hy
     simp only [Array.getElem?_toList, Array.getElem?_modify] at he'
     by_cases hik : i = k
     · subst hik
       rw [if_pos rfl, hei'] at he'
       simp only [Option.map_some, Option.some.injEq] at he'
       subst he'
       rw [hli] at hy0
       injection hy0 with hy0
       subst hy0
       simp
     · rw [if_neg hik] at he'
       have hy1 : y0.1 ≠ x.1 := fun ee => hik (by
        obtain ⟨hk', hk2⟩ := List.getElem?_eq_some_iff.1 hy0
        obtain ⟨hi', hi2⟩ := List.getElem?_eq_some_iff.1 hli
        refine ((List.getElem_inj (h₀ := by simpa using hk') (h₁ := by simpa using hi') hn).1 ?_).symm
        simp [hk2, hi2, ee])
       have := he.2 k e' y0 (by simpa using he') hy0
       simpa [hy1] using this
   · refine ⟨fun e' hm' => ?_, ?_⟩
     · obtain ⟨k, hk', rfl⟩ := List.mem_iff_getElem.1 hm'
       have hk2 : k < es.toList.length := by simpa using hk'
       have hold := hst.1 _ (List.getElem_mem hk2)
       simp only [Array.getElem_toList, Array.getElem_modify]
       simp only [Array.getElem_toList] at hold
       split
       · exact hold
       · exact hold
     · have : ((es.modify i fun e => { e with key := .int .i64 x.1, val := enc v }).toList.map (·.born)) = es.toList.map (·.born) := by
        refine List.ext_getElem (by simp) fun k h1 h2 => ?_
        simp only [List.getElem_map, Array.getElem_toList, Array.getElem_modify]
        split <;> rfl
       rw [this]
       exact hst.2
 · have hnk : ∀ e ∈ es.toList, ∃ c : Int, e.key = .int .i64 c ∧ n ≠ c := fun e hmem => by
    obtain ⟨x, hx, hkx, -⟩ := imap_num he e hmem
    exact ⟨x.1, hkx, fun e' => hin (e' ▸ List.mem_map_of_mem hx)⟩
   refine ⟨_, update_num hk ht n (enc v) hm hnk, ⟨_, _, hat _, ⟨?_, fun k e' y he' hy => ?_⟩, ⟨fun e' hm' => ?_, ?_⟩, iput_nodup hn⟩, hput _⟩
   · have h1 := he.1
     simp only [Array.length_toList] at h1
     simp [iput, hin, h1]
   · have h1 := he.1
     simp only [iput, hin, if_false] at hy
     simp only [Array.toList_push] at he'
     rcases Nat.lt_trichotomy k l.length with hlt | rfl | hgt
     · rw [List.getElem?_append_left hlt] at hy
       rw [List.getElem?_append_left (by rw [h1]; exact hlt)] at he'
       exact he.2 k e' y he' hy
     · simp at hy
       rw [List.getElem?_append_right (by omega), h1] at he'
       simp at he'
       subst hy he'
       exact ⟨rfl, rfl⟩
     · rw [List.getElem?_eq_none (by simp; omega)] at hy
       cases hy
   · simp only [Array.toList_push, List.mem_append, List.mem_singleton] at hm'
     rcases hm' with hm' | rfl
     · have := hst.1 e' hm'; omega
     · simp
   · simp only [Array.toList_push, List.map_append, List.map_cons, List.map_nil]
     refine List.nodup_append.2 ⟨hst.2, by simp, fun a ha b hb => ?_⟩
     simp only [List.mem_singleton] at hb
     subst hb
     obtain ⟨e', he', rfl⟩ := List.mem_map.1 ha
     have := hst.1 e' he'
     omega
end
end Go.Proofs.YtlejelbefmkakaaGreat

namespace Go.Proofs.YtlejelbefmkakaaGreat
open Go.RowKit
set_option maxRecDepth 100000 in
theorem len64_zero (W : World) : Calls Tryz.prog 228 #[.int .u64 0] W fun e w' => e = .returned (.int .i64 0) ∧ w' = W := by
 go_enter Tryz.func228, Tryz.ntmps228
 go_wp2
 go_ret
 exact ⟨by kernel_rfl, rfl⟩
theorem len_zero (W : World) : Calls Tryz.prog 167 #[.int .u64 0] W fun e w' => e = .returned (.int .i64 0) ∧ w' = W := by
 have H := hide len64_zero
 go_enter Tryz.func167, Tryz.ntmps167
 go_wp2_with fail
 refine (H.out W).mono ?_
 rintro e w' ⟨rfl, rfl⟩
 go_wp2
 go_ret
 exact ⟨rfl, rfl⟩
theorem insSort_nil (f : Value) (W : World) : Calls Tryz.prog 243 #[.slice none 0 0, .int .i64 0, .int .i64 0, f] W fun e w' => e = .returned (.tuple #[]) ∧ w' = W := by
 go_enter Tryz.func243, Tryz.ntmps243
 go_wp2_with fail
 refine wp_loop_rounds 1 ?_
 rw [rounds_succ]
 go_wp2
 go_end0
 exact ⟨rfl, rfl⟩
set_option maxRecDepth 100000 in
theorem pdq_nil (f : Value) (W : World) : Calls Tryz.prog 196 #[.slice none 0 0, .int .i64 0, .int .i64 0, .int .i64 0, f] W fun e w' => e = .returned (.tuple #[]) ∧ w' = W := by
 have H := hide fun f W => insSort_nil f W
 go_enter Tryz.func196, Tryz.ntmps196
 go_wp2_with fail
 refine wp_loop_rounds 1 ?_
 rw [rounds_succ]
 go_wp2_with fail
 refine (H.out f W).mono ?_
 rintro e w' ⟨rfl, rfl⟩
 go_wp2
 refine bodyPost_ret (results_none rfl _ _ _) rfl ?_
 exact ⟨rfl, rfl⟩
theorem sortFunc_nil (f : Value) (W : World) : Calls Tryz.prog 143 #[.slice none 0 0, f] W fun e w' => e = .returned (.tuple #[]) ∧ w' = W := by
 have HL := hide len_zero
 have HP := hide fun f W => pdq_nil f W
 go_enter Tryz.func143, Tryz.ntmps143
 go_wp2_with fail
 refine (HL.out W).mono ?_
 rintro e w' ⟨rfl, rfl⟩
 go_wp2_with fail
 refine (HP.out f w').mono ?_
 rintro e w' ⟨rfl, rfl⟩
 go_wp2
 go_end0
 exact ⟨rfl, rfl⟩
end Go.Proofs.YtlejelbefmkakaaGreat

namespace Go.Proofs.YtlejelbefmkakaaGreat
open Go.RowKit Go.Sort
def SortRefs : Prop := ∀ (blk cap : Nat) (zs : List Int) (w : World), Holds (Value.int .i64) w blk 0 zs.toArray → blk < w.heap.size → zs.length < 4611686018427387904 →
 Calls Tryz.prog 96 #[.slice (some ⟨blk, 0, none⟩) zs.length cap] w fun e w' => e = .returned (.tuple #[]) ∧ ∃ n os, w' = grow (putRow (Value.int .i64) (Sort.ahead w n) blk 0 (zs.mergeSort fun x y => decide (x ≤ y)).toArray) os
def Gm.refs (m : Gm) : List Int := (m.th.map Prod.fst).mergeSort fun x y => decide (x ≤ y)
structure RfI (m : Gm) (W : World) (cl rI : Nat) (es : Array MapEntry) (v : List Nat) (sl : Value) (L : List Int) (wr : World) : Prop where
 ri : RI m.M cl rI es v wr
 fr : Fr No W wr
 r0 : W.heap.size ≤ rI
 row : wr.ownsRow W.heap.size 22 1 sl L.length (refRow L)
 nn : ∃ g c, sl = .slice (some ⟨g, 0, none⟩) L.length c
 nod : L.Nodup
 mem : ∀ k : Int, k ∈ L ↔ ∃ (i : Nat) (x : Int × Nat × Tg), m.th[i]? = some x ∧ Seen es v i ∧ x.1 = k
theorem RfI.len {m : Gm} {W wr : World} {cl rI : Nat} {es : Array MapEntry} {v : List Nat} {sl : Value} {L : List Int} (h : RfI m W cl rI es v sl L wr) : L.length ≤ m.th.length := by
 have := nodup_le (k := m.th.map Prod.fst) h.nod fun k hk => by
  obtain ⟨i, x, hx, -, rfl⟩ := (h.mem k).1 hk
  exact List.mem_map_of_mem (List.mem_of_getElem? hx)
 simpa using this
theorem RfI.all {m : Gm} {W wr : World} {cl rI : Nat} {es : Array MapEntry} {v : List Nat} {sl : Value} {L : List Int} (h : RfI m W cl rI es v sl L wr) (hk : (m.th.map Prod.fst).Nodup) (hall : ∀ (i : Nat) (x : Int × Nat × Tg), m.th[i]? = some x → Seen es v i) : L.Perm (m.th.map Prod.fst) := by
 refine (List.perm_ext_iff_of_nodup h.nod hk).2 fun k => ⟨fun hm => ?_, fun hm => ?_⟩
 · obtain ⟨i, x, hx, -, rfl⟩ := (h.mem k).1 hm
   exact List.mem_map_of_mem (List.mem_of_getElem? hx)
 · obtain ⟨x, hx, rfl⟩ := List.mem_map.1 hm
   obtain ⟨i, hi, rfl⟩ := List.mem_iff_getElem.1 hx
   exact (h.mem _).2 ⟨i, _, List.getElem?_eq_getElem hi, hall i _ (List.getElem?_eq_getElem hi), rfl⟩
theorem sort_eq {L K : List Int} (h : L.Perm K) : (L.mergeSort fun x y => decide (x ≤ y)) = K.mergeSort fun x y => decide (x ≤ y) := by
 have s1 : ∀ M : List Int, (M.mergeSort fun x y => decide (x ≤ y)).Pairwise (fun a b => decide (a ≤ b) = true) := fun M => List.pairwise_mergeSort (fun a b c h1 h2 => by simp at *; omega) (fun a b => by simp; omega) M
 refine List.Perm.eq_of_pairwise (fun a b _ _ h1 h2 => by simp at h1 h2; omega) (s1 L) (s1 K) (((List.mergeSort_perm L _).trans h).trans (List.mergeSort_perm K _).symm)
def RefsOut (m : Gm) (W : World) (e : Ending) (w' : World) : Prop := ∃ v, e = .returned v ∧ w'.ownsRow W.heap.size 22 1 v m.refs.length (refRow m.refs) ∧ Fr No W w'
theorem ref_one {w : World} {g lo : Nat} {r : Int} (h : Blk w g 22 #[.int .i64 r]) (hl : lo ≤ g) : w.ownsRow lo 22 1 (.slice (some ⟨g, 0, none⟩) 1 1) ([r] : List Int).length (refRow [r]) :=
 ⟨by simp [refRow], .inr ⟨g, 1, #[.int .i64 r], rfl, hl, h, Nat.le_refl _, by unfold maxLen; omega, by simp, by simp [refRow]⟩⟩
theorem row_ne_it {w : World} {base : Nat} {v : Value} {n rI : Nat} {xs : List Value} {t : TypeId} (h : w.ownsRow base t 1 v n xs) {o : Option Nat} {c k : Nat} {a : Array Nat} (hi : w.heap[rI]? = some (.mapIter o c a k)) {q : Nat} (hq : v.ownBlock = some q) : q ≠ rI := by
 rintro rfl
 obtain ⟨cs, hb⟩ := owns_typed h hq
 unfold Blk at hb
 rw [hi] at hb
 cases hb
theorem sorted_row {w : World} {base g cap n : Nat} {os : Array Obj} {L K : List Int} (h : w.ownsRow base 22 1 (.slice (some ⟨g, 0, none⟩) L.length cap) L.length (refRow L)) (hp : L.Perm K) :
 (grow (putRow (Value.int .i64) (Sort.ahead w n) g 0 (L.mergeSort fun x y => decide (x ≤ y)).toArray) os).ownsRow base 22 1 (.slice (some ⟨g, 0, none⟩) L.length cap) (K.mergeSort fun x y => decide (x ≤ y)).length (refRow (K.mergeSort fun x y => decide (x ≤ y))) := by
 have hS : (L.mergeSort fun x y => decide (x ≤ y)) = K.mergeSort fun x y => decide (x ≤ y) := sort_eq hp
 have hl : (K.mergeSort fun x y => decide (x ≤ y)).length = L.length := by rw [← hS]; simp
 rw [hS]
 generalize (K.mergeSort fun x y => decide (x ≤ y)) = S at *
 rcases h.2 with ⟨h1, _⟩ | ⟨g', cap', cur, h1, hb, hg, hc, hm, hsz, hx⟩
 · cases h1
 · cases h1
   have := ownsRow_sortedI (n := n) (os := os) (ts := S) hl hb hg hc hm hsz
   rw [hl]
   exact this
theorem row_holds {w : World} {base g cap : Nat} {L : List Int} (h : w.ownsRow base 22 1 (.slice (some ⟨g, 0, none⟩) L.length cap) L.length (refRow L)) : Holds (Value.int .i64) w g 0 L.toArray ∧ g < w.heap.size := by
 rcases h.2 with ⟨h1, _⟩ | ⟨g', cap', cur, h1, hb, hg, hc, hm, hsz, hx⟩
 · cases h1
 · cases h1
   exact ⟨holds_of_blockI hg (by simpa [refRow] using hx), lt_of_heap hg⟩
theorem mk_refs (k : Nat) (hk : k ≤ 1000000) (w : World) : (Instr.makeSlice 54 (.int .i64 0) (.int .i64 (k : Int))).run Tryz.prog w = .ok (.slice (some ⟨w.heap.size, 0, none⟩) 0 k) (w.alloc (.cells (madeCells #[.int .i64 0] k) 22)) := by
 obtain ⟨i, hi, hzz⟩ := Option.map_eq_some_iff.1 ref_info
 simp only [Prod.mk.injEq] at hzz
 obtain ⟨hz, hs, hb⟩ := hzz
 have hr := run_make_rowN (P := Tryz.prog) 54 22 i (.int .i64 0) Tryz.underlying54 hi hz .i64 .i64 0 k (Nat.zero_le _) (by rw [hb]; omega) (by omega) w
 rw [hs, Nat.mul_one] at hr
 exact hr
theorem RfI.step {m : Gm} {W wr : World} {cl rI : Nat} {es : Array MapEntry} {v : List Nat} {sl : Value} {L : List Int} (inv : RfI m W cl rI es v sl L wr) (hkeys : (m.th.map Prod.fst).Nodup) {i b : Nat} {x : Int × Nat × Tg} {W3 W4 : World} {sl' : Value} (hx : m.th[i]? = some x) (hns : ¬ Seen es v i) (hseen : ∀ j, Seen es (v ++ [b]) j ↔ j = i ∨ Seen es v j)
 (ri : RI m.M cl rI es (v ++ [b]) W4) (F3 : Fr No W W3) (F4 : Fr No W3 W4 ∨ ∃ o, W3.grownBy W4 o ∧ ∀ q, o = some q → W.heap.size ≤ q) (row : W4.ownsRow W.heap.size 22 1 sl' (L ++ [x.1]).length (refRow (L ++ [x.1]))) : RfI m W cl rI es (v ++ [b]) sl' (L ++ [x.1]) W4 := by
 refine ⟨ri, ?_, inv.r0, row, ?_, ?_, fun k => ?_⟩
 · rcases F4 with h | ⟨o, h, ho⟩
   · exact F3.trans h
   · exact F3.trans' (fr_grownG h) fun q hq e => by
      have := ho q e.symm
      omega
 · obtain ⟨g, c, hv, -, -⟩ := row.form (by simp)
   exact ⟨g, c, hv⟩
 · refine List.nodup_append.2 ⟨inv.nod, by simp, fun a ha c hc => ?_⟩
   simp only [List.mem_singleton] at hc
   subst hc
   rintro rfl
   obtain ⟨j, y, hy, hs, he⟩ := (inv.mem _).1 ha
   refine hns ?_
   have : j = i := by
    obtain ⟨hj, hj'⟩ := List.getElem?_eq_some_iff.1 hy
    obtain ⟨hi, hi'⟩ := List.getElem?_eq_some_iff.1 hx
    refine (List.getElem_inj (h₀ := by simpa using hj) (h₁ := by simpa using hi) hkeys).1 ?_
    simp only [List.getElem_map]
    rw [hj', hi', he]
   rw [← this]
   exact hs
 · rw [List.mem_append, inv.mem, List.mem_singleton]
   constructor
   · rintro (⟨j, y, hy, hs, he⟩ | rfl)
     · exact ⟨j, y, hy, (hseen j).2 (.inr hs), he⟩
     · exact ⟨i, x, hx, (hseen i).2 (.inl rfl), rfl⟩
   · rintro ⟨j, y, hy, hs, he⟩
     rcases (hseen j).1 hs with rfl | hs
     · rw [hx] at hy
       injection hy with hy
       subst hy
       exact .inr he.symm
     · exact .inl ⟨j, y, hy, hs, he⟩
set_option maxRecDepth 100000 in
set_option maxHeartbeats 8000000 in
theorem refs_g {m : Gm} {lo : Nat} {W : World} (h : m.Ok lo W) (HSORT : Hid SortRefs) : Calls Tryz.prog 128 #[.pointer (some ⟨m.wb, 0, none⟩)] W (RefsOut m W) := by
 obtain ⟨es, cl, hm, hes, hst⟩ := h.things
 have c0 := gmap_cell h
 have q0 := h.blk.lt
 have hln : es.size = m.th.length := by have := hes.1; simpa using this
 have hlen := fun ty => run_len_map (P := Tryz.prog) (w := W) 34 ty m.M es cl (by kernel_rfl) hm
 rw [hln] at hlen
 have hmk := fun W' => mk_refs m.th.length h.len W'
 have fa : Fr No W (W.alloc (.cells (madeCells #[.int .i64 0] m.th.length) 22)) := (Fr.refl No W).alloc _
 have hrow0 : (W.alloc (.cells (madeCells #[.int .i64 0] m.th.length) 22)).ownsRow W.heap.size 22 1 (.slice (some ⟨W.heap.size, 0, none⟩) 0 m.th.length) ([] : List Int).length (refRow []) :=
  ⟨by simp [refRow], .inr ⟨W.heap.size, m.th.length, _, rfl, Nat.le_refl _, World.alloc_heap_new _ _, Nat.zero_le _, by have := h.len; unfold maxLen; omega, by simp [size_madeCells], by simp [refRow]⟩⟩
 have hm1 := (fa.block _ (lt_of_heap hm) fun h => h).trans hm
 have c1 := (fa.cell q0 fun h => h).trans c0
 have q1 := Nat.lt_of_lt_of_le q0 fa.size
 have HES := hide hes
 have HST := hide hst
 have HOK := hide h
 have HFA := hide fa
 have HROW0 := hide hrow0
 have HM1 := hide hm1
 clear hes hst h hln hm
 go_enter Tryz.func128, Tryz.ntmps128
 go_upto_region 2 with (fail)
 clear hlen hmk c0 q0
 generalize hW1 : World.alloc W _ = W1 at *
 have hrg := run_range_map (P := Tryz.prog) W1 34 22 185 m.M es cl Tryz.underlying34 HM1.out
 have f2 : Fr No W1 (W1.alloc (.mapIter (some m.M) cl #[] cl)) := (Fr.refl No W1).alloc _
 have HINV : Hid (RfI m W cl W1.heap.size es [] (.slice (some ⟨W.heap.size, 0, none⟩) 0 m.th.length) [] (W1.alloc (.mapIter (some m.M) cl #[] cl))) := hide ⟨⟨World.alloc_heap_new _ _, (f2.block _ (lt_of_heap HM1.out) fun h => h).trans HM1.out⟩, HFA.out.trans f2, HFA.out.size, owns_fr HROW0.out f2 fun _ _ h => h, ⟨_, _, rfl⟩, by simp, fun k => ⟨fun hk => (by cases hk), fun ⟨i, x, _, hs, _⟩ => absurd hs seen_nil⟩⟩
 generalize hrI : W1.heap.size = rI at *
 clear hW1 f2 HROW0
 go_wp2_with fail
 go_loopw [3, 4] (fun sl _ wr => ∃ v L, RfI m W cl rI es v sl L wr) (fun _ _ wr => (leftOf es (wr.iterSeen rI)).size)
 case atStart => exact ⟨[], [], HINV.out⟩
 case round =>
  obtain ⟨v, L, inv⟩ := hrel
  rcases ri_step inv.ri HES.out HST.out 0 with ⟨hall, hnx⟩ | ⟨i, b, x, W3, hx, hns, hseen, hnx, hent, F3, ri3, hsh⟩
  · have hperm := inv.all HOK.out.keys hall
    have hrow := inv.row
    have HF := hide inv.fr
    have HLN := hide (Nat.le_trans inv.len HOK.out.len)
    have HP := hide hperm
    obtain ⟨g, c, rfl⟩ := inv.nn
    have HROW := hide hrow
    have hso := HSORT.out g c L wr (row_holds hrow).1 (row_holds hrow).2 (by have := HLN.out; omega)
    have HSO := hide hso
    clear inv hall hrg HINV hperm hrow hso
    go_wp2_with fail
    refine HSO.out.mono ?_
    rintro e w' ⟨rfl, n, os, rfl⟩
    have hr2 := sorted_row (n := n) (os := os) HROW.out HP.out
    have hf2 := fr_grownG (grownBy_sortedI (w := wr) (g := g) (n := n) (os := os) (L.mergeSort fun x y => decide (x ≤ y)).toArray)
    have HR2 := hide hr2
    have HF2 : Hid (Fr No W (grow (putRow (Value.int .i64) (Sort.ahead wr n) g 0 (L.mergeSort fun x y => decide (x ≤ y)).toArray) os)) := hide (HF.out.trans' hf2 fun q hq e => by
     have e' : some q = some g := e
     have := (owns_lt HROW.out q e'.symm).1
     omega)
    clear hr2 hf2
    generalize grow _ _ = w2 at *
    go_wp2_with fail
    go_ret
    exact ⟨_, rfl, HR2.out, HF2.out⟩
  · obtain ⟨rx, gx, y⟩ := x
    simp only at hnx hent
    have F3' : Fr No W W3 := inv.fr.trans' F3 fun q hq h => by have h' : q = rI := h; have := inv.r0; omega
    have hrow3 := owns_fr inv.row F3 fun q hq h => row_ne_it inv.row inv.ri.it hq h
    have hfa := (Fr.refl No W3).alloc (.cells #[.int .i64 rx] 22)
    have hbl := Blk.new W3 22 #[.int .i64 rx]
    have hrow4 := owns_fr hrow3 hfa fun _ _ h => h
    have hone := ref_one (lo := W3.heap.size) hbl (Nat.le_refl _)
    have ri4 := ri3.fr hfa (fun h => h) (fun h => h)
    have hll := Nat.le_trans inv.len HOK.out.len
    have hs4 : W.heap.size ≤ (W3.alloc (.cells #[.int .i64 rx] 22)).heap.size := (F3'.trans hfa).size
    have HINV2 := hide inv
    have HX := hide hx
    have HNS := hide hns
    have HSEEN := hide hseen
    have HF3 := hide (F3'.trans hfa)
    have HRI4 := hide ri4
    have HRI3 := hide ri3
    have HROW4 := hide hrow4
    have HONE := hide hone
    have HSH := hide hsh
    have HLL := hide hll
    have HS4 := hide hs4
    clear hx hns hseen F3 F3' ri3 hsh hrow3 hfa hbl hrow4 hone ri4 inv hrg HINV hll hs4
    go_wp2_with (at_builtin; refine wpList_app_refs _ (by rfl) _ _ (by rfl) W.heap.size W3.heap.size u3 (.slice (some ⟨W3.heap.size, 0, none⟩) 1 1) L [rx] (by rfl) (by rfl) HROW4.out HONE.out (by simp; have := HLL.out; omega) HS4.out ?_; intro v' w' hown' hgr; have HOW := hide hown'; have HGR := hide hgr; clear hown' hgr)
    have hri5 : RI m.M cl rI es (v ++ [b]) w' := HRI4.out.fr (fr_grownG HGR.out) (fun e => row_ne_it HROW4.out HRI4.out.it (show _ = some rI from Eq.symm e) rfl) (fun e => by
     have e' := (owns_lt HROW4.out _ (show _ = some m.M from Eq.symm e)).1
     obtain ⟨es', cl', hm', -⟩ := HOK.out.things
     have := lt_of_heap hm'
     omega)
    have HRI5 := hide hri5
    clear hri5
    go_roundw
    case rel => exact ⟨v ++ [b], L ++ [rx], HINV2.out.step HOK.out.keys HX.out HNS.out HSEEN.out HRI5.out HF3.out (.inr ⟨_, HGR.out, fun q hq => (owns_lt HROW4.out q hq).1⟩) HOW.out⟩
    case measure =>
     have := HSH.out
     rw [HRI3.out.seen] at this
     rw [HRI5.out.seen]
     exact this
end Go.Proofs.YtlejelbefmkakaaGreat

namespace Go.Proofs.YtlejelbefmkakaaGreat
open Go.RowKit
theorem wpList_app1 {ops : Array Oper} {rest : List Oper} {o : Oper} {a : Act} {Q : Exit → Act → World → Prop} (w : World) (hgd : o.guard = none) (s x : Operand) (t e : TypeId)
 (ho : o.op = .call { callee := .builtin .append, args := #[s, x], argTypes := #[t, t] }) (ht : Tryz.prog.underlying t = some (.slice e)) (i0 : TypeInfo) (z : Value) (bytes : Nat) (hi : Tryz.prog.info? e = some i0) (hz : i0.zero = some z) (h4 : i0.size = 1) (h5 : i0.bytes = bytes) (hzs : z.cells.size = 1) (hb8 : bytes ≤ 16)
 (base g : Nat) (v : Value) (n : Nat) (xs : List Value) (y : Value) (hy : y.oneCell' = true) (hs : a.eval s = v) (hx : a.eval x = .slice (some ⟨g, 0, none⟩) 1 1) (hown : w.ownsRow base e 1 v n xs) (h2 : w.cell? ⟨g, 0, none⟩ = some y) (hl : n ≤ 1000000) (hb : base ≤ w.heap.size)
 (hK : ∀ g2 cap2 w', w'.ownsRow base e 1 (.slice (some ⟨g2, 0, none⟩) (n + 1) cap2) (n + 1) (xs ++ [y]) → w.grownBy w' v.ownBlock → (v.ownBlock = some g2 ∨ g2 = w.heap.size) → wpList Tryz.prog ops Q rest (a.put o.dst (.slice (some ⟨g2, 0, none⟩) (n + 1) cap2)) w') : wpList Tryz.prog ops Q (o :: rest) a w := by
 refine wpList_plain hgd fun K hK' => ?_
 obtain ⟨g2, cap2, w', hrun, hown', hgr, hat, hlt⟩ := run_append_lies (P := Tryz.prog) w t o.type base e i0 z 1 bytes ht hi hz h4 h5 hzs (by omega) v n xs hown ⟨g, 0, none⟩ 1 1 [y] (by simp)
  (fun j u hu => by
   have : j = 0 := by
    have := (List.getElem?_eq_some_iff.1 hu).1
    simp at this
    exact this
   subst this
   simp at hu
   subst hu
   exact h2) (fun u hu => by simp at hu; subst hu; exact hy) (by omega) (by unfold maxLen; omega) (by
    have : (n + 1) * bytes ≤ (n + 1) * 16 := Nat.mul_le_mul_left _ hb8
    omega) hb _ rfl
 unfold Oper.wp
 simp [execOp, ho, resolve, invoke, builtin, hs, hx, hrun, Result.andThen]
 exact hK' _ _ (hK g2 cap2 w' hown' hgr hat)
theorem kind_info : (Tryz.prog.info? 83).map (fun i => (i.zero, i.size, i.bytes)) = some (some (.int .u8 0), 1, 1) := by kernel_rfl
end Go.Proofs.YtlejelbefmkakaaGreat

namespace Go.Proofs.YtlejelbefmkakaaGreat
open Go.RowKit
def cutIdx (l : List Bool) : List Int := (l.zipIdx.filter fun x => x.1).map fun x => (x.2 : Int)
theorem cutIdx_step {l : List Bool} {j : Nat} {b : Bool} (h : l[j]? = some b) : cutIdx (l.take (j + 1)) = cutIdx (l.take j) ++ if b then [(j : Int)] else [] := by
 obtain ⟨hj, rfl⟩ := List.getElem?_eq_some_iff.1 h
 unfold cutIdx
 rw [List.take_succ_eq_append_getElem hj, List.zipIdx_append, List.filter_append, List.map_append]
 congr 1
 have : (l.take j).length = j := by rw [List.length_take]; omega
 rw [this]
 cases hb : l[j] <;> simp
theorem cutIdx_len (l : List Bool) : (cutIdx l).length ≤ l.length := by
 unfold cutIdx
 rw [List.length_map]
 exact Nat.le_trans (List.length_filter_le _ _) (by simp)
theorem step_app_ent {ops : Array Oper} {o : Oper} {a : Act} {w : World} {K : Act → World → Prop} {Q : Exit → Act → World → Prop} {E : Prop} (hgd : o.guard = none) (s x : Operand)
 (ho : o.op = .call { callee := .builtin .append, args := #[s, x], argTypes := #[69, 69] }) (base g : Nat) (v : Value) (l : List (Int × Tg)) (y : Int × Tg) (hs : a.eval s = v) (hx : a.eval x = .slice (some ⟨g, 0, none⟩) 1 1)
 (hown : w.ownsRow base 140 17 v l.length (entRow l)) (h2 : ∀ j u, (entC y)[j]? = some u → w.cell? ⟨g, j, none⟩ = some u) (hl : l.length ≤ 1000000) (hb : base ≤ w.heap.size)
 (hK : ∀ A c w', w'.ownsRow base 140 17 (.slice A (l.length + 1) c) (l.length + 1) (entRow (l ++ [y])) → w.grownBy w' v.ownBlock → K (a.put o.dst (.slice A (l.length + 1) c)) w') : if Region.wanted o (yielded ops a.tmps) = true then Oper.wp Tryz.prog o a w K Q else E := by
 have hw : Region.wanted o (yielded ops a.tmps) = true := by simp [Region.wanted, hgd]
 rw [if_pos hw]
 obtain ⟨v', w', hrun, h3, h4⟩ := run_app_ent w base g v l y hown h2 hl hb o.type
 obtain ⟨A, c, rfl⟩ := owns_form h3
 have e : (l ++ [y]).length = l.length + 1 := by simp
 rw [e] at h3 hrun
 unfold Oper.wp
 simp [execOp, ho, resolve, invoke, builtin, hs, hx, hrun, Result.andThen]
 exact hK A c w' h3 h4
structure TI (m : Gm) (W : World) (g3 : Nat) (B : Option Addr) (cB : Nat) (E : Option Addr) (cE : Nat) (K : List Int) (C : Option Addr) (cC : Nat) (L : List (Int × Tg)) (TA : Option Addr) (tc : Nat) (wr : World) : Prop where
 fr : Fr No W wr
 blk : Blk wr g3 71 #[.slice B m.par.length cB, .slice C K.length cC, .slice TA L.length tc, .int .i64 m.last, .slice E m.made.length cE]
 rB : wr.ownsRow W.heap.size 23 1 (.slice B m.par.length cB) m.par.length (refRow m.par)
 rC : wr.ownsRow W.heap.size 3 1 (.slice C K.length cC) K.length (refRow K)
 rT : wr.ownsRow W.heap.size 140 17 (.slice TA L.length tc) L.length (entRow L)
 rE : wr.ownsRow W.heap.size 3 1 (.slice E m.made.length cE) m.made.length (refRow m.made)
 st : ∀ x ∈ L, x.2.St wr W.heap.size
 sep : ∀ q, (Value.slice C K.length cC).ownBlock = some q → (Value.slice E m.made.length cE).ownBlock ≠ some q
 res : Blk wr W.heap.size 71 #[.slice none 0 0, .slice none 0 0, .slice none 0 0, .int .i64 0, .slice none 0 0]
 g0 : W.heap.size < g3
section
variable {m : Gm} {W wr w' : World} {g3 : Nat} {B : Option Addr} {cB : Nat} {E : Option Addr} {cE : Nat} {K : List Int} {C : Option Addr} {cC : Nat} {L : List (Int × Tg)} {TA : Option Addr} {tc : Nat}
theorem TI.no (h : TI m W g3 B cB E cE K C cC L TA tc wr) (f : Fr No wr w') : TI m W g3 B cB E cE K C cC L TA tc w' :=
 ⟨h.fr.trans f, h.blk.fr f fun h => h, owns_fr h.rB f fun _ _ h => h, owns_fr h.rC f fun _ _ h => h, owns_fr h.rT f fun _ _ h => h, owns_fr h.rE f fun _ _ h => h, fun x hx => (h.st x hx).fr f fun _ _ h => h, h.sep, h.res.fr f fun h => h, h.g0⟩
theorem st_typed {w : World} {lo g : Nat} {x : Tg} {t : TypeId} {cs : Array Value} (h : x.St w lo) (hb : Blk w g t cs) (ht : t ≠ 28 ∧ t ≠ 308 ∧ t ≠ 311 ∧ t ≠ 260 ∧ t ≠ 9) {b : Nat} (hx : x.Has b) : b ≠ g := by
 obtain ⟨e, cs', he, hbl⟩ := h.ty hx
 intro hbg
 subst hbg
 unfold Blk at hb hbl
 rw [hb] at hbl
 injection hbl with hbl
 injection hbl with _ e2 _
 subst e2
 rcases he with e | e | e | e | e
 · exact ht.1 e
 · exact ht.2.1 e
 · exact ht.2.2.1 e
 · exact ht.2.2.2.1 e
 · exact ht.2.2.2.2 e
theorem owns_blk_ne {w : World} {base g : Nat} {e t : TypeId} {size : Nat} {v : Value} {n : Nat} {xs : List Value} {cs : Array Value} (h : w.ownsRow base e size v n xs) (hb : Blk w g t cs) (hne : e ≠ t) {q : Nat} (hq : v.ownBlock = some q) : q ≠ g := by
 obtain ⟨cs', h'⟩ := owns_typed h hq
 exact Blk.ne_ h' hb hne
theorem owns_owns_ne {w : World} {base base' : Nat} {e e' : TypeId} {size size' : Nat} {v v' : Value} {n n' : Nat} {xs xs' : List Value} (h : w.ownsRow base e size v n xs) (h' : w.ownsRow base' e' size' v' n' xs') (hne : e ≠ e') {q : Nat} (hq : v.ownBlock = some q) : v'.ownBlock ≠ some q := fun hq' => by
 obtain ⟨cs, hb⟩ := owns_typed h' hq'
 exact owns_blk_ne h hb hne hq rfl
theorem TI.addC (h : TI m W g3 B cB E cE K C cC L TA tc wr) {x : Int} {C' : Option Addr} {cC' : Nat} {o : Obj} (hown : w'.ownsRow W.heap.size 3 1 (.slice C' (K.length + 1) cC') (K.length + 1) (refRow K ++ [.int .i64 x])) (hgr : (wr.alloc o).grownBy w' (Value.slice C K.length cC).ownBlock) (hat : (Value.slice C' (K.length + 1) cC').ownBlock = (Value.slice C K.length cC).ownBlock ∨ (Value.slice C' (K.length + 1) cC').ownBlock = some (wr.heap.size + 1)) :
 TI m W g3 B cB E cE (K ++ [x]) C' cC' L TA tc (w'.setCell ⟨g3, 1, none⟩ (.slice C' (K.length + 1) cC')) := by
 have e : (K ++ [x]).length = K.length + 1 := by simp
 have e2 : refRow (K ++ [x]) = refRow K ++ [.int .i64 x] := by simp [refRow]
 rw [← e, ← e2] at hown
 rw [← e] at hat ⊢
 have f1 : Fr (fun i => (Value.slice C K.length cC).ownBlock = some i) wr w' := ((Fr.refl (fun i => (Value.slice C K.length cC).ownBlock = some i) wr).alloc o).trans' (fr_grownG hgr) fun i _ h => h.symm
 have f2 : Fr (fun i => i = g3) w' (w'.setCell ⟨g3, 1, none⟩ (.slice C' (K ++ [x]).length cC')) := (Fr.refl (fun i => i = g3) w').set (fun _ => rfl) _
 have n0 : ∀ q, (Value.slice C K.length cC).ownBlock = some q → W.heap.size ≤ q ∧ q < wr.heap.size := fun q hq => owns_lt h.rC q hq
 have hg3 := h.blk.lt
 have hb' := (h.blk.fr f1 fun e => owns_blk_ne h.rC h.blk (by decide) e rfl).set_ 1 (.slice C' (K ++ [x]).length cC')
 have hb1 := h.blk.fr f1 fun e => owns_blk_ne h.rC h.blk (by decide) e rfl
 have hrB := owns_fr h.rB f1 fun q hq e => owns_owns_ne h.rB h.rC (by decide) hq e
 have hrT := owns_fr h.rT f1 fun q hq e => owns_owns_ne h.rT h.rC (by decide) hq e
 have hrE := owns_fr h.rE f1 fun q hq e => h.sep q e hq
 have hres := h.res.fr f1 fun e => owns_blk_ne h.rC h.res (by decide) e rfl
 refine ⟨(h.fr.trans' f1 fun i hi e => by have := (n0 i e).1; omega).trans' f2 fun i hi e => by have := h.g0; have e' : i = g3 := e; omega, by simpa using hb', owns_fr hrB f2 fun q hq e => owns_blk_ne hrB hb1 (by decide) hq e, owns_fr hown f2 fun q hq e => owns_blk_ne hown hb1 (by decide) hq e, owns_fr hrT f2 fun q hq e => owns_blk_ne hrT hb1 (by decide) hq e, owns_fr hrE f2 fun q hq e => owns_blk_ne hrE hb1 (by decide) hq e,
  fun y hy => ?_, fun q hq hqE => ?_, hres.fr f2 fun e => by have := h.g0; have e' : W.heap.size = g3 := e; omega, h.g0⟩
 · have hy1 := (h.st y hy).fr f1 fun b hb e => by
    obtain ⟨cs, hc⟩ := owns_typed h.rC e
    exact st_typed (h.st y hy) hc (by decide) hb rfl
   exact hy1.fr f2 fun b hb e => st_typed hy1 hb1 (by decide) hb e
 · have hqE' := owns_lt h.rE q hqE
   rcases hat with e | e
   · exact h.sep q (e ▸ hq) hqE
   · rw [hq] at e
     injection e with e
     omega
theorem TI.addT (h : TI m W g3 B cB E cE K C cC L TA tc wr) {x : Int × Tg} {T' : Option Addr} {tc' : Nat} {w2 : World} (f : Fr No wr w2) (hx : x.2.St w2 W.heap.size) (hown : w'.ownsRow W.heap.size 140 17 (.slice T' (L.length + 1) tc') (L.length + 1) (entRow (L ++ [x]))) (hgr : w2.grownBy w' (Value.slice TA L.length tc).ownBlock) :
 TI m W g3 B cB E cE K C cC (L ++ [x]) T' tc' (w'.setCell ⟨g3, 2, none⟩ (.slice T' (L.length + 1) tc')) := by
 have e : (L ++ [x]).length = L.length + 1 := by simp
 rw [← e] at hown ⊢
 replace h := h.no f
 have f1 : Fr (fun i => (Value.slice TA L.length tc).ownBlock = some i) w2 w' := (Fr.refl (fun i => (Value.slice TA L.length tc).ownBlock = some i) w2).trans' (fr_grownG hgr) fun i _ h => h.symm
 have f2 : Fr (fun i => i = g3) w' (w'.setCell ⟨g3, 2, none⟩ (.slice T' (L ++ [x]).length tc')) := (Fr.refl (fun i => i = g3) w').set (fun _ => rfl) _
 have n0 : ∀ q, (Value.slice TA L.length tc).ownBlock = some q → W.heap.size ≤ q ∧ q < w2.heap.size := fun q hq => owns_lt h.rT q hq
 have hb1 := h.blk.fr f1 fun e => owns_blk_ne h.rT h.blk (by decide) e rfl
 have hb' := hb1.set_ 2 (.slice T' (L ++ [x]).length tc')
 have hrB := owns_fr h.rB f1 fun q hq e => owns_owns_ne h.rB h.rT (by decide) hq e
 have hrC := owns_fr h.rC f1 fun q hq e => owns_owns_ne h.rC h.rT (by decide) hq e
 have hrE := owns_fr h.rE f1 fun q hq e => owns_owns_ne h.rE h.rT (by decide) hq e
 have hres := h.res.fr f1 fun e => owns_blk_ne h.rT h.res (by decide) e rfl
 refine ⟨(h.fr.trans' f1 fun i hi e => by have := (n0 i e).1; omega).trans' f2 fun i hi e => by have := h.g0; have e' : i = g3 := e; omega, by simpa using hb', owns_fr hrB f2 fun q hq e => owns_blk_ne hrB hb1 (by decide) hq e, owns_fr hrC f2 fun q hq e => owns_blk_ne hrC hb1 (by decide) hq e, owns_fr hown f2 fun q hq e => owns_blk_ne hown hb1 (by decide) hq e, owns_fr hrE f2 fun q hq e => owns_blk_ne hrE hb1 (by decide) hq e,
  fun y hy => ?_, h.sep, hres.fr f2 fun e => by have := h.g0; have e' : W.heap.size = g3 := e; omega, h.g0⟩
 have hone : ∀ y : Int × Tg, y.2.St w2 W.heap.size → y.2.St (w'.setCell ⟨g3, 2, none⟩ (.slice T' (L ++ [x]).length tc')) W.heap.size := fun y hy => by
  have hy1 := hy.fr f1 fun b hb e => by
   obtain ⟨cs, hc⟩ := owns_typed h.rT e
   exact st_typed hy hc (by decide) hb rfl
  exact hy1.fr f2 fun b hb e => st_typed hy1 hb1 (by decide) hb e
 rcases List.mem_append.1 hy with hy | hy
 · exact hone y (h.st y hy)
 · simp only [List.mem_singleton] at hy
   subst hy
   exact hone y hx
end
structure Told (m : Gm) (L : List (Int × Tg)) (k : Nat) : Prop where
 nums : L.map Prod.fst = m.refs.take k
 pl : ∀ x ∈ L, ∃ y, m.get x.1 = some y ∧ x.2.pl = y.2.pl
def TellP (m : Gm) (W : World) (e : Ending) (w' : World) : Prop :=
 ∃ (B : Option Addr) (cB : Nat) (C : Option Addr) (cC : Nat) (TA : Option Addr) (tc : Nat) (E : Option Addr) (cE : Nat) (L : List (Int × Tg)),
  e = .returned (.agg #[.slice B m.par.length cB, .slice C (cutIdx m.cut).length cC, .slice TA L.length tc, .int .i64 m.last, .slice E m.made.length cE]) ∧
  w'.ownsRow W.heap.size 23 1 (.slice B m.par.length cB) m.par.length (refRow m.par) ∧ w'.ownsRow W.heap.size 3 1 (.slice C (cutIdx m.cut).length cC) (cutIdx m.cut).length (refRow (cutIdx m.cut)) ∧
  w'.ownsRow W.heap.size 140 17 (.slice TA L.length tc) L.length (entRow L) ∧ w'.ownsRow W.heap.size 3 1 (.slice E m.made.length cE) m.made.length (refRow m.made) ∧ (∀ x ∈ L, x.2.St w' W.heap.size) ∧
  Told m L m.refs.length ∧ Fr No W w'
theorem ent_cells {w : World} {g : Nat} (x : Int × Tg) (h : Blk w g 140 (entC x).toArray) : ∀ j u, (entC x)[j]? = some u → w.cell? ⟨g, j, none⟩ = some u := fun j u hu => (h.cell j).trans (by simpa using hu)
theorem own_pl {x y : Tg} (hnum : y.kind = x.kind ∧ y.home = x.home ∧ y.n = x.n ∧ y.lost = x.lost ∧ y.ofr = x.ofr ∧ y.byr = x.byr ∧ y.set = x.set ∧ y.full = x.full) (h1 : y.v.v = x.v.v) (h2 : y.vs.map T.v = x.vs.map T.v) (h3 : y.code.map G.er = x.code.map G.er) (h4 : (y.names.map fun z => (z.1, z.2.v)) = x.names.map fun z => (z.1, z.2.v)) : y.pl = x.pl := by
 obtain ⟨a1, a2, a3, a4, a5, a6, a7, a8⟩ := hnum
 unfold Tg.pl
 simp only [TgV.mk.injEq]
 exact ⟨a1, a2, h1, h2, a3, a4, a5, a6, a7, a8, h3, h4⟩
theorem Told.add {m : Gm} {L : List (Int × Tg)} {j : Nat} (h : Told m L j) {r : Int} {z : Nat × Tg} {y : Tg} (hr : m.refs[j]? = some r) (hg : m.get r = some z) (hp : y.pl = z.2.pl) : Told m (L ++ [(r, y)]) (j + 1) := by
 refine ⟨?_, fun x hx => ?_⟩
 · rw [List.map_append, h.nums, List.take_add_one, hr]
   rfl
 · rcases List.mem_append.1 hx with hx | hx
   · exact h.pl x hx
   · simp only [List.mem_singleton] at hx
     subst hx
     exact ⟨z, hg, hp⟩
theorem Gm.refs_get {m : Gm} (hk : (m.th.map Prod.fst).Nodup) {j : Nat} {r : Int} (h : m.refs[j]? = some r) : ∃ z, m.get r = some z := by
 have hm : r ∈ m.th.map Prod.fst := by
  have := List.mem_of_getElem? h
  unfold Gm.refs at this
  exact (List.mergeSort_perm _ _).mem_iff.1 this
 obtain ⟨x, hx, rfl⟩ := List.mem_map.1 hm
 exact ⟨_, Gm.get_of hk hx⟩
theorem Gm.refs_length (m : Gm) : m.refs.length = m.th.length := by
 unfold Gm.refs
 rw [List.length_mergeSort, List.length_map]
section
variable {m : Gm} {W wr w7 w8 : World} {g3 : Nat} {B : Option Addr} {cB : Nat} {E : Option Addr} {cE : Nat} {K : List Int} {C : Option Addr} {cC : Nat} {L : List (Int × Tg)} {TA : Option Addr} {tc : Nat}
theorem TI.grown (h : TI m W g3 B cB E cE K C cC L TA tc wr) (f : Fr No wr w7) (hgr : w7.grownBy w8 (Value.slice TA L.length tc).ownBlock) :
 w8.cell? ⟨g3, 2, none⟩ = some (.slice TA L.length tc) ∧ w8.frozen? ⟨g3, 2, none⟩ = false ∧ g3 < w8.heap.size ∧ Fr No W w8 := by
 replace h := h.no f
 have f1 : Fr (fun i => (Value.slice TA L.length tc).ownBlock = some i) w7 w8 := (Fr.refl (fun i => (Value.slice TA L.length tc).ownBlock = some i) w7).trans' (fr_grownG hgr) fun i _ h => h.symm
 have hb := h.blk.fr f1 fun e => owns_blk_ne h.rT h.blk (by decide) e rfl
 exact ⟨hb.cell 2, hb.frozen 2, hb.lt, h.fr.trans' f1 fun i hi e => by have := (owns_lt h.rT i e).1; omega⟩
theorem TI.keepRow (h : TI m W g3 B cB E cE K C cC L TA tc wr) (f : Fr No wr w7) (hgr : w7.grownBy w8 (Value.slice TA L.length tc).ownBlock) {base n : Nat} {v u : Value} {xs : List Value} (ho : wr.ownsRow base 22 1 v n xs) : (w8.setCell ⟨g3, 2, none⟩ u).ownsRow base 22 1 v n xs := by
 replace h := h.no f
 have ho := owns_fr ho f fun _ _ h => h
 have f1 : Fr (fun i => (Value.slice TA L.length tc).ownBlock = some i) w7 w8 := (Fr.refl (fun i => (Value.slice TA L.length tc).ownBlock = some i) w7).trans' (fr_grownG hgr) fun i _ h => h.symm
 have hb := h.blk.fr f1 fun e => owns_blk_ne h.rT h.blk (by decide) e rfl
 have ho1 := owns_fr ho f1 fun q hq e => owns_owns_ne ho h.rT (by decide) hq e
 exact owns_fr ho1 ((Fr.refl (fun i => i = g3) w8).set (fun _ => rfl) _) fun q hq e => owns_blk_ne ho1 hb (by decide) hq e
end
theorem TI.grownC {m : Gm} {W wr w8 : World} {g3 : Nat} {B : Option Addr} {cB : Nat} {E : Option Addr} {cE : Nat} {K : List Int} {C : Option Addr} {cC : Nat} {L : List (Int × Tg)} {TA : Option Addr} {tc : Nat} {o : Obj} (h : TI m W g3 B cB E cE K C cC L TA tc wr) (hgr : (wr.alloc o).grownBy w8 (Value.slice C K.length cC).ownBlock) :
 w8.cell? ⟨g3, 1, none⟩ = some (.slice C K.length cC) ∧ w8.frozen? ⟨g3, 1, none⟩ = false ∧ g3 < w8.heap.size := by
 replace h := h.no ((Fr.refl No wr).alloc o)
 have f1 : Fr (fun i => (Value.slice C K.length cC).ownBlock = some i) (wr.alloc o) w8 := (Fr.refl (fun i => (Value.slice C K.length cC).ownBlock = some i) _).trans' (fr_grownG hgr) fun i _ h => h.symm
 have hb := h.blk.fr f1 fun e => owns_blk_ne h.rC h.blk (by decide) e rfl
 exact ⟨hb.cell 1, hb.frozen 1, hb.lt⟩
theorem TI.done {m : Gm} {W wr We : World} {g3 : Nat} {B : Option Addr} {cB : Nat} {E : Option Addr} {cE : Nat} {C : Option Addr} {cC : Nat} {L : List (Int × Tg)} {TA : Option Addr} {tc : Nat} (h : TI m W g3 B cB E cE (cutIdx m.cut) C cC L TA tc wr) (ht : Told m L m.refs.length) (f : Fr (fun i => i = W.heap.size) wr We) :
 TellP m W (.returned (.agg #[.slice B m.par.length cB, .slice C (cutIdx m.cut).length cC, .slice TA L.length tc, .int .i64 m.last, .slice E m.made.length cE])) We :=
 ⟨B, cB, C, cC, TA, tc, E, cE, L, rfl, owns_fr h.rB f fun q hq e => owns_blk_ne h.rB h.res (by decide) hq e, owns_fr h.rC f fun q hq e => owns_blk_ne h.rC h.res (by decide) hq e, owns_fr h.rT f fun q hq e => owns_blk_ne h.rT h.res (by decide) hq e, owns_fr h.rE f fun q hq e => owns_blk_ne h.rE h.res (by decide) hq e,
  fun x hx => (h.st x hx).fr f fun b hb e => st_typed (h.st x hx) h.res (by decide) hb e, ht, h.fr.trans' f fun i hi e => by have e' : i = W.heap.size := e; omega⟩
end Go.Proofs.YtlejelbefmkakaaGreat

namespace Go.Proofs.YtlejelbefmkakaaGreat
open Go.RowKit
theorem fr_putObjH (W : World) (l : Nat) (o : Obj) : Fr (fun i => i = l) W (W.putObj l o) :=
 (Fr.refl _ W).grown (grownBy_putObj' W l o) (fun k hk _ => by cases hk; rfl)
structure RK (l : Nat) (M B : Nat → Prop) (W1 W2 W' : World) : Prop where
 rec_ : W'.heap[l]? = W2.heap[l]?
 fr : Fr (fun i => M i ∨ B i ∨ i = l) W1 W'
def rpost {α : Type} (l : Nat) (I : List α → (Nat → Prop) → World → Prop) (Ix : Code → List α → (Nat → Prop) → World → Prop) (xs : List α) (M B : Nat → Prop) (W1 W2 : World) : Exit → Act → World → Prop
 | .normal, _, W' => RK l M B W1 W2 W' ∧ ∃ M', (∀ i, M' i → i < W1.heap.size → M i) ∧ I xs M' W'
 | .ret, _, W' => RK l M B W1 W2 W' ∧ ∃ M', (∀ i, M' i → i < W1.heap.size → M i) ∧ Ix .ret xs M' W'
 | .exit id, _, W' => RK l M B W1 W2 W' ∧ ∃ M', (∀ i, M' i → i < W1.heap.size → M i) ∧ Ix (.exit id) xs M' W'
 | .goto t, _, W' => RK l M B W1 W2 W' ∧ ∃ M', (∀ i, M' i → i < W1.heap.size → M i) ∧ Ix (.goto t) xs M' W'
 | .panic _, _, _ => False
 | .outgrown, _, _ => False
def Iter {α : Type} (P : Program) (gf : Nat) (lb : Array Value) (Ok : α → Array Value → (Nat → Prop) → World → Prop) (xs : List α) (Av : Nat → Prop) (w : World) : Prop :=
 ∀ (l : Nat) (J Jx : List α → (Nat → Prop) → World → Prop) (W : World) (M : Nat → Prop), Fr No w W → (∀ pre M W W', J pre M W → Fr No W W' → J pre M W') → (∀ pre M W, J pre M W → ∀ i, M i → i < W.heap.size) →
  (∀ pre M W1 x args B, J pre M W1 → pre ++ [x] <+: xs → Ok x args B W1 → (∀ i, B i → W.heap.size ≤ i ∧ i < W1.heap.size ∧ ¬ M i) → YieldAt Fence.wide 2 P l args W1 fun e W' =>
   ∃ M' : Nat → Prop, Fr (fun i => M i ∨ B i) W1 W' ∧ (∀ i, M' i → i < W1.heap.size → M i) ∧ ((e = .returned (.bool true) ∧ J (pre ++ [x]) M' W') ∨ (e = .returned (.bool false) ∧ Jx (pre ++ [x]) M' W'))) →
  (∀ i, M i → i < w.heap.size → ¬ Av i) → J [] M W →
  Calls P gf (#[.func (.yield l) #[] #[]] ++ lb) W fun e W' => (∃ v, e = .returned v) ∧ ∃ M' : Nat → Prop, Fr M W W' ∧ (∀ i, M' i → i < W.heap.size → M i) ∧ (J xs M' W' ∨ ∃ q, q <+: xs ∧ Jx q M' W')
theorem wp_rangeFunc_seq {α : Type} {P : Program} {g : Operand} {ps : Array Tmp} {assign body : Code} {Q : Exit → Act → World → Prop} {a : Act} {w : World} {gf : Nat} {lb : Array Value} (hg : a.eval g = .func (.func gf) #[] lb)
 (eg : ∀ args w, (callFunc gf args).run P w = .ok (.enter gf args) w) {xs : List α} {Ok : α → Array Value → (Nat → Prop) → World → Prop} (hps : ∀ x args B W, Ok x args B W → args.size = ps.size) {Av : Nat → Prop} (hiter : Iter P gf lb Ok xs Av w)
 (I : List α → (Nat → Prop) → World → Prop) (Ix : Code → List α → (Nat → Prop) → World → Prop)
 (hI : ∀ pre M W W' S, I pre M W → Fr S W W' → (∀ i, i < W.heap.size → S i → w.heap.size ≤ i ∧ ¬ M i) → I pre M W')
 (hIx : ∀ c pre M W W' S, Ix c pre M W → Fr S W W' → (∀ i, i < W.heap.size → S i → w.heap.size ≤ i ∧ ¬ M i) → Ix c pre M W')
 (hIlt : ∀ pre M W, I pre M W → ∀ i, M i → i < W.heap.size) (M0 : Nat → Prop) (h0 : I [] M0 w) (hM0 : ∀ i, M0 i → i < w.heap.size ∧ ¬ Av i)
 (Ax : α → Array Value → World → Act → World → Prop)
 (hassign : ∀ l x args B W1, Ok x args B W1 → ∀ K : Act → World → Prop, (∀ a' Wa, Fr No W1 Wa → Ax x args W1 a' Wa → K a' Wa) →
  assign.wpIn (Fence.wide.inRound l) 2 P (Exit.then K (fun _ _ _ => False)) { tmps := (ps.zip args).foldl (fun t (p, v) => t.setIfInBounds p v) a.tmps, defers := [] } W1)
 (hbody : ∀ l pre x args B M W1 a' Wa W2, I pre M W1 → pre ++ [x] <+: xs → Ok x args B W1 → (∀ i, B i → w.heap.size ≤ i ∧ i < W1.heap.size ∧ ¬ M i) → Fr No W1 Wa → Ax x args W1 a' Wa → l < W1.heap.size → ¬ M l → ¬ B l → w.heap.size ≤ l →
  Fr (fun i => i = l) Wa W2 → body.wpIn (Fence.wide.inRound l) 2 P (rpost l I Ix (pre ++ [x]) M B W1 W2) a' W2)
 (hdone : ∀ D W M', I xs M' W → Fr M0 w W → (∀ i, M' i → i < w.heap.size → M0 i) → w.heap.size ≤ D → W.heap[D]? = some (.deferred (some [])) → Q .normal { a with defers := { target := .collected D, args := #[] } :: a.defers } W)
 (hstop : ∀ D c q W M', q <+: xs → Ix c q M' W → Fr M0 w W → (∀ i, M' i → i < w.heap.size → M0 i) → w.heap.size ≤ D → W.heap[D]? = some (.deferred (some [])) → c.wp P Q { a with defers := { target := .collected D, args := #[] } :: a.defers } W) :
 (Code.rangeFunc g ps assign body).wp P Q a w := by
 refine (wpIn_wide (n := 3)).1 ?_
 refine wpIn_rangeFunc ?_
 intro fn hfn
 obtain ⟨rec, hrec⟩ : ∃ rec : LoopState → Option Code → Loop, rec = fun st pe => { state := st, pending := pe, fn, tmps := a.tmps, params := ps, assign, body, defers := w.heap.size } := ⟨_, rfl⟩
 obtain ⟨W1, hW1⟩ : ∃ W1, (w.alloc (.deferred (some []))).alloc (.loop (rec .ready none)) = W1 := ⟨_, rfl⟩
 have hL1 : W1.heap[w.heap.size + 1]? = some (.loop (rec .ready none)) := by
  rw [← hW1]; have := World.alloc_heap_new (w.alloc (.deferred (some []))) (.loop (rec .ready none)); rwa [World.size_alloc] at this
 have hK1 : W1.heap[w.heap.size]? = some (.deferred (some [])) := by
  rw [← hW1]; exact (Below.heap_alloc _ _ _ (by simp)).trans (World.alloc_heap_new w _)
 have hb1 : Fr No w W1 := by rw [← hW1]; exact ((Fr.refl No w).alloc _).alloc _
 have hz1 : W1.heap.size = w.heap.size + 1 + 1 := by rw [← hW1]; simp
 refine ⟨w.heap.size + 1, [{ target := .collected w.heap.size, args := #[] }], W1, { target := .fn (.func gf) lb, args := #[.func (.yield (w.heap.size + 1)) #[] #[]] }, W1, gf,
  #[.func (.yield (w.heap.size + 1)) #[] #[]] ++ lb, W1, ?_, ?_, ?_, ?_, (fun h => by cases h), ?_⟩
 · rw [← hW1, hrec]; exact run_enterLoop_outer _ _ _ _ _
 · simp only [resolve, hg]
   simp [go_sem]
 · intro f' _; trivial
 · simp [invoke, go_sem, eg]
 · obtain ⟨l, hl⟩ : ∃ l, w.heap.size + 1 = l := ⟨_, rfl⟩
   rw [hl] at hL1 ⊢
   have hJ0 : ∀ i, (M0 i ∨ i = l) → i < w.heap.size → ¬ Av i := fun i h hlt => by
    rcases h with h | h
    · exact (hM0 i h).2
    · omega
   have hcall := hiter l
    (fun pre Mj W => ∃ M : Nat → Prop, I pre M W ∧ (∀ i, Mj i ↔ (M i ∨ i = l)) ∧ ¬ M l ∧ ¬ M w.heap.size ∧ W.heap[l]? = some (.loop (rec .ready none)) ∧ W.heap[w.heap.size]? = some (.deferred (some [])))
    (fun pre Mj W => ∃ (M : Nat → Prop) (c : Code), Ix c pre M W ∧ (∀ i, Mj i ↔ (M i ∨ i = l)) ∧ ¬ M l ∧ ¬ M w.heap.size ∧ W.heap[l]? = some (.loop (rec .done (some c))) ∧ W.heap[w.heap.size]? = some (.deferred (some [])))
    W1 (fun i => M0 i ∨ i = l) hb1 ?hno ?hlt ?hround hJ0 ?h0
   case hno =>
    rintro pre Mj W W' ⟨M, hi, hm, hn1, hn2, hl1, hk1⟩ f
    exact ⟨M, hI _ _ _ _ No hi f (fun _ _ h => h.elim), hm, hn1, hn2, (f.block l (Array.getElem?_eq_some_iff.1 hl1).1 (fun h => h)).trans hl1, (f.block _ (Array.getElem?_eq_some_iff.1 hk1).1 (fun h => h)).trans hk1⟩
   case hlt =>
    rintro pre Mj W ⟨M, hi, hm, hn1, hn2, hl1, hk1⟩ i hji
    rcases (hm i).1 hji with h | rfl
    · exact hIlt _ _ _ hi i h
    · exact (Array.getElem?_eq_some_iff.1 hl1).1
   case h0 => exact ⟨M0, hI _ _ _ _ No h0 hb1 (fun _ _ h => h.elim), fun i => Iff.rfl, fun h => by have := (hM0 _ h).1; omega, fun h => by have := (hM0 _ h).1; omega, hL1, hK1⟩
   case hround =>
    rintro pre Mj W x args B ⟨M, hi, hm, hn1, hn2, hl1, hk1⟩ hlen hok hB
    have hll : l < W.heap.size := (Array.getElem?_eq_some_iff.1 hl1).1
    have hkl : w.heap.size < W.heap.size := (Array.getElem?_eq_some_iff.1 hk1).1
    have hBl : ¬ B l := fun h => (hB l h).2.2 ((hm l).2 (.inr rfl))
    have hBk : ¬ B w.heap.size := fun h => by have := (hB _ h).1; omega
    have hy := run_yield (P := P) (args := args) hl1 (by rw [hrec]; exact hps x args B W hok)
    rw [hrec] at hy
    refine ⟨fn, _, assign, body, hy, roundIn_of_wpIn hfn (hassign l x args B W hok _ ?_)⟩
    clear hy
    intro a' Wa fa hax
    have hla : Wa.heap[l]? = some (.loop (rec .ready none)) := (fa.block l hll (fun h => h)).trans hl1
    have hka : Wa.heap[w.heap.size]? = some (.deferred (some [])) := (fa.block _ hkl (fun h => h)).trans hk1
    have hlta : l < Wa.heap.size := (Array.getElem?_eq_some_iff.1 hla).1
    refine ⟨_, run_beginRound hla (by rw [hrec]), ?_⟩
    have hl2 : (Wa.putObj l (.loop { rec .ready none with state := .busy })).heap[l]? = some (.loop { rec .ready none with state := .busy }) := World.putObj_heap_same hlta
    refine wpIn_mono (hbody l pre x args B M W a' Wa _ hi hlen hok (fun i h => ⟨by have := (hB i h).1; omega, (hB i h).2.1, fun h' => (hB i h).2.2 ((hm i).2 (.inl h'))⟩) fa hax hll hn1 hBl (by omega) (fr_putObjH Wa l _)) ?_
    have fin : ∀ (jump : Option Code) (W3 : World), RK l M B W (Wa.putObj l (.loop { rec .ready none with state := .busy })) W3 →
     (Instr.endRound l jump).run P W3 = .ok (.bool jump.isNone) (W3.putObj l (.loop (rec (if jump.isNone then .ready else .done) jump))) ∧
     (W3.putObj l (.loop (rec (if jump.isNone then .ready else .done) jump))).heap[l]? = some (.loop (rec (if jump.isNone then .ready else .done) jump)) ∧
     (W3.putObj l (.loop (rec (if jump.isNone then .ready else .done) jump))).heap[w.heap.size]? = some (.deferred (some [])) ∧
     Fr (fun i => Mj i ∨ B i) W (W3.putObj l (.loop (rec (if jump.isNone then .ready else .done) jump))) := fun jump W3 hk3 => by
     have hl3 := hk3.rec_.trans hl2
     have hd3 : W3.heap[w.heap.size]? = some (.deferred (some [])) := (hk3.fr.block _ hkl (fun h => by rcases h with h | h | h; exact hn2 h; exact hBk h; omega)).trans hk1
     have := run_endRound (P := P) jump hl3
     rw [hrec] at this ⊢
     refine ⟨this, World.putObj_heap_same (Array.getElem?_eq_some_iff.1 hl3).1, (World.putObj_heap_other (by omega)).trans hd3, ?_⟩
     refine (hk3.fr.mono (S' := fun i => Mj i ∨ B i) fun i _ h => ?_).trans' (fr_putObjH W3 l _) fun i _ h => .inl ((hm i).2 (.inr h))
     rcases h with h | h | h
     · exact .inl ((hm i).2 (.inl h))
     · exact .inr h
     · exact .inl ((hm i).2 (.inr h))
    have hM' : ∀ M' : Nat → Prop, (∀ i, M' i → i < W.heap.size → M i) → ¬ M' l ∧ ¬ M' w.heap.size ∧ (∀ i, (M' i ∨ i = l) → i < W.heap.size → Mj i) := fun M' h =>
     ⟨fun h' => hn1 (h l h' hll), fun h' => hn2 (h _ h' hkl), fun i h' hlt => (hm i).2 (h'.imp (fun q => h i q hlt) id)⟩
    have hst : ∀ (M' : Nat → Prop) (W3 : World) (o : Obj), ¬ M' l → ∀ i, i < W3.heap.size → i = l → w.heap.size ≤ i ∧ ¬ M' i := fun M' W3 o h i _ e => by subst e; exact ⟨by omega, h⟩
    rintro e a3 W3 hp
    cases e with
    | normal =>
     obtain ⟨hk3, M', hsub, hi3⟩ := hp
     obtain ⟨hr, hl4, hk4, f4⟩ := fin none W3 hk3
     obtain ⟨q1, q2, q3⟩ := hM' M' hsub
     exact ⟨_, _, hr, fun i => M' i ∨ i = l, f4, q3, .inl ⟨rfl, M', hI _ _ _ _ _ hi3 (fr_putObjH W3 l _) (hst M' W3 (.deferred none) q1), fun i => Iff.rfl, q1, q2, hl4, hk4⟩⟩
    | ret =>
     obtain ⟨hk3, M', hsub, hi3⟩ := hp
     obtain ⟨hr, hl4, hk4, f4⟩ := fin (some .ret) W3 hk3
     obtain ⟨q1, q2, q3⟩ := hM' M' hsub
     exact ⟨_, _, hr, fun i => M' i ∨ i = l, f4, q3, .inr ⟨rfl, M', .ret, hIx _ _ _ _ _ _ hi3 (fr_putObjH W3 l _) (hst M' W3 (.deferred none) q1), fun i => Iff.rfl, q1, q2, hl4, hk4⟩⟩
    | exit id =>
     obtain ⟨hk3, M', hsub, hi3⟩ := hp
     obtain ⟨hr, hl4, hk4, f4⟩ := fin (some (.exit id)) W3 hk3
     obtain ⟨q1, q2, q3⟩ := hM' M' hsub
     exact ⟨_, _, hr, fun i => M' i ∨ i = l, f4, q3, .inr ⟨rfl, M', .exit id, hIx _ _ _ _ _ _ hi3 (fr_putObjH W3 l _) (hst M' W3 (.deferred none) q1), fun i => Iff.rfl, q1, q2, hl4, hk4⟩⟩
    | goto t =>
     obtain ⟨hk3, M', hsub, hi3⟩ := hp
     obtain ⟨hr, hl4, hk4, f4⟩ := fin (some (.goto t)) W3 hk3
     obtain ⟨q1, q2, q3⟩ := hM' M' hsub
     exact ⟨_, _, hr, fun i => M' i ∨ i = l, f4, q3, .inr ⟨rfl, M', .goto t, hIx _ _ _ _ _ _ hi3 (fr_putObjH W3 l _) (hst M' W3 (.deferred none) q1), fun i => Iff.rfl, q1, q2, hl4, hk4⟩⟩
    | panic ch => exact hp.elim
    | outgrown => exact hp.elim
   refine (callsIn_wide.2 hcall).mono ?_
   rintro e W2 ⟨⟨v, rfl⟩, Mj', f2, hsub, hJ⟩
   have hfin : ∀ o : Obj, Fr M0 w (W2.putObj l o) := fun o => by
    refine (hb1.no.trans' f2 fun i hi h => ?_).trans' (fr_putObjH W2 l o) fun i hi h => ?_
    · rcases h with h | h
      · exact h
      · omega
    · have h' : i = l := h; omega
   rcases hJ with ⟨M, hi, hm, hn1, hn2, hl2, hk2⟩ | ⟨q, hq, M, c, hi, hm, hn1, hn2, hl2, hk2⟩
   · refine ⟨none, _, by have := run_endLoop (P := P) hl2 (by rw [hrec]; simp); rw [hrec] at this; exact this, ?_⟩
     refine hdone _ _ M (hI _ _ _ _ _ hi (fr_putObjH W2 l _) (fun i _ e => by have e' : i = l := e; subst e'; exact ⟨by omega, hn1⟩)) (hfin _) (fun i h hlt => ?_) (Nat.le_refl _) ((World.putObj_heap_other (by omega)).trans hk2)
     rcases hsub i ((hm i).2 (.inl h)) (by omega) with h' | h'
     · exact h'
     · omega
   · refine ⟨some c, _, by have := run_endLoop (P := P) hl2 (by rw [hrec]; simp); rw [hrec] at this; exact this, ?_⟩
     refine wpIn_wide.2 (hstop _ _ q _ M hq (hIx _ _ _ _ _ _ hi (fr_putObjH W2 l _) (fun i _ e => by have e' : i = l := e; subst e'; exact ⟨by omega, hn1⟩)) (hfin _) (fun i h hlt => ?_) (Nat.le_refl _) ((World.putObj_heap_other (by omega)).trans hk2))
     rcases hsub i ((hm i).2 (.inl h)) (by omega) with h' | h'
     · exact h'
     · omega
end Go.Proofs.YtlejelbefmkakaaGreat

namespace Go.Proofs.YtlejelbefmkakaaGreat
open Go.RowKit
attribute [local go_sem] Oper.semAt_some
def Gm.rk (m : Gm) : List (Int × Int) := m.refs.map fun r => (r, m.kind r)
def OkT (x : Int × Int) (args : Array Value) (B : Nat → Prop) (_ : World) : Prop := args = #[.int .i64 x.1, .int .u8 x.2] ∧ ∀ i, ¬ B i
def kdRow (L : List Int) : List Value := L.map fun k => Value.int .u8 k
theorem Things_any (p : Option Addr) (w : World) : Calls Tryz.prog 51 #[.pointer p] w fun e w' => e = .returned (.func (.func 126) #[] #[.pointer (some ⟨w.heap.size, 0, none⟩)]) ∧ Blk w' w.heap.size 31 #[.pointer p] ∧ Fr No w w' := by
 go_enter Tryz.func51, Tryz.ntmps51
 go_wp2
 go_ret
 exact ⟨rfl, Blk.new w _ _, (Fr.refl No w).alloc _⟩
structure TgI (m : Gm) (W5 : World) (j : Nat) (A1 : Option Addr) (c1 : Nat) (A2 : Option Addr) (c2 : Nat) (wr : World) : Prop where
 fr : Fr No W5 wr
 r1 : wr.ownsRow W5.heap.size 22 1 (.slice A1 j c1) j (refRow (m.refs.take j))
 r2 : wr.ownsRow W5.heap.size 83 1 (.slice A2 j c2) j (kdRow ((m.refs.take j).map m.kind))
theorem TgI.step {m : Gm} {W5 wr w1 w2 : World} {j : Nat} {A1 : Option Addr} {c1 : Nat} {A2 : Option Addr} {c2 : Nat} {r : Int} {o o2 : Obj} (h : TgI m W5 j A1 c1 A2 c2 wr) (hr : m.refs[j]? = some r)
 {g1 n1 : Nat} (ho1 : w1.ownsRow W5.heap.size 22 1 (.slice (some ⟨g1, 0, none⟩) (j + 1) n1) (j + 1) (refRow (m.refs.take j) ++ [.int .i64 r])) (hg1 : (wr.alloc o).grownBy w1 (Value.slice A1 j c1).ownBlock)
 {g2 n2 : Nat} (ho2 : w2.ownsRow W5.heap.size 83 1 (.slice (some ⟨g2, 0, none⟩) (j + 1) n2) (j + 1) (kdRow ((m.refs.take j).map m.kind) ++ [.int .u8 (m.kind r)])) (hg2 : (w1.alloc o2).grownBy w2 (Value.slice A2 j c2).ownBlock) :
 TgI m W5 (j + 1) (some ⟨g1, 0, none⟩) n1 (some ⟨g2, 0, none⟩) n2 w2 := by
 have f1 : Fr (fun i => (Value.slice A1 j c1).ownBlock = some i) wr w1 := ((Fr.refl (fun i => (Value.slice A1 j c1).ownBlock = some i) wr).alloc o).trans' (fr_grownG hg1) fun i _ h => h.symm
 have f2 : Fr (fun i => (Value.slice A2 j c2).ownBlock = some i) w1 w2 := ((Fr.refl (fun i => (Value.slice A2 j c2).ownBlock = some i) w1).alloc o2).trans' (fr_grownG hg2) fun i _ h => h.symm
 have htk : m.refs.take (j + 1) = m.refs.take j ++ [r] := by rw [List.take_add_one, hr]; rfl
 have h2' := owns_fr h.r2 f1 fun q hq e => owns_owns_ne h.r2 h.r1 (by decide) hq e
 refine ⟨(h.fr.trans' f1 fun i hi e => by have := (owns_lt h.r1 i e).1; omega).trans' f2 fun i hi e => by have := (owns_lt h.r2 i e).1; omega, ?_, ?_⟩
 · rw [htk]
   have := owns_fr ho1 f2 fun q hq e => owns_owns_ne ho1 h2' (by decide) hq e
   simpa [refRow] using this
 · rw [htk]
   simpa [kdRow] using ho2
theorem TgI.after {m : Gm} {W5 wr w1 : World} {j : Nat} {A1 : Option Addr} {c1 : Nat} {A2 : Option Addr} {c2 : Nat} {o : Obj} (h : TgI m W5 j A1 c1 A2 c2 wr) (hg1 : (wr.alloc o).grownBy w1 (Value.slice A1 j c1).ownBlock) :
 Fr No W5 w1 ∧ w1.ownsRow W5.heap.size 83 1 (.slice A2 j c2) j (kdRow ((m.refs.take j).map m.kind)) ∧ W5.heap.size ≤ w1.heap.size := by
 have f1 : Fr (fun i => (Value.slice A1 j c1).ownBlock = some i) wr w1 := ((Fr.refl (fun i => (Value.slice A1 j c1).ownBlock = some i) wr).alloc o).trans' (fr_grownG hg1) fun i _ h => h.symm
 have hf := h.fr.trans' f1 fun i hi e => by have := (owns_lt h.r1 i e).1; omega
 exact ⟨hf, owns_fr h.r2 f1 fun q hq e => owns_owns_ne h.r2 h.r1 (by decide) hq e, hf.size⟩
structure TgJ (m : Gm) (J : List (Int × Int) → (Nat → Prop) → World → Prop) (W : World) (M : Nat → Prop) (base : Nat) (A1 : Option Addr) (c1 : Nat) (A2 : Option Addr) (c2 nr : Nat) (j : Nat) (Mj : Nat → Prop) (wr : World) : Prop where
 j : J (m.rk.take j) Mj wr
 fr : Fr M W wr
 sub : ∀ i, Mj i → i < W.heap.size → M i
 r1 : wr.ownsRow base 22 1 (.slice A1 nr c1) nr (refRow m.refs)
 r2 : wr.ownsRow base 83 1 (.slice A2 nr c2) nr (kdRow (m.refs.map m.kind))
 n1 : ∀ q, (Value.slice A1 nr c1).ownBlock = some q → ¬ Mj q
 n2 : ∀ q, (Value.slice A2 nr c2).ownBlock = some q → ¬ Mj q
theorem TgJ.next {m : Gm} {J0 J : List (Int × Int) → (Nat → Prop) → World → Prop} {W : World} {M : Nat → Prop} {base : Nat} {A1 : Option Addr} {c1 : Nat} {A2 : Option Addr} {c2 nr j k : Nat} {Mj M' : Nat → Prop} {wr w3 : World} (h : TgJ m J0 W M base A1 c1 A2 c2 nr j Mj wr) (hj : J (m.rk.take k) M' w3) (f : Fr (fun i => Mj i ∨ No i) wr w3) (hs : ∀ i, M' i → i < wr.heap.size → Mj i) : TgJ m J W M base A1 c1 A2 c2 nr k M' w3 := by
 have hW := h.fr.size
 refine ⟨hj, h.fr.trans' f fun i hi e => e.elim (fun e => h.sub i e hi) fun e => e.elim, fun i hi hlt => h.sub i (hs i hi (by omega)) hlt, owns_fr h.r1 f fun q hq e => e.elim (h.n1 q hq) fun e => e.elim, owns_fr h.r2 f fun q hq e => e.elim (h.n2 q hq) fun e => e.elim, fun q hq e => h.n1 q hq (hs q e (owns_lt h.r1 q hq).2), fun q hq e => h.n2 q hq (hs q e (owns_lt h.r2 q hq).2)⟩
set_option maxRecDepth 100000 in
set_option maxHeartbeats 8000000 in
theorem iterThings {m : Gm} {lo : Nat} {w : World} {b : Nat} (h : m.Ok lo w) (hb : Blk w b 31 #[.pointer (some ⟨m.wb, 0, none⟩)]) (HSORT : Hid SortRefs) : Iter Tryz.prog 126 #[.pointer (some ⟨b, 0, none⟩)] OkT m.rk (fun i => m.B i ∨ i = b) w := by
 intro l J Jx W M hf hno hlt hround hAv hJ
 obtain ⟨i0, hi0, hz0, hz1, hz2⟩ := info_parts ref_info
 obtain ⟨i1, hi1, hy0, hy1, hy2⟩ := info_parts kind_info
 have HOK := hide (h.no hf)
 have HBB := hide (hb.fr hf fun h => h)
 have HJ := hide hJ
 have HNO := hide hno
 have HLT := hide hlt
 have HRD := hide hround
 have HMW := hide (hlt _ _ _ hJ)
 have c0 : W.cell? ⟨b, 0, none⟩ = some (.pointer (some ⟨m.wb, 0, none⟩)) := HBB.out.cell 0
 have q0 := HBB.out.lt
 have hF := hide hf
 clear h hb hJ hno hlt hround hAv hf
 go_enter Tryz.func126, Tryz.ntmps126
 go_wp2_with fail
 refine (gnone_w HOK.out).mono ?_
 rintro e w' ⟨rfl, rfl⟩
 go_wp2_with fail
 refine (refs_g HOK.out HSORT).mono ?_
 rintro e w5 ⟨v5, rfl, hrow5, f5⟩
 obtain ⟨RA, rc, rfl⟩ := owns_form hrow5
 have HF5 := hide f5
 have HROW5 := hide hrow5
 have hrl : m.refs.length ≤ 1000000 := by rw [Gm.refs_length]; exact HOK.out.len
 obtain ⟨nr, hnr⟩ : ∃ n, m.refs.length = n := ⟨_, rfl⟩
 have hrow6 := hrow5
 rw [hnr] at hrl hrow6
 have HNR := hide hnr
 have HROW6 := hide hrow6
 have HTH : Hid (TgI m w5 0 none 0 none 0 w5) := hide ⟨Fr.refl _ _, World.ownsRow_nil _ _ _ _, World.ownsRow_nil _ _ _ _⟩
 rw [hnr]
 clear hrow5 hrow6 hnr c0 q0 f5
 go_wp2_with fail
 go_loopw [3, 4, 14] (fun sl sk i wr => ∃ (j : Nat) (A1 : Option Addr) (c1 : Nat) (A2 : Option Addr) (c2 : Nat), j ≤ nr ∧ i = .int .i64 j ∧ sl = .slice A1 j c1 ∧ sk = .slice A2 j c2 ∧ TgI m w5 j A1 c1 A2 c2 wr) (fun _ _ i _ => nr - (intOf i).toNat)
 case atStart => exact ⟨0, none, 0, none, 0, Nat.zero_le _, rfl, rfl, rfl, HTH.out⟩
 case round =>
  clear HTH
  obtain ⟨j, A1, c1, A2, c2, hj, rfl, rfl, rfl, inv⟩ := hrel
  by_cases hlt : j < nr
  · obtain ⟨rj, hrj⟩ : ∃ r, m.refs[j]? = some r := ⟨_, List.getElem?_eq_getElem (by rw [HNR.out]; exact hlt)⟩
    obtain ⟨⟨bx, x⟩, hget⟩ := Gm.refs_get HOK.out.keys hrj
    have hrr := owns_fr HROW6.out inv.fr fun _ _ h => h
    obtain ⟨gR, cR, hRA, hgR0, hgR1⟩ := hrr.form (by omega)
    simp only [Value.slice.injEq, true_and] at hRA
    obtain ⟨rfl, rfl⟩ := hRA
    have hxr : wr.cell? ⟨gR, j, none⟩ = some (.int .i64 rj) := by
     have := World.ownsRow.cells hrr (g := gR) rfl j (.int .i64 rj) (by simp [refRow, hrj])
     rwa [add_at, Nat.zero_add] at this
    have hgl := (owns_lt hrr gR rfl).2
    have hkd : m.kind rj = x.kind := by unfold Gm.kind; rw [hget]; rfl
    have hfa := (Fr.refl No wr).alloc (.cells #[.int .i64 rj] 22)
    have HA := hide ((Blk.new wr 22 #[.int .i64 rj]).cell 0)
    have HR1 := hide (owns_fr inv.r1 hfa fun _ _ h => h)
    have HSZ := hide (Nat.le_trans inv.fr.size hfa.size)
    have HINV := hide inv
    have HRJ := hide hrj
    have HLT2 := hide hlt
    have HKD := hide hkd
    have HAF := hide fun (w1 : World) (hg1 : (wr.alloc (.cells #[.int .i64 rj] 22)).grownBy w1 (Value.slice A1 j c1).ownBlock) => by
     obtain ⟨a1, a2, a3⟩ := inv.after hg1
     have hok := HOK.out.no (HF5.out.trans a1)
     have hb0 := HBB.out.fr (HF5.out.trans a1) fun h => h
     have hl := gook_thing hok rj
     rw [hget] at hl
     simp only [Option.map_some] at hl
     have hbx := hok.box _ (Gm.get_mem hget)
     have hc0 : w1.cell? ⟨bx, 0, none⟩ = some (.int .u8 (m.kind rj)) := by rw [hkd]; exact hbx.cell 0
     exact (And.intro (show w1.cell? ⟨b, 0, none⟩ = some (.pointer (some ⟨m.wb, 0, none⟩)) from hb0.cell 0) (And.intro hb0.lt (And.intro (gmap_cell hok) (And.intro hok.blk.lt (And.intro hl (And.intro hc0 (And.intro hbx.lt (And.intro a2 a3))))))))
    clear inv hrj hget hrr hfa hkd hj
    go_upto_region 7 with (at_builtin; refine wpList_app1 _ (by rfl) _ _ 54 22 (by rfl) Tryz.underlying54 i0 _ 8 hi0 hz0 hz1 hz2 (by rfl) (by omega) w5.heap.size wr.heap.size (.slice A1 j c1) j (refRow (m.refs.take j)) (.int .i64 rj) (by rfl) (by rfl) (by rfl) HR1.out HA.out (by omega) HSZ.out ?_; intro g1 n1 w1 hown1 hgr1 hat1; obtain ⟨d0, dq, e0, eq_, hl, k0, kq, hr2, hs1⟩ := HAF.out w1 hgr1; have HOW1 := hide hown1; have HGR1 := hide hgr1; have HR2 := hide hr2; have HS1 := hide hs1; clear hown1 hgr1 hat1 hr2 hs1 HAF HR1 HA HSZ hxr hgl)
    have HRD1 := hide ((Fr.refl No w1).alloc (.cells #[.int .u8 (m.kind rj)] 83))
    have HA2 := hide ((Blk.new w1 83 #[.int .u8 (m.kind rj)]).cell 0)
    have HRR2 := hide (owns_fr HR2.out HRD1.out fun _ _ h => h)
    have HSZ2 := hide (Nat.le_trans HS1.out HRD1.out.size)
    go_wp2_with (at_builtin; refine wpList_app1 _ (by rfl) _ _ 197 83 (by rfl) Tryz.underlying197 i1 _ 1 hi1 hy0 hy1 hy2 (by rfl) (by omega) w5.heap.size w1.heap.size (.slice A2 j c2) j (kdRow ((m.refs.take j).map m.kind)) (.int .u8 (m.kind rj)) (by rfl) (by rfl) (by rfl) HRR2.out HA2.out (by omega) HSZ2.out ?_; intro g2 n2 w2 hown2 hgr2 hat2; have HOW2 := hide hown2; have HGR2 := hide hgr2; clear hown2 hgr2 hat2 d0 dq e0 eq_ hl k0 kq)
    go_roundw
    case rel => exact ⟨j + 1, _, _, _, _, HLT2.out, by go_num, rfl, rfl, HINV.out.step HRJ.out HOW1.out HGR1.out HOW2.out HGR2.out⟩
    case measure =>
     have := HLT2.out
     simp [intOf] <;> omega
  · obtain rfl : nr = j := by omega
    have hr1 := inv.r1
    have hr2 := inv.r2
    have htk : m.refs.take nr = m.refs := by rw [← HNR.out, List.take_length]
    rw [htk] at hr1 hr2
    have f6 := HF5.out.trans inv.fr
    have hs6 := HF5.out.size
    have hM1 : ∀ q, (Value.slice A1 nr c1).ownBlock = some q → ¬ M q := fun q hq hM => by have := (owns_lt hr1 q hq).1; have := HMW.out q hM; omega
    have hM2 : ∀ q, (Value.slice A2 nr c2).ownBlock = some q → ¬ M q := fun q hq hM => by have := (owns_lt hr2 q hq).1; have := HMW.out q hM; omega
    have HTJ : Hid (TgJ m J w' M w5.heap.size A1 c1 A2 c2 nr 0 M wr) := hide ⟨HNO.out _ _ _ _ HJ.out f6, (f6.mono fun i _ h => h.elim), fun i h _ => h, hr1, hr2, hM1, hM2⟩
    have HRK : Hid (m.rk.length = nr) := hide (by unfold Gm.rk; rw [List.length_map]; exact HNR.out)
    have HB5 := hide (show w'.heap.size ≤ w5.heap.size from hs6)
    clear inv hr1 hr2 htk f6 hs6 hM1 hM2 hlt hj
    obtain ⟨wo, rfl⟩ : ∃ wo : World, wo = wr := ⟨_, rfl⟩
    go_wp2_with fail
    go_loopw [37] (fun i wr => ∃ (j : Nat) (Mj : Nat → Prop), j ≤ nr ∧ i = .int .i64 j ∧ TgJ m J w' M w5.heap.size A1 c1 A2 c2 nr j Mj wr) (fun i _ => nr - (intOf i).toNat)
    case atStart => exact ⟨0, M, Nat.zero_le _, rfl, HTJ.out⟩
    case round =>
     clear HTJ
     obtain ⟨j, Mj, hj, rfl, inv⟩ := hrel
     by_cases hlt : j < nr
     · obtain ⟨rj, hrj⟩ : ∃ r, m.refs[j]? = some r := ⟨_, List.getElem?_eq_getElem (by rw [HNR.out]; exact hlt)⟩
       have hrk : m.rk[j]? = some (rj, m.kind rj) := by unfold Gm.rk; rw [List.getElem?_map, hrj]; rfl
       have htk : m.rk.take (j + 1) = m.rk.take j ++ [(rj, m.kind rj)] := by rw [List.take_add_one, hrk]; rfl
       obtain ⟨g1, e1, hA1, hg10, hg11⟩ := inv.r1.form (by omega)
       simp only [Value.slice.injEq, true_and] at hA1
       obtain ⟨rfl, rfl⟩ := hA1
       obtain ⟨g2, e2, hA2, hg20, hg21⟩ := inv.r2.form (by omega)
       simp only [Value.slice.injEq, true_and] at hA2
       obtain ⟨rfl, rfl⟩ := hA2
       have x1 : wr.cell? ⟨g1, j, none⟩ = some (.int .i64 rj) := by
        have := World.ownsRow.cells inv.r1 (g := g1) rfl j (.int .i64 rj) (by simp [refRow, hrj])
        rwa [add_at, Nat.zero_add] at this
       have x2 : wr.cell? ⟨g2, j, none⟩ = some (.int .u8 (m.kind rj)) := by
        have := World.ownsRow.cells inv.r2 (g := g2) rfl j (.int .u8 (m.kind rj)) (by simp [kdRow, hrj])
        rwa [add_at, Nat.zero_add] at this
       have l1 := (owns_lt inv.r1 g1 rfl).2
       have l2 := (owns_lt inv.r2 g2 rfl).2
       obtain ⟨fn, tmps, assign, body, hy, hR⟩ := HRD.out (m.rk.take j) Mj wr (rj, m.kind rj) #[.int .i64 rj, .int .u8 (m.kind rj)] No inv.j (by rw [← htk]; exact List.take_prefix _ _) ⟨rfl, fun _ h => h⟩ (fun i h => h.elim)
       rw [← htk] at hR
       have HR := hide hR
       have HINV := hide inv
       have HLT3 := hide hlt
       have hlr := HNR.out
       clear hR inv hrj hrk htk hj hlr hg10 hg11 hg20 hg21 HNR
       refine (wpIn_wide (n := 3)).1 ?_
       gi_wp2
       refine HR.out.mono ?_
       rintro e w3 ⟨M', f3, hsub, hres⟩
       have HF3 := hide f3
       have HSUB := hide hsub
       have hcase : (e = .returned (.bool true) ∧ J (m.rk.take (j + 1)) M' w3) ∨ (e = .returned (.bool false) ∧ Jx (m.rk.take (j + 1)) M' w3) := hres
       clear f3 hsub hres
       rcases hcase with ⟨rfl, hj3⟩ | ⟨rfl, hj3⟩
       · have HJ3 := hide hj3
         clear hj3
         gi_wp2
         go_roundw
         case rel => exact ⟨j + 1, M', HLT3.out, by go_num, HINV.out.next HJ3.out HF3.out HSUB.out⟩
         case measure =>
          have := HLT3.out
          simp [intOf] <;> omega
       · have hfin := HINV.out.next (J := Jx) hj3 HF3.out HSUB.out
         have HFIN := hide hfin
         clear hfin hj3
         gi_wp2
         refine bodyPost_ret (results_none rfl _ _ _) rfl ?_
         exact ⟨⟨_, rfl⟩, M', HFIN.out.fr, HFIN.out.sub, .inr ⟨_, List.take_prefix _ _, HFIN.out.j⟩⟩
     · obtain rfl : nr = j := by omega
       have hjj := inv.j
       rw [show m.rk.take nr = m.rk by rw [← HRK.out, List.take_length]] at hjj
       have HJJ := hide hjj
       have HI1 := hide inv.fr
       have HI2 := hide inv.sub
       clear inv hjj hlt hj
       go_wp2
       go_end0
       exact ⟨⟨_, rfl⟩, Mj, HI1.out, HI2.out, .inl HJJ.out⟩
end Go.Proofs.YtlejelbefmkakaaGreat

namespace Go.Proofs.YtlejelbefmkakaaGreat
open Go.RowKit
structure Fdr (w w' : World) : Prop where
 fr : Fr No w w'
 drawn : w.drawn ≤ w'.drawn
theorem Fdr.refl (w : World) : Fdr w w := ⟨Fr.refl No w, Nat.le_refl _⟩
theorem Fdr.trans {a b c : World} (h : Fdr a b) (k : Fdr b c) : Fdr a c := ⟨h.fr.trans k.fr, Nat.le_trans h.drawn k.drawn⟩
theorem Fdr.alloc {a b : World} (h : Fdr a b) (o : Obj) : Fdr a (b.alloc o) := ⟨h.fr.alloc o, h.drawn⟩
theorem Fdr.drew {a b : World} (h : Fdr a b) : Fdr a b.drew := ⟨h.fr.drew, Nat.le_succ_of_le h.drawn⟩
theorem Fdr.eq {w w' : World} (h : Fdr w w') : ∃ q os, w' = Go.Sort.grow (w.drewN q) os := by
 refine ⟨w'.drawn - w.drawn, w'.heap.extract w.heap.size w'.heap.size, ?_⟩
 have h1 := h.fr.os
 have h2 := h.fr.tape
 have h3 := h.fr.output
 have h4 := h.fr.size
 have h5 := h.fr.block
 have h6 := h.drawn
 obtain ⟨heap, tape, drawn, os, output⟩ := w
 obtain ⟨heap', tape', drawn', os', output'⟩ := w'
 simp only at h1 h2 h3 h4 h5 h6
 subst h1 h2 h3
 unfold Go.Sort.grow World.drewN
 simp only [World.mk.injEq, true_and, and_true]
 refine ⟨?_, by omega⟩
 refine Array.ext (by simp; omega) fun i hi hi' => ?_
 rw [Array.getElem_append]
 split
 · rename_i hlt
   have := h5 i hlt (fun h => h)
   rw [Array.getElem?_eq_getElem hi, Array.getElem?_eq_getElem hlt] at this
   exact Option.some.inj this
 · rename_i hge
   simp only [Array.getElem_extract]
   congr 1
   omega
set_option maxRecDepth 100000 in
set_option maxHeartbeats 4000000 in
theorem canD_w (k : Int) (W : World) : Calls Tryz.prog 152 #[.int .u8 k] W fun e w' => e = .returned (.int .u8 (canN k : Int)) ∧ Fdr W w' := by
 by_cases h1 : k = 1
 · subst h1
   have hb := Blk.new W 24 #[.int .u8 1, .int .u8 2]
   have hf := (Fdr.refl W).alloc (.cells #[.int .u8 1, .int .u8 2] 24)
   have hj := Join2_w (a := 1) (b := 2) (by decide) (by decide) (hb.cell 0) (hb.cell 1) hb.lt
   have HJ := hide hj
   have HF := hide hf
   clear hb hf hj
   go_enter Tryz.func152, Tryz.ntmps152
   go_wp2_with fail
   refine HJ.out.mono ?_
   rintro e w' ⟨rfl, rfl⟩
   go_wp2
   go_ret
   exact ⟨rfl, HF.out⟩
 by_cases h2 : k = 2
 · subst h2
   have hb := Blk.new W 24 #[.int .u8 1, .int .u8 8]
   have hf := (Fdr.refl W).alloc (.cells #[.int .u8 1, .int .u8 8] 24)
   have hj := Join2_w (a := 1) (b := 8) (by decide) (by decide) (hb.cell 0) (hb.cell 1) hb.lt
   have HJ := hide hj
   have HF := hide hf
   clear hb hf hj
   go_enter Tryz.func152, Tryz.ntmps152
   go_wp2_with fail
   refine HJ.out.mono ?_
   rintro e w' ⟨rfl, rfl⟩
   go_wp2
   go_ret
   exact ⟨rfl, HF.out⟩
 by_cases h3 : k = 3
 · subst h3
   have hb := Blk.new W 24 #[.int .u8 1, .int .u8 8]
   have hf := (Fdr.refl W).alloc (.cells #[.int .u8 1, .int .u8 8] 24)
   have hj := Join2_w (a := 1) (b := 8) (by decide) (by decide) (hb.cell 0) (hb.cell 1) hb.lt
   have HJ := hide hj
   have HF := hide hf
   clear hb hf hj
   go_enter Tryz.func152, Tryz.ntmps152
   go_wp2_with fail
   refine HJ.out.mono ?_
   rintro e w' ⟨rfl, rfl⟩
   go_wp2
   go_ret
   exact ⟨rfl, HF.out⟩
 by_cases h4 : k = 4
 · subst h4
   have hb := Blk.new W 24 #[.int .u8 8, .int .u8 4]
   have hf := (Fdr.refl W).alloc (.cells #[.int .u8 8, .int .u8 4] 24)
   have hj := Join2_w (a := 8) (b := 4) (by decide) (by decide) (hb.cell 0) (hb.cell 1) hb.lt
   have HJ := hide hj
   have HF := hide hf
   clear hb hf hj
   go_enter Tryz.func152, Tryz.ntmps152
   go_wp2_with fail
   refine HJ.out.mono ?_
   rintro e w' ⟨rfl, rfl⟩
   go_wp2
   go_ret
   exact ⟨rfl, HF.out⟩
 by_cases h5 : k = 5
 · subst h5
   go_enter Tryz.func152, Tryz.ntmps152
   go_wp2
   go_ret
   exact ⟨rfl, Fdr.refl _⟩
 by_cases h6 : k = 6
 · subst h6
   go_enter Tryz.func152, Tryz.ntmps152
   go_wp2
   go_ret
   exact ⟨rfl, Fdr.refl _⟩
 by_cases h8 : k = 8
 · subst h8
   go_enter Tryz.func152, Tryz.ntmps152
   go_wp2
   go_ret
   exact ⟨rfl, Fdr.refl _⟩
 by_cases h12 : k = 12
 · subst h12
   go_enter Tryz.func152, Tryz.ntmps152
   go_wp2
   go_ret
   exact ⟨rfl, Fdr.refl _⟩
 by_cases h9 : k = 9
 · subst h9
   have hb := Blk.new W 24 #[.int .u8 1, .int .u8 4, .int .u8 8]
   have hf := (Fdr.refl W).alloc (.cells #[.int .u8 1, .int .u8 4, .int .u8 8] 24)
   have hj := Join3_w (a := 1) (b := 4) (c := 8) (by decide) (by decide) (by decide) (hb.cell 0) (hb.cell 1) (hb.cell 2) hb.lt
   have HJ := hide hj
   have HF := hide hf
   clear hb hf hj
   go_enter Tryz.func152, Tryz.ntmps152
   go_wp2_with fail
   refine HJ.out.mono ?_
   rintro e w' ⟨rfl, rfl⟩
   go_wp2
   go_ret
   exact ⟨rfl, HF.out⟩
 by_cases h10 : k = 10
 · subst h10
   go_enter Tryz.func152, Tryz.ntmps152
   go_wp2
   go_ret
   exact ⟨rfl, Fdr.refl _⟩
 by_cases h11 : k = 11
 · subst h11
   go_enter Tryz.func152, Tryz.ntmps152
   go_wp2
   go_ret
   exact ⟨rfl, Fdr.refl _⟩
 by_cases h13 : k = 13
 · subst h13
   have hb := Blk.new W 24 #[.int .u8 1, .int .u8 32]
   have hf := (Fdr.refl W).alloc (.cells #[.int .u8 1, .int .u8 32] 24)
   have hj := Join2_w (a := 1) (b := 32) (by decide) (by decide) (hb.cell 0) (hb.cell 1) hb.lt
   have HJ := hide hj
   have HF := hide hf
   clear hb hf hj
   go_enter Tryz.func152, Tryz.ntmps152
   go_wp2_with fail
   refine HJ.out.mono ?_
   rintro e w' ⟨rfl, rfl⟩
   go_wp2
   go_ret
   exact ⟨rfl, HF.out⟩
 have e1 : (k == 1) = false := by simpa using h1
 have e2 : (k == 2) = false := by simpa using h2
 have e3 : (k == 3) = false := by simpa using h3
 have e4 : (k == 4) = false := by simpa using h4
 have e5 : (k == 5) = false := by simpa using h5
 have e6 : (k == 6) = false := by simpa using h6
 have e8 : (k == 8) = false := by simpa using h8
 have e12 : (k == 12) = false := by simpa using h12
 have e9 : (k == 9) = false := by simpa using h9
 have e10 : (k == 10) = false := by simpa using h10
 have e11 : (k == 11) = false := by simpa using h11
 have e13 : (k == 13) = false := by simpa using h13
 have hn : canN k = 0 := by simp [canN, h1, h2, h3, h4, h5, h6, h8, h12, h9, h10, h11, h13]
 rw [hn]
 clear hn h1 h2 h3 h4 h5 h6 h8 h12 h9 h10 h11 h13
 go_enter Tryz.func152, Tryz.ntmps152
 go_wp2
 go_ret
 exact ⟨rfl, Fdr.refl _⟩
set_option maxRecDepth 100000 in
set_option maxHeartbeats 4000000 in
theorem AbleD_w {m : Gm} {lo : Nat} {W : World} (h : m.Ok lo W) {r : Int} {a : Nat} (ha : m.Abl r a) : Calls Tryz.prog 79 #[.pointer (some ⟨m.wb, 0, none⟩), .int .i64 r] W fun e w' => e = .returned (.int .u8 (a : Int)) ∧ Fdr W w' := by
 have HOK := hide h
 have HA := hide ha
 clear h ha
 go_enter Tryz.func79, Tryz.ntmps79
 go_wp2_with fail
 go_step3
 go_wp2_with fail
 go_step3
 go_wp2_with fail
 go_loopw [1, 5] (fun x sv wr => ∃ (rr : Int) (s b : Nat), x = .int .i64 rr ∧ sv = .int .u8 (s : Int) ∧ s < 64 ∧ m.Abl rr b ∧ s &&& b = a ∧ Fdr W wr) (fun x _ _ => m.hgt (intOf x))
 case atStart => exact ⟨r, 63, a, rfl, rfl, by decide, HA.out, and63 HA.out.lt, Fdr.refl _⟩
 case round =>
  obtain ⟨rr, s, b, rfl, rfl, hs, hab, hsb, f⟩ := hrel
  have hok := HOK.out.no f.fr
  have hI := gIs_w hok rr
  have hl := gook_thing hok rr
  have x2 := gmap_cell hok
  have xq := hok.blk.lt
  have HF := hide f
  cases hab with
  | base hg hk =>
   rename_i y
   obtain ⟨d0, -, -, -, -, -⟩ := gbox_at (hok.box _ (Gm.get_mem hg))
   have dq := (hok.box _ (Gm.get_mem hg)).lt
   rw [hg] at hI hl
   simp only [Option.map_some] at hl
   have hc := fun W' => canD_w y.2.kind W'
   have k14 : (y.2.kind == 14) = false := by simpa using hk.1
   have k15 : (y.2.kind == 15) = false := by simpa using hk.2.1
   have k16 : (y.2.kind == 16) = false := by simpa using hk.2.2
   have HI := hide hI
   have HC := hide hc
   have hlt := canN_lt y.2.kind
   have HLT := hide hlt
   have HSB := hide hsb
   have HS := hide hs
   generalize canN y.2.kind = cn at *
   generalize y.2.kind = kd at *
   clear hok hI hc f hk hg hlt hsb hs
   go_wp2_with fail
   refine HI.out.mono ?_
   rintro e w' ⟨rfl, rfl⟩
   go_wp2_with fail
   refine (HC.out w').mono ?_
   rintro e w1 ⟨rfl, f1⟩
   have hb := Blk.new w1 24 #[.int .u8 (s : Int), .int .u8 (cn : Int)]
   have hm := Meet2_w HS.out (Nat.lt_trans HLT.out (by decide)) (hb.cell 0) (hb.cell 1) hb.lt
   have HM := hide hm
   have HF1 := hide ((HF.out.trans f1).alloc (.cells #[.int .u8 (s : Int), .int .u8 (cn : Int)] 24))
   clear hb hm f1
   go_wp2_with fail
   refine HM.out.mono ?_
   rintro e w2 ⟨rfl, rfl⟩
   go_wp2
   rw [Exit.noGoto_ret]
   go_ret
   refine ⟨?_, HF1.out⟩
   rw [← HSB.out]
   rfl
  | facet hg hk hst ha' =>
   rename_i y t b'
   obtain ⟨d0, -, d10, -, d12, -⟩ := gbox_at (hok.box _ (Gm.get_mem hg))
   have dq := (hok.box _ (Gm.get_mem hg)).lt
   rw [hk] at d0
   rw [hst] at d12
   rw [hg] at hI hl
   simp only [Option.map_some] at hl
   have HI := hide hI
   have HOK1 := hide hok
   have HG := hide hg
   have HK := hide hk
   have HA' := hide ha'
   have HSB := hide hsb
   have HS := hide hs
   have ht : t < 256 := by
    have := (hok.st _ (Gm.get_mem hg)).inn.fit.set
    simp only at this
    rw [hst] at this
    omega
   clear hok hI f hk hg ha' hsb hs
   go_wp2_with fail
   refine HI.out.mono ?_
   rintro e w' ⟨rfl, rfl⟩
   have hb := Blk.new w' 24 #[.int .u8 (s : Int), .int .u8 (t : Int)]
   have hm := Meet2_w HS.out ht (hb.cell 0) (hb.cell 1) hb.lt
   have hf1 := (Fdr.refl w').alloc (.cells #[.int .u8 (s : Int), .int .u8 (t : Int)] 24)
   have e10 := (hf1.fr.cell dq fun h => h).trans d10
   have eq1 := Nat.lt_of_lt_of_le dq hf1.fr.size
   have HM := hide hm
   have HF1 := hide (HF.out.trans hf1)
   clear hb hm hf1
   go_wp2_with fail
   refine HM.out.mono ?_
   rintro e w2 ⟨rfl, rfl⟩
   go_wp2
   go_roundw
   case rel =>
    exact ⟨y.2.ofr, s &&& t, b', rfl, rfl, and_lt HS.out, HA'.out, by rw [Nat.and_assoc]; exact HSB.out, HF1.out⟩
   case measure =>
    obtain ⟨n, hn⟩ := HA'.out.hgt
    have e1 := Gm.hgt_eq hn
    have e2 := Gm.hgt_eq (Gm.Hgt.wrap HG.out (.inl HK.out) hn)
    simp [intOf, e1, e2]
  | pass hg hk ha' =>
   rename_i y
   obtain ⟨d0, -, d10, -, -, -⟩ := gbox_at (hok.box _ (Gm.get_mem hg))
   have dq := (hok.box _ (Gm.get_mem hg)).lt
   rw [hg] at hI hl
   simp only [Option.map_some] at hl
   have HI := hide hI
   have HG := hide hg
   have HK := hide hk
   have HA' := hide ha'
   have HSB := hide hsb
   have HS := hide hs
   have hmeas : m.hgt y.2.ofr < m.hgt rr := by
    obtain ⟨n, hn⟩ := ha'.hgt
    rw [Gm.hgt_eq hn, Gm.hgt_eq (Gm.Hgt.wrap hg (.inr hk) hn)]
    omega
   have HME := hide hmeas
   clear hok hI f hg ha' hsb hs hmeas
   rcases hk with hk | hk
   all_goals
    rw [hk] at d0
    clear hk
    go_wp2_with fail
    refine HI.out.mono ?_
    rintro e w' ⟨rfl, rfl⟩
    go_wp2
    go_roundw
    case rel => exact ⟨y.2.ofr, s, b, rfl, rfl, HS.out, HA'.out, HSB.out, HF.out⟩
    case measure =>
     have := HME.out
     simpa [intOf] using this
theorem AbleD_no {m : Gm} {lo : Nat} {W : World} (h : m.Ok lo W) {r : Int} (hr : m.get r = none) : Calls Tryz.prog 79 #[.pointer (some ⟨m.wb, 0, none⟩), .int .i64 r] W fun e w' => e = .returned (.int .u8 0) ∧ w' = W := by
 have hI := gIs_w h r
 rw [hr] at hI
 have HI := hide hI
 clear h hI hr
 go_enter Tryz.func79, Tryz.ntmps79
 go_wp2_with fail
 go_step3
 go_wp2_with fail
 go_step3
 go_wp2_with fail
 refine wp_loop_rounds 1 ?_
 rw [rounds_succ]
 go_wp2_with fail
 refine HI.out.mono ?_
 rintro e w' ⟨rfl, rfl⟩
 go_wp2
 rw [Exit.noGoto_ret]
 go_ret
 exact ⟨rfl, rfl⟩
end Go.Proofs.YtlejelbefmkakaaGreat

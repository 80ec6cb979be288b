/- key, Keys: whether a value's mark can be a key. -/
import Derived.Test.YtihjmipmjogpoaaK2
namespace Go.Proofs.Ytihjmipmjogpoaa
open Go.RowKit

theorem keys_ne2 (u : V) : u.keys = true → ∀ v, u.cmp v ≠ 2 := by
  induction u using V.ind with
  | h k n s l r ih =>
    intro hk v
    cases v with
    | mk k' n' s' l' r' =>
      rw [V.cmp_mk, cmpOf]
      by_cases hs : shp k (l.map V.cmp).length = shp k' l'.length
      · rw [if_pos hs]
        by_cases h3 : k = 3
        · subst h3
          rw [V.keys_mk, if_pos rfl] at hk
          simp at hk
          obtain ⟨hl, hall⟩ := hk
          obtain ⟨a, b, rfl⟩ := at2 hl
          rw [if_pos rfl]
          have hl' : l'.length = 2 := by
            unfold shp at hs
            by_cases h3' : k' = 3 <;> by_cases hl' : l'.length = 2 <;> simp [h3', hl'] at hs ⊢ <;> (repeat' split at hs) <;> omega
          obtain ⟨a', b', rfl⟩ := at2 hl'
          have ha := ih a (by simp) (hall a (by simp)) a'
          have hb := ih b (by simp) (hall b (by simp)) b'
          show (if a.cmp a' = 1 then b.cmp b' else a.cmp a') ≠ 2
          split <;> assumption
        · rw [if_neg h3]; split <;> decide
      · rw [if_neg hs]; decide

theorem cmp_self (u : V) : u.cmp u = if u.keys = true then 1 else 2 := by
  induction u using V.ind with
  | h k n s l r ih =>
    rw [V.cmp_mk, cmpOf]
    simp only [List.length_map, if_pos]
    rw [V.keys_mk]
    by_cases h3 : k = 3
    · subst h3
      simp only [if_pos]
      by_cases hl : l.length = 2
      · obtain ⟨a, b, rfl⟩ := at2 hl
        have ha := ih a (by simp)
        have hb := ih b (by simp)
        show (if a.cmp a = 1 then b.cmp b else a.cmp a) = _
        rw [ha, hb]
        cases hA : a.keys <;> cases hB : b.keys <;> simp [hA, hB]
      · have hp : pairCmp (l.map V.cmp) l = 2 := by
          match l, hl with
          | [], _ => rfl
          | [a], _ => rfl
          | [a, b], hl => simp at hl
          | a :: b :: c :: l, _ => rfl
        rw [hp]; simp [hl]
    · simp [h3, leafEq]

theorem zero_int (w : World) : (zeroValue 3).run Try.prog w = .ok (.int .i64 0) w := by kernel_rfl

theorem Fr.putObj {S : Nat → Prop} {a w : World} (h : Fr S a w) {B : Nat} (hB : B < a.heap.size → S B) (o : Obj) : Fr S a (w.putObj B o) :=
  ⟨h.os, h.tape, h.output, by simpa using h.size, fun i hi hn => (World.putObj_heap_other (by rintro rfl; exact hn (hB hi))).trans (h.block i hi hn)⟩

set_option maxRecDepth 10000 in
set_option maxHeartbeats 1000000 in
theorem key1_ok (a : Nat) (u : V) (t : TypeId) (x : Value) (hm : IsMk u (.iface t x)) (hd : u.dep ≤ 16) (hk : u.keys = true) (w : World) (ha : w.cell? ⟨a, 0, none⟩ = some (.iface t x)) (hlt : a < w.heap.size) :
    Calls Try.prog 135 #[.pointer (some ⟨a, 0, none⟩)] w fun e w' => e = .returned (.tuple #[]) ∧ Fr No w w' := by
  have hmm := @run_makeMap Try.prog
  have h0 : (w.alloc (.map #[] 0)).heap[w.heap.size]? = some (.map #[] 0) := World.alloc_heap_new w _
  have hc := (World.cell?_alloc_lt w (.map #[] 0) ⟨a, 0, none⟩ hlt).trans ha
  have fr0 := (Fr.refl No w).alloc (.map #[] 0)
  have hsz : (w.alloc (.map #[] 0)).heap.size = w.heap.size + 1 := by simp
  go_enter Try.func135, Try.ntmps135
  go_wp2_with fail
  generalize w.alloc (.map #[] 0) = W0 at *
  have h0' : W0.drew.heap[w.heap.size]? = some (.map #[] 0) := h0
  have hl1 := run_lookup_mark Try.underlying175 W0.drew (zero_int _) u _ hm hd hk false h0' (vs := []) ⟨rfl, by simp⟩ (by simp)
  have he1 := run_mapEntry_empty Try.underlying175 W0.drew (zero_int _) u _ hm hd hk h0'
  have g0 : (W0.drew.putObj w.heap.size (.map #[{ key := .iface t x, val := .int .i64 0, born := 0 }] 1)).heap[w.heap.size]? = some (.map #[{ key := .iface t x, val := .int .i64 0, born := 0 }] 1) := World.putObj_heap_same (by simp; omega)
  have fr1 : Fr No w (W0.drew.putObj w.heap.size (.map #[{ key := .iface t x, val := .int .i64 0, born := 0 }] 1)) := (fr0.drew).putObj (by omega) _
  have hc1 : (W0.drew.putObj w.heap.size (.map #[{ key := .iface t x, val := .int .i64 0, born := 0 }] 1)).cell? ⟨a, 0, none⟩ = some (.iface t x) := (fr1.cells a 0 hlt).trans ha
  generalize W0.drew.putObj w.heap.size (.map #[{ key := .iface t x, val := .int .i64 0, born := 0 }] 1) = W1 at *
  have hs := run_entryStore_one 175 W1 (.iface t x) (.int .i64 0) (.int .i64 1) g0
  have fr2 := fr1.putObj (B := w.heap.size) (by omega) (.map #[{ key := .iface t x, val := .int .i64 1, born := 0 }] 1)
  generalize W1.putObj w.heap.size (.map #[{ key := .iface t x, val := .int .i64 1, born := 0 }] 1) = W2 at *
  have hself : u.cmp u = 1 := by rw [cmp_self, if_pos hk]
  have hl2 := run_lookup_mark Try.underlying175 W1 (zero_int _) u _ hm hd hk false g0 (vs := [u]) ⟨rfl, by
    intro i e v he hv
    match i, he, hv with
    | 0, he, hv => simp at he hv; subst he hv; exact hm⟩ (by simp [hself])
  simp only [pos, found] at hl1
  simp [pos, hself, found] at hl2
  have hw1 : IntKind.i64.wrap 1 = 1 := by decide
  have HS := hide hself
  clear hself
  have HF := hide fr2
  clear fr2 fr1 fr0 g0 h0' h0
  go_region
  go_wp2
  go_end0
  exact ⟨rfl, HF.out⟩

set_option maxRecDepth 10000 in
set_option maxHeartbeats 1000000 in
theorem key1_row (a : Nat) (u : V) (t : TypeId) (x : Value) (hm : IsMk u (.iface t x)) (hd : u.dep ≤ 16) (hk : u.keys = false) (w : World) (ha : w.cell? ⟨a, 0, none⟩ = some (.iface t x)) (hlt : a < w.heap.size) :
    Calls Try.prog 135 #[.pointer (some ⟨a, 0, none⟩)] w fun e w' => ∃ ty pv, RunErr ty ∧ e = .panicked [{ v := .iface ty pv, recovered := false }] ∧ Fr No w w' := by
  have hmm := @run_makeMap Try.prog
  have h0 : (w.alloc (.map #[] 0)).heap[w.heap.size]? = some (.map #[] 0) := World.alloc_heap_new w _
  have hc := (World.cell?_alloc_lt w (.map #[] 0) ⟨a, 0, none⟩ hlt).trans ha
  have fr0 := (Fr.refl No w).alloc (.map #[] 0)
  have hsz : (w.alloc (.map #[] 0)).heap.size = w.heap.size + 1 := by simp
  go_enter Try.func135, Try.ntmps135
  go_wp2_with fail
  generalize w.alloc (.map #[] 0) = W0 at *
  have h0' : W0.drew.heap[w.heap.size]? = some (.map #[] 0) := h0
  obtain ⟨t1, p1, ht1, hl1⟩ := run_lookup_row Try.underlying175 W0.drew u _ hm hd hk false h0'
  obtain ⟨t2, p2, ht2, he1⟩ := run_mapEntry_row Try.underlying175 W0.drew u _ hm hd hk h0'
  have hr : ∀ ty, ty = 10 ∨ ty = 19 → RunErr ty := by
    rintro ty (rfl | rfl)
    · exact assert10
    · exact assert19
  have r1 := hide (hr t1 ht1)
  have r2 := hide (hr t2 ht2)
  have HF := hide fr0.drew
  clear hr ht1 ht2 fr0 h0' h0
  refine wp_region_any (by kernel_rfl) ?_
  refine wpAny_ready (rs := [0, 1]) (by kernel_rfl) (by simp) (AllReady.cons rfl (fun K hK => ?_) (AllReady.cons rfl (fun K hK => ?_) AllReady.nil))
  · go_simp
    refine hK _ _ ?_
    refine wpAny_ready (rs := [1]) (by kernel_rfl) (by simp) (AllReady.cons rfl (fun K hK => ?_) AllReady.nil)
    go_simp
    refine hK _ _ ?_
    refine wpAny_ready (rs := [2, 4]) (by kernel_rfl) (by simp) (AllReady.cons rfl (fun K hK => ?_) (AllReady.cons rfl (fun K hK => ?_) AllReady.nil))
    · go_simp
      go_wp2
      exact ⟨rfl, t1, p1, r1.out, rfl, HF.out⟩
    · go_simp
      go_wp2
      exact ⟨rfl, t2, p2, r2.out, rfl, HF.out⟩
  · go_simp
    refine hK _ _ ?_
    refine wpAny_ready (rs := [0]) (by kernel_rfl) (by simp) (AllReady.cons rfl (fun K hK => ?_) AllReady.nil)
    go_simp
    refine hK _ _ ?_
    refine wpAny_ready (rs := [2, 4]) (by kernel_rfl) (by simp) (AllReady.cons rfl (fun K hK => ?_) (AllReady.cons rfl (fun K hK => ?_) AllReady.nil))
    · go_simp
      go_wp2
      exact ⟨rfl, t1, p1, r1.out, rfl, HF.out⟩
    · go_simp
      go_wp2
      exact ⟨rfl, t2, p2, r2.out, rfl, HF.out⟩

theorem key_any (u : V) (t : TypeId) (x : Value) (hm : IsMk u (.iface t x)) (hd : u.dep ≤ 16) (w : World) : Calls Try.prog 89 #[.iface t x] w fun e w' => e = .returned (.bool u.keys) ∧ Fr No w w' := by
  have hmf : ∀ (fn : Fn) (first cap : Array Value) (w : World), (Instr.makeFunc fn first cap).run Try.prog w = .ok (.func fn first cap) w := fun _ _ _ _ => rfl
  have c0 : ((w.alloc (.cells #[.iface t x] 45)).alloc (.cells #[.bool false] 4)).cell? ⟨w.heap.size, 0, none⟩ = some (.iface t x) := ((Blk.new w 45 #[.iface t x]).alloc _).cell 0
  cases hk : u.keys
  · have hcall := key_panic #[.pointer (some ⟨w.heap.size, 0, none⟩)] (w.alloc (.cells #[.iface t x] 45)) (key1_row w.heap.size u t x hm hd hk _ c0 (by simp; omega))
    have H := hide hcall
    clear hcall hk
    go_enter Try.func89, Try.ntmps89
    go_wp2_with fail
    refine H.out.mono ?_
    rintro e w2 ⟨rfl, fr⟩
    go_wp2
    go_ret
    exact ⟨rfl, ((Fr.refl No w).alloc _).trans fr⟩
  · have hcall := key_ret #[.pointer (some ⟨w.heap.size, 0, none⟩)] (w.alloc (.cells #[.iface t x] 45)) (key1_ok w.heap.size u t x hm hd hk _ c0 (by simp; omega))
    have H := hide hcall
    clear hcall hk
    go_enter Try.func89, Try.ntmps89
    go_wp2_with fail
    refine H.out.mono ?_
    rintro e w2 ⟨rfl, fr⟩
    go_wp2
    go_ret
    exact ⟨rfl, ((Fr.refl No w).alloc _).trans fr⟩

end Go.Proofs.Ytihjmipmjogpoaa

/- Texts joined: K3, V2, Tab, Tab2, Put, T2. -/
import Derived.Test.YtihjmipmjogpoaaJn2
/- key, Keys: whether a value's mark can be a key. -/
namespace Go.Proofs.Ytihjmipmjogpoaa
open Go.RowKit

theorem keys_ne2 (u : V) : u.keys = true → ∀ v, u.cmp v ≠ 2 := by
  induction u using V.ind with
  | h k n s l r ih =>
    intro hk v
    cases v with
    | mk k' n' s' l' r' =>
      rw [V.cmp_mk, cmpOf]
      by_cases hs : shp k (l.map V.cmp).length = shp k' l'.length
      · rw [if_pos hs]
        by_cases h3 : k = 3
        · subst h3
          rw [V.keys_mk, if_pos rfl] at hk
          simp at hk
          obtain ⟨hl, hall⟩ := hk
          obtain ⟨a, b, rfl⟩ := at2 hl
          rw [if_pos rfl]
          have hl' : l'.length = 2 := by
            unfold shp at hs
            by_cases h3' : k' = 3 <;> by_cases hl' : l'.length = 2 <;> simp [h3', hl'] at hs ⊢ <;> (repeat' split at hs) <;> omega
          obtain ⟨a', b', rfl⟩ := at2 hl'
          have ha := ih a (by simp) (hall a (by simp)) a'
          have hb := ih b (by simp) (hall b (by simp)) b'
          show (if a.cmp a' = 1 then b.cmp b' else a.cmp a') ≠ 2
          split <;> assumption
        · rw [if_neg h3]; split <;> decide
      · rw [if_neg hs]; decide

theorem cmp_self (u : V) : u.cmp u = if u.keys = true then 1 else 2 := by
  induction u using V.ind with
  | h k n s l r ih =>
    rw [V.cmp_mk, cmpOf]
    simp only [List.length_map, if_pos]
    rw [V.keys_mk]
    by_cases h3 : k = 3
    · subst h3
      simp only [if_pos]
      by_cases hl : l.length = 2
      · obtain ⟨a, b, rfl⟩ := at2 hl
        have ha := ih a (by simp)
        have hb := ih b (by simp)
        show (if a.cmp a = 1 then b.cmp b else a.cmp a) = _
        rw [ha, hb]
        cases hA : a.keys <;> cases hB : b.keys <;> simp [hA, hB]
      · have hp : pairCmp (l.map V.cmp) l = 2 := by
          match l, hl with
          | [], _ => rfl
          | [a], _ => rfl
          | [a, b], hl => simp at hl
          | a :: b :: c :: l, _ => rfl
        rw [hp]; simp [hl]
    · simp [h3, leafEq]

theorem zero_int (w : World) : (zeroValue 3).run Try.prog w = .ok (.int .i64 0) w := by kernel_rfl

theorem Fr.putObj {S : Nat → Prop} {a w : World} (h : Fr S a w) {B : Nat} (hB : B < a.heap.size → S B) (o : Obj) : Fr S a (w.putObj B o) :=
  ⟨h.os, h.tape, h.output, by simpa using h.size, fun i hi hn => (World.putObj_heap_other (by rintro rfl; exact hn (hB hi))).trans (h.block i hi hn)⟩

set_option maxRecDepth 10000 in
set_option maxHeartbeats 1000000 in
theorem key1_ok (a : Nat) (u : V) (t : TypeId) (x : Value) (hm : IsMk u (.iface t x)) (hd : u.dep ≤ 16) (hk : u.keys = true) (w : World) (ha : w.cell? ⟨a, 0, none⟩ = some (.iface t x)) (hlt : a < w.heap.size) :
    Calls Try.prog 135 #[.pointer (some ⟨a, 0, none⟩)] w fun e w' => e = .returned (.tuple #[]) ∧ Fr No w w' := by
  have hmm := @run_makeMap Try.prog
  have h0 : (w.alloc (.map #[] 0)).heap[w.heap.size]? = some (.map #[] 0) := World.alloc_heap_new w _
  have hc := (World.cell?_alloc_lt w (.map #[] 0) ⟨a, 0, none⟩ hlt).trans ha
  have fr0 := (Fr.refl No w).alloc (.map #[] 0)
  have hsz : (w.alloc (.map #[] 0)).heap.size = w.heap.size + 1 := by simp
  go_enter Try.func135, Try.ntmps135
  go_wp2_with fail
  generalize w.alloc (.map #[] 0) = W0 at *
  have h0' : W0.drew.heap[w.heap.size]? = some (.map #[] 0) := h0
  have hl1 := run_lookup_mark Try.underlying175 W0.drew (zero_int _) u _ hm hd hk false h0' (vs := []) ⟨rfl, by simp⟩ (by simp)
  have he1 := run_mapEntry_empty Try.underlying175 W0.drew (zero_int _) u _ hm hd hk h0'
  have g0 : (W0.drew.putObj w.heap.size (.map #[{ key := .iface t x, val := .int .i64 0, born := 0 }] 1)).heap[w.heap.size]? = some (.map #[{ key := .iface t x, val := .int .i64 0, born := 0 }] 1) := World.putObj_heap_same (by simp; omega)
  have fr1 : Fr No w (W0.drew.putObj w.heap.size (.map #[{ key := .iface t x, val := .int .i64 0, born := 0 }] 1)) := (fr0.drew).putObj (by omega) _
  have hc1 : (W0.drew.putObj w.heap.size (.map #[{ key := .iface t x, val := .int .i64 0, born := 0 }] 1)).cell? ⟨a, 0, none⟩ = some (.iface t x) := (fr1.cells a 0 hlt).trans ha
  generalize W0.drew.putObj w.heap.size (.map #[{ key := .iface t x, val := .int .i64 0, born := 0 }] 1) = W1 at *
  have hs := run_entryStore_one 175 W1 (.iface t x) (.int .i64 0) (.int .i64 1) g0
  have fr2 := fr1.putObj (B := w.heap.size) (by omega) (.map #[{ key := .iface t x, val := .int .i64 1, born := 0 }] 1)
  generalize W1.putObj w.heap.size (.map #[{ key := .iface t x, val := .int .i64 1, born := 0 }] 1) = W2 at *
  have hself : u.cmp u = 1 := by rw [cmp_self, if_pos hk]
  have hl2 := run_lookup_mark Try.underlying175 W1 (zero_int _) u _ hm hd hk false g0 (vs := [u]) ⟨rfl, by
    intro i e v he hv
    match i, he, hv with
    | 0, he, hv => simp at he hv; subst he hv; exact hm⟩ (by simp [hself])
  simp only [pos, found] at hl1
  simp [pos, hself, found] at hl2
  have hw1 : IntKind.i64.wrap 1 = 1 := by decide
  have HS := hide hself
  clear hself
  have HF := hide fr2
  clear fr2 fr1 fr0 g0 h0' h0
  go_region
  go_wp2
  go_end0
  exact ⟨rfl, HF.out⟩

set_option maxRecDepth 10000 in
set_option maxHeartbeats 1000000 in
theorem key1_row (a : Nat) (u : V) (t : TypeId) (x : Value) (hm : IsMk u (.iface t x)) (hd : u.dep ≤ 16) (hk : u.keys = false) (w : World) (ha : w.cell? ⟨a, 0, none⟩ = some (.iface t x)) (hlt : a < w.heap.size) :
    Calls Try.prog 135 #[.pointer (some ⟨a, 0, none⟩)] w fun e w' => ∃ ty pv, RunErr ty ∧ e = .panicked [{ v := .iface ty pv, recovered := false }] ∧ Fr No w w' := by
  have hmm := @run_makeMap Try.prog
  have h0 : (w.alloc (.map #[] 0)).heap[w.heap.size]? = some (.map #[] 0) := World.alloc_heap_new w _
  have hc := (World.cell?_alloc_lt w (.map #[] 0) ⟨a, 0, none⟩ hlt).trans ha
  have fr0 := (Fr.refl No w).alloc (.map #[] 0)
  have hsz : (w.alloc (.map #[] 0)).heap.size = w.heap.size + 1 := by simp
  go_enter Try.func135, Try.ntmps135
  go_wp2_with fail
  generalize w.alloc (.map #[] 0) = W0 at *
  have h0' : W0.drew.heap[w.heap.size]? = some (.map #[] 0) := h0
  obtain ⟨t1, p1, ht1, hl1⟩ := run_lookup_row Try.underlying175 W0.drew u _ hm hd hk false h0'
  obtain ⟨t2, p2, ht2, he1⟩ := run_mapEntry_row Try.underlying175 W0.drew u _ hm hd hk h0'
  have hr : ∀ ty, ty = 10 ∨ ty = 19 → RunErr ty := by
    rintro ty (rfl | rfl)
    · exact assert10
    · exact assert19
  have r1 := hide (hr t1 ht1)
  have r2 := hide (hr t2 ht2)
  have HF := hide fr0.drew
  clear hr ht1 ht2 fr0 h0' h0
  refine wp_region_any (by kernel_rfl) ?_
  refine wpAny_ready (rs := [0, 1]) (by kernel_rfl) (by simp) (AllReady.cons rfl (fun K hK => ?_) (AllReady.cons rfl (fun K hK => ?_) AllReady.nil))
  · go_simp
    refine hK _ _ ?_
    refine wpAny_ready (rs := [1]) (by kernel_rfl) (by simp) (AllReady.cons rfl (fun K hK => ?_) AllReady.nil)
    go_simp
    refine hK _ _ ?_
    refine wpAny_ready (rs := [2, 4]) (by kernel_rfl) (by simp) (AllReady.cons rfl (fun K hK => ?_) (AllReady.cons rfl (fun K hK => ?_) AllReady.nil))
    · go_simp
      go_wp2
      exact ⟨rfl, t1, p1, r1.out, rfl, HF.out⟩
    · go_simp
      go_wp2
      exact ⟨rfl, t2, p2, r2.out, rfl, HF.out⟩
  · go_simp
    refine hK _ _ ?_
    refine wpAny_ready (rs := [0]) (by kernel_rfl) (by simp) (AllReady.cons rfl (fun K hK => ?_) AllReady.nil)
    go_simp
    refine hK _ _ ?_
    refine wpAny_ready (rs := [2, 4]) (by kernel_rfl) (by simp) (AllReady.cons rfl (fun K hK => ?_) (AllReady.cons rfl (fun K hK => ?_) AllReady.nil))
    · go_simp
      go_wp2
      exact ⟨rfl, t1, p1, r1.out, rfl, HF.out⟩
    · go_simp
      go_wp2
      exact ⟨rfl, t2, p2, r2.out, rfl, HF.out⟩

theorem key_any (u : V) (t : TypeId) (x : Value) (hm : IsMk u (.iface t x)) (hd : u.dep ≤ 16) (w : World) : Calls Try.prog 89 #[.iface t x] w fun e w' => e = .returned (.bool u.keys) ∧ Fr No w w' := by
  have hmf : ∀ (fn : Fn) (first cap : Array Value) (w : World), (Instr.makeFunc fn first cap).run Try.prog w = .ok (.func fn first cap) w := fun _ _ _ _ => rfl
  have c0 : ((w.alloc (.cells #[.iface t x] 45)).alloc (.cells #[.bool false] 4)).cell? ⟨w.heap.size, 0, none⟩ = some (.iface t x) := ((Blk.new w 45 #[.iface t x]).alloc _).cell 0
  cases hk : u.keys
  · have hcall := key_panic #[.pointer (some ⟨w.heap.size, 0, none⟩)] (w.alloc (.cells #[.iface t x] 45)) (key1_row w.heap.size u t x hm hd hk _ c0 (by simp; omega))
    have H := hide hcall
    clear hcall hk
    go_enter Try.func89, Try.ntmps89
    go_wp2_with fail
    refine H.out.mono ?_
    rintro e w2 ⟨rfl, fr⟩
    go_wp2
    go_ret
    exact ⟨rfl, ((Fr.refl No w).alloc _).trans fr⟩
  · have hcall := key_ret #[.pointer (some ⟨w.heap.size, 0, none⟩)] (w.alloc (.cells #[.iface t x] 45)) (key1_ok w.heap.size u t x hm hd hk _ c0 (by simp; omega))
    have H := hide hcall
    clear hcall hk
    go_enter Try.func89, Try.ntmps89
    go_wp2_with fail
    refine H.out.mono ?_
    rintro e w2 ⟨rfl, fr⟩
    go_wp2
    go_ret
    exact ⟨rfl, ((Fr.refl No w).alloc _).trans fr⟩

end Go.Proofs.Ytihjmipmjogpoaa

/- Plain laws on values: what compares as equal is the same; which values may be. -/
namespace Go.Proofs.Ytihjmipmjogpoaa
open Go.RowKit

theorem bytes_ext {a b : ByteArray} (h : a.toList = b.toList) : a = b := by
  rw [ByteArray.toList_eq, ByteArray.toList_eq] at h
  exact Go.WideShapes.bytes_inj h

theorem fok_kind {k n : Int} {s : ByteArray} {len : Nat} {r : Int} (h : fok k n s len r = true) : k = 0 ∨ k = 1 ∨ k = 2 ∨ k = 3 ∨ k = 4 := by
  unfold fok at h
  by_cases h0 : k = 0
  · simp [h0]
  by_cases h1 : k = 1
  · simp [h1]
  by_cases h2 : k = 2
  · simp [h2]
  by_cases h3 : k = 3
  · simp [h3]
  by_cases h4 : k = 4
  · simp [h4]
  simp [h0, h1, h2, h3, h4] at h

theorem shp_eq {k k' : Int} {a b : Nat} (hk : k = 0 ∨ k = 1 ∨ k = 2 ∨ k = 3 ∨ k = 4) (hk' : k' = 0 ∨ k' = 1 ∨ k' = 2 ∨ k' = 3 ∨ k' = 4) (h : shp k a = shp k' b) : k = k' ∧ (k = 3 → (a = 2 ↔ b = 2)) := by
  unfold shp at h
  by_cases ha : a = 2 <;> by_cases hb : b = 2 <;> rcases hk with rfl | rfl | rfl | rfl | rfl <;> rcases hk' with rfl | rfl | rfl | rfl | rfl <;> simp [ha, hb] at h ⊢

/-- What compares as equal is the same. -/
theorem cmp_eq (u : V) : ∀ v : V, u.ok = true → v.ok = true → u.cmp v = 1 → u = v := by
  induction u using V.ind with
  | h k n s l r ih =>
    intro v hu hv hc
    cases v with
    | mk k' n' s' l' r' =>
      rw [V.ok_mk] at hu hv
      simp only [Bool.and_eq_true] at hu hv
      obtain ⟨fu, au⟩ := hu
      obtain ⟨fv, av⟩ := hv
      rw [V.cmp_mk, cmpOf] at hc
      simp only [List.length_map] at hc
      by_cases hs : shp k l.length = shp k' l'.length
      · rw [if_pos hs] at hc
        obtain ⟨rfl, hl3⟩ := shp_eq (fok_kind fu) (fok_kind fv) hs
        by_cases h3 : k = 3
        · subst h3
          rw [if_pos rfl] at hc
          by_cases hl : l.length = 2
          · obtain ⟨a, b, rfl⟩ := at2 hl
            obtain ⟨a', b', rfl⟩ := at2 ((hl3 rfl).1 hl)
            have hc' : (if a.cmp a' = 1 then b.cmp b' else a.cmp a') = 1 := hc
            by_cases ha : a.cmp a' = 1
            · rw [if_pos ha] at hc'
              simp at au av
              have e1 := ih a (by simp) a' au.1 av.1 ha
              have e2 := ih b (by simp) b' au.2 av.2 hc'
              subst e1 e2
              simp [fok] at fu fv
              have e3 : s = s' := bytes_ext (fu.1.2.trans fv.1.2.symm)
              subst e3
              rw [fu.1.1, fv.1.1, fu.2, fv.2]
            · rw [if_neg ha] at hc'; exact absurd hc' ha
          · exfalso
            have hp : pairCmp (l.map V.cmp) l' = 2 := by
              match l, hl with
              | [], _ => rfl
              | [a], _ => rfl
              | [a, b], hl => simp at hl
              | a :: b :: c :: l, _ => rfl
            rw [hp] at hc; cases hc
        · rw [if_neg h3] at hc
          have hl0 : l = [] := List.eq_nil_of_length_eq_zero (fok_len h3 fu)
          have hl0' : l' = [] := List.eq_nil_of_length_eq_zero (fok_len h3 fv)
          subst hl0 hl0'
          have he : leafEq k n s r n' s' r' = true := by
            cases hq : leafEq k n s r n' s' r' with
            | true => rfl
            | false => rw [hq] at hc; simp at hc
          rcases fok_kind fu with rfl | rfl | rfl | rfl | rfl
          · simp [fok] at fu fv
            have e3 : s = s' := bytes_ext (fu.1.2.trans fv.1.2.symm)
            rw [fu.1.1, fv.1.1, fu.2, fv.2, e3]
          · simp [fok] at fu fv
            simp [leafEq] at he
            have e3 : s = s' := bytes_ext (fu.1.trans fv.1.symm)
            rw [fu.2, fv.2, e3, he]
          · simp [fok] at fu fv
            simp [leafEq] at he
            rw [fu.1.2, fv.1.2, fu.2, fv.2, bytes_ext he]
          · exact absurd rfl h3
          · simp [fok] at fu fv
            simp [leafEq] at he
            have e3 : s = s' := bytes_ext (fu.2.trans fv.2.symm)
            rw [fu.1.2, fv.1.2, e3, he]
      · rw [if_neg hs] at hc; cases hc

theorem may_ok {v : V} (h : v.may = true) : v.ok = true := by
  simp [V.may, V.fits] at h; exact h.1.1

/-- Of two that may be, the first without a row: equal just if the same. -/
theorem cmp_iff {u v : V} (hu : u.may = true) (hv : v.may = true) (hk : u.keys = true) : u.cmp v = 1 ↔ u = v :=
  ⟨cmp_eq u v (may_ok hu) (may_ok hv), fun h => by subst h; rw [cmp_self, if_pos hk]⟩

theorem pos_some {u : V} (hu : u.may = true) (hk : u.keys = true) : ∀ {vs : List V} {i : Nat}, (∀ v ∈ vs, v.may = true) → pos u vs = some i → vs[i]? = some u
  | [], i, _, h => by simp [pos] at h
  | v :: vs, i, hm, h => by
    unfold pos at h
    by_cases hc : u.cmp v = 1
    · rw [if_pos hc] at h; simp at h; subst h
      rw [(cmp_iff hu (hm v (by simp)) hk).1 hc]; rfl
    · rw [if_neg hc] at h
      simp at h
      obtain ⟨j, hj, rfl⟩ := h
      show vs[j]? = some u
      exact pos_some hu hk (fun v hv => hm v (by simp [hv])) hj

theorem pos_none {u : V} (hu : u.may = true) (hk : u.keys = true) : ∀ {vs : List V}, (∀ v ∈ vs, v.may = true) → pos u vs = none → u ∉ vs
  | [], _, _ => by simp
  | v :: vs, hm, h => by
    unfold pos at h
    by_cases hc : u.cmp v = 1
    · rw [if_pos hc] at h; cases h
    · rw [if_neg hc] at h
      simp at h
      intro hm'
      rcases List.mem_cons.1 hm' with rfl | hm'
      · exact hc ((cmp_iff hu hu hk).2 rfl)
      · exact pos_none hu hk (fun v hv => hm v (by simp [hv])) h hm'

end Go.Proofs.Ytihjmipmjogpoaa

/- A table of brand: what it holds, as it lies in memory. -/
namespace Go.Proofs.Ytihjmipmjogpoaa
open Go.RowKit

/-- An entry: a key, a value, which one came. -/
structure Ent where
  k : T
  v : T
  c : Nat

/-- An entry as the program handles it. -/
def Ent.val (e : Ent) : Value := .agg (e.k.cells ++ (e.v.cells ++ [Value.int .i64 (e.c : Int)])).toArray

/-- The trees of some entries. -/
def trees (l : List Ent) : List T := l.flatMap fun e => [e.k, e.v]

/-- The entries of the table's map. -/
def EntsAre (es : List MapEntry) (l : List Ent) : Prop :=
  es.length = l.length ∧ ∀ (i : Nat) (e : MapEntry) (x : Ent), es[i]? = some e → l[i]? = some x → IsMk x.k.v e.key ∧ e.val = x.val

/-- The entries of the map that says in which order they came. -/
def OrdsAre (es : List MapEntry) (l : List Ent) : Prop :=
  es.length = l.length ∧ ∀ (i : Nat) (e : MapEntry) (x : Ent), es[i]? = some e → l[i]? = some x → e.key = .int .i64 (x.c : Int) ∧ IsMk x.k.v e.val

/-- The stamps of a map's entries are below its clock, and no two alike. -/
def Stm (es : List MapEntry) (cl : Nat) : Prop := (∀ x ∈ es, x.born < cl) ∧ (es.map (·.born)).Nodup

/-- A table in the blocks from lo on, below hi. -/
structure Tab (w : World) (lo hi tb M O : Nat) (l : List Ent) (came : Nat) : Prop where
  blk : Blk w tb 66 #[.map (some M), .map (some O), .int .i64 (came : Int)]
  m : ∃ es cl, w.heap[M]? = some (.map es cl) ∧ EntsAre es.toList l
  o : ∃ es cl, w.heap[O]? = some (.map es cl) ∧ OrdsAre es.toList l
  forest : Forest w lo hi (trees l)
  tb0 : lo ≤ tb ∧ tb < hi
  m0 : lo ≤ M ∧ M < hi
  o0 : lo ≤ O ∧ O < hi
  mo : M ≠ O
  out : tb ∉ ((trees l).map T.blocks).flatten
  outm : M ∉ ((trees l).map T.blocks).flatten
  outo : O ∉ ((trees l).map T.blocks).flatten
  may : ∀ e ∈ l, e.k.v.may = true ∧ e.k.v.keys = true ∧ e.v.v.may = true
  dist : l.Pairwise fun a b => a.k.v ≠ b.k.v
  cdist : l.Pairwise fun a b => a.c ≠ b.c
  cran : ∀ e ∈ l, 1 ≤ e.c ∧ e.c ≤ came
  came0 : came ≤ 1000000
  stm : ∀ es cl, w.heap[M]? = some (.map es cl) → Stm es.toList cl

theorem EntsAre.keys {es : List MapEntry} {l : List Ent} (h : EntsAre es l) : KeysAre es (l.map fun e => e.k.v) := by
  refine ⟨by rw [h.1, List.length_map], fun i e v he hv => ?_⟩
  simp at hv
  obtain ⟨x, hx, rfl⟩ := hv
  exact (h.2 i e x he hx).1

theorem Tab.fr {S : Nat → Prop} {w w' : World} {lo hi tb M O : Nat} {l : List Ent} {came : Nat} (h : Tab w lo hi tb M O l came) (hf : Fr S w w') (hh : hi ≤ w.heap.size) (hs : ∀ i, lo ≤ i → i < hi → ¬ S i) :
    Tab w' lo hi tb M O l came := by
  obtain ⟨es, cl, hm, hme⟩ := h.m
  obtain ⟨eo, co, ho, hoe⟩ := h.o
  exact ⟨h.blk.fr hf (hs _ h.tb0.1 h.tb0.2), ⟨es, cl, (hf.block M (by have := h.m0; omega) (hs _ h.m0.1 h.m0.2)).trans hm, hme⟩, ⟨eo, co, (hf.block O (by have := h.o0; omega) (hs _ h.o0.1 h.o0.2)).trans ho, hoe⟩,
    h.forest.fr hf hh hs, h.tb0, h.m0, h.o0, h.mo, h.out, h.outm, h.outo, h.may, h.dist, h.cdist, h.cran, h.came0, fun es cl h' => h.stm es cl ((hf.block M (by have := h.m0; omega) (hs _ h.m0.1 h.m0.2)).symm.trans h')⟩

theorem Tab.no {w w' : World} {lo hi tb M O : Nat} {l : List Ent} {came : Nat} (h : Tab w lo hi tb M O l came) (hf : Fr No w w') (hh : hi ≤ w.heap.size) : Tab w' lo hi tb M O l came := h.fr hf hh fun _ _ _ h => h

/-! ### none, find, New, Len -/

theorem map_neq_nil (w : World) (M : Nat) : (binOp .eql 63 (.map (some M)) (.map none)).run Try.prog w = .ok (.bool false) w := by
  have h := run_eql_map_nil (P := Try.prog) w 63 _ _ (some M) Try.underlying63
  simpa using h

theorem none_tab (tb M O : Nat) (c : Int) (w : World) (h : Blk w tb 66 #[.map (some M), .map (some O), .int .i64 c]) :
    Calls Try.prog 90 #[.pointer (some ⟨tb, 0, none⟩)] w fun e w' => e = .returned (.bool false) ∧ w' = w := by
  have c0 := h.cell 0
  simp only [List.getElem?_toArray, List.getElem?_cons_zero] at c0
  have hq := map_neq_nil
  go_enter Try.func90, Try.ntmps90
  go_wp2
  go_ret
  exact ⟨rfl, rfl⟩

theorem New_any (w : World) : Calls Try.prog 25 #[] w fun e w' => ∃ tb, e = .returned (.pointer (some ⟨tb, 0, none⟩)) ∧ Tab w' w.heap.size w'.heap.size tb w.heap.size (w.heap.size + 1) [] 0 ∧ Fr No w w' := by
  have hmm := @run_makeMap Try.prog
  go_enter Try.func25, Try.ntmps25
  go_wp2
  go_ret
  refine ⟨_, rfl, ?_, (((Fr.refl No w).alloc _).alloc _).alloc _⟩
  have b := Blk.new' ((w.alloc (.map #[] 0)).alloc (.map #[] 0)) 66 #[.map (some w.heap.size), .map (some (w.heap.size + 1)), .int .i64 0] (g := w.heap.size + 1 + 1) (by simp)
  refine ⟨b, ⟨#[], 0, ?_, rfl, by simp⟩, ⟨#[], 0, ?_, rfl, by simp⟩, Forest.nil _ _ _, by first | (simp; done) | (simp; omega), by first | (simp; done) | (simp; omega), by first | (simp; done) | (simp; omega), by omega, by simp [trees], by simp [trees], by simp [trees], by simp, by simp, by simp, by simp, by omega, fun es cl h' => ?_⟩
  · rw [Below.heap_alloc _ _ _ (by simp; omega), Below.heap_alloc _ _ _ (by simp)]; exact World.alloc_heap_new _ _
  · rw [Below.heap_alloc _ _ _ (by simp)]
    have := World.alloc_heap_new (w.alloc (.map #[] 0)) (.map #[] 0)
    simpa using this
  · rw [Below.heap_alloc _ _ _ (by simp; omega), Below.heap_alloc _ _ _ (by simp), World.alloc_heap_new] at h'
    injection h' with h'
    injection h' with h1 h2
    subst h1 h2
    exact ⟨by simp, by simp⟩

theorem Len_any (w : World) (lo hi tb M O : Nat) (l : List Ent) (came : Nat) (h : Tab w lo hi tb M O l came) :
    Calls Try.prog 28 #[.pointer (some ⟨tb, 0, none⟩)] w fun e w' => e = .returned (.int .i64 (l.length : Int)) ∧ w' = w := by
  have hN := none_tab tb M O came w h.blk
  have c0 := h.blk.cell 0
  simp only [List.getElem?_toArray, List.getElem?_cons_zero] at c0
  obtain ⟨es, cl, hm, hme⟩ := h.m
  have hlen : (Builtin.len_ #[63] 3 #[.map (some M)]).run Try.prog w = .ok (.int .i64 (l.length : Int)) w := by
    have := hme.1
    simp at this
    simp [Builtin.len_, run_underlying Try.underlying63, get_map hm, goInt, this]
  clear hme h hm
  go_enter Try.func28, Try.ntmps28
  go_wp2_with fail
  refine hN.mono ?_
  rintro e w' ⟨rfl, rfl⟩
  clear hN
  go_wp2
  go_ret
  exact ⟨rfl, rfl⟩

/-- What 'find' answers: the mark of a key, or why it can't be asked for. -/
def FindP (v : V) (w : World) (e : Ending) (w' : World) : Prop :=
  (v.may = true → v.keys = true → ∃ m, e = .returned (.tuple #[m, .int .i64 0]) ∧ IsMk v m ∧ Fr No w w') ∧
  (v.may = true → v.keys = false → e = .returned (.tuple #[.nilIface, .int .i64 40]) ∧ Fr No w w') ∧
  (v.may = false → e = .returned (.tuple #[.nilIface, .int .i64 2]) ∧ Fr No w w')

set_option maxHeartbeats 1000000 in
theorem find_any (t : T) (w : World) (lo hi : Nat) (ht : t.In w lo hi) (hh : hi ≤ w.heap.size) (tb M O : Nat) (c : Int) (hb : Blk w tb 66 #[.map (some M), .map (some O), .int .i64 c]) :
    Calls Try.prog 91 #[.pointer (some ⟨tb, 0, none⟩), t.val] w (FindP t.v w) := by
  have hM := fun w' h h' => Of_any t w' lo hi h h'
  cases t with
  | mk k n s A cap l r =>
    rw [T.val_mk] at *
    have hN := none_tab tb M O c _ (hb.alloc (.cells #[.int .u8 k, .int .i64 n, .string s, .slice A l.length cap, .int .i64 r] 27))
    have ht1 := ht.no ((Fr.refl No w).alloc (.cells #[.int .u8 k, .int .i64 n, .string s, .slice A l.length cap, .int .i64 r] 27)) hh
    cases hm : (T.mk k n s A cap l r).v.may
    · have HM := hide hm
      have HT := hide ht1
      clear hm ht ht1
      go_enter Try.func91, Try.ntmps91
      go_wp2_with fail
      refine hN.mono ?_
      rintro e w' ⟨rfl, rfl⟩
      clear hN
      go_wp2_with fail
      refine (hM _ HT.out (by simp; omega)).mono ?_
      rintro e w2 ⟨-, h⟩
      obtain ⟨rfl, fr2⟩ := h HM.out
      clear h hM
      go_wp2
      go_ret2
      exact ⟨fun h => (by rw [HM.out] at h; cases h), fun h => (by rw [HM.out] at h; cases h), fun _ => ⟨rfl, ((Fr.refl No w).alloc _).trans fr2⟩⟩
    · have hd := may_dep hm
      cases hk : (T.mk k n s A cap l r).v.keys
      all_goals
        have HM := hide hm
        have HK := hide hk
        have HT := hide ht1
        clear hm ht ht1 hk
        go_enter Try.func91, Try.ntmps91
        go_wp2_with fail
        refine hN.mono ?_
        rintro e w' ⟨rfl, rfl⟩
        clear hN
        go_wp2_with fail
        refine (hM _ HT.out (by simp; omega)).mono ?_
        rintro e w2 ⟨h, -⟩
        obtain ⟨m, rfl, hmk, fr2⟩ := h HM.out
        obtain ⟨ty, x, rfl⟩ := hmk.iface
        have hky := key_any _ ty x hmk hd w2
        rw [HK.out] at hky
        clear h hM
        go_wp2_with fail
        refine hky.mono ?_
        rintro e w3 ⟨rfl, fr3⟩
        clear hky
        have HF := hide ((((Fr.refl No w).alloc _).trans fr2).trans fr3)
        clear fr2 fr3
        go_wp2
        go_ret2
      · exact ⟨fun _ h => (by rw [HK.out] at h; cases h), fun _ _ => ⟨rfl, HF.out⟩, fun h => (by rw [HM.out] at h; cases h)⟩
      · exact ⟨fun _ _ => ⟨_, rfl, hmk, HF.out⟩, fun _ h => (by rw [HK.out] at h; cases h), fun h => (by rw [HM.out] at h; cases h)⟩

end Go.Proofs.Ytihjmipmjogpoaa

/- Laws on the maps of a table: stores, deletions, look-ups by number. -/
namespace Go.Proofs.Ytihjmipmjogpoaa
open Go.RowKit

/-- The mark of a value without a row is one alone. -/
theorem mk_unique (u : V) : u.keys = true → ∀ m1 m2, IsMk u m1 → IsMk u m2 → m1 = m2 := by
  induction u using V.ind with
  | h k n s l r ih =>
    intro hk m1 m2 h1 h2
    rw [IsMk_mk] at h1 h2
    unfold mkOf at h1 h2
    by_cases k1 : k = 1
    · rw [if_pos k1] at h1 h2; rw [h1, h2]
    rw [if_neg k1] at h1 h2
    by_cases k2 : k = 2
    · rw [if_pos k2] at h1 h2; rw [h1, h2]
    rw [if_neg k2] at h1 h2
    by_cases k4 : k = 4
    · rw [if_pos k4] at h1 h2; rw [h1, h2]
    rw [if_neg k4] at h1 h2
    by_cases k3 : k = 3
    · rw [if_pos k3] at h1 h2
      rw [V.keys_mk, if_pos k3] at hk
      simp at hk
      obtain ⟨hl, hall⟩ := hk
      obtain ⟨a, b, rfl⟩ := at2 hl
      obtain ⟨x, y, rfl, hx, hy⟩ := h1
      obtain ⟨x', y', rfl, hx', hy'⟩ := h2
      rw [ih a (by simp) (hall a (by simp)) x x' hx hx', ih b (by simp) (hall b (by simp)) y y' hy hy']
    · rw [if_neg k3] at h1 h2; rw [h1, h2]

theorem same_mark (u : V) : u.keys = true → ∀ m d, 2 * u.dep + 2 ≤ d → IsMk u m → Instr.sameBits d m m = true := by
  induction u using V.ind with
  | h k n s l r ih =>
    intro hk m d hd h1
    rw [IsMk_mk] at h1
    unfold mkOf at h1
    obtain ⟨d, rfl⟩ : ∃ e, d = e + 2 := ⟨d - 2, by omega⟩
    by_cases k1 : k = 1
    · rw [if_pos k1] at h1; rw [h1]; simp [Instr.sameBits]
    rw [if_neg k1] at h1
    by_cases k2 : k = 2
    · rw [if_pos k2] at h1; rw [h1]; simp [Instr.sameBits, beq_toListBytes]
    rw [if_neg k2] at h1
    by_cases k4 : k = 4
    · rw [if_pos k4] at h1; rw [h1]; simp [Instr.sameBits]
    rw [if_neg k4] at h1
    by_cases k3 : k = 3
    · rw [if_pos k3] at h1
      rw [V.keys_mk, if_pos k3] at hk
      rw [V.dep_mk, if_pos k3] at hd
      simp at hk
      obtain ⟨hl, hall⟩ := hk
      obtain ⟨a, b, rfl⟩ := at2 hl
      obtain ⟨x, y, rfl, hx, hy⟩ := h1
      have hda : a.dep ≤ top [a.dep, b.dep] := le_top (by simp)
      have hdb : b.dep ≤ top [a.dep, b.dep] := le_top (by simp)
      simp only [List.map_cons, List.map_nil] at hd
      have e1 := ih a (by simp) (hall a (by simp)) x d (by omega) hx
      have e2 := ih b (by simp) (hall b (by simp)) y d (by omega) hy
      simp [Instr.sameBits, e1, e2]
    · rw [if_neg k3] at h1; rw [h1]; simp [Instr.sameBits]

/-- A store under a mark that isn't there. -/
theorem run_update_new {t el : TypeId} (ht : Try.prog.underlying t = some (.map 45 el)) (w : World) (u : V) (m val : Value) (hm : IsMk u m) (hd : u.dep ≤ 16) (hkey : u.keys = true)
    {B : Nat} {es : Array MapEntry} {cl : Nat} (hB : w.heap[B]? = some (.map es cl)) {vs : List V} (h : KeysAre es.toList vs) (hp : pos u vs = none) :
    (Instr.mapUpdate t (.map (some B)) m val).run Try.prog w = .ok () (w.putObj B (.map (es.push { key := m, val := val, born := cl }) (cl + 1))) := by
  have hc := run_key u 10000 m false w (by omega) hm
  have hf := run_findKey u m hm hd w es.toList vs h (fun v _ => keys_ne2 u hkey v)
  rw [hp] at hf
  rcases hc with ⟨_, hc⟩ | ⟨h0, _⟩
  · unfold Instr.mapUpdate
    simp only [Sem.run_bind, run_underlying ht, Result.andThen_ok, get_map hB, hc, hf, found, set_map _ hB]
  · rw [hkey] at h0; cases h0

/-- A store under a mark that is there. -/
theorem run_update_old {t el : TypeId} (ht : Try.prog.underlying t = some (.map 45 el)) (w : World) (u : V) (m val : Value) (hm : IsMk u m) (hd : u.dep ≤ 16) (hkey : u.keys = true)
    {B : Nat} {es : Array MapEntry} {cl : Nat} (hB : w.heap[B]? = some (.map es cl)) {vs : List V} (h : KeysAre es.toList vs) {i : Nat} (hp : pos u vs = some i) (hu : vs[i]? = some u) :
    (Instr.mapUpdate t (.map (some B)) m val).run Try.prog w = .ok () (w.putObj B (.map (es.modify i fun e => { e with key := m, val := val }) cl)) := by
  have hc := run_key u 10000 m false w (by omega) hm
  have hf := run_findKey u m hm hd w es.toList vs h (fun v _ => keys_ne2 u hkey v)
  rw [hp] at hf
  have hi : i < es.toList.length := by rw [h.1]; exact pos_lt hp
  have he : es.toList[i]? = some es.toList[i] := List.getElem?_eq_getElem hi
  have hkm : es.toList[i].key = m := mk_unique u hkey _ _ (h.2 i _ u he hu) hm
  simp only [found, he, Option.map_some, Nat.zero_add] at hf
  have he' : es[i]? = some es.toList[i] := by rw [← he]; simp
  rcases hc with ⟨_, hc⟩ | ⟨h0, _⟩
  · unfold Instr.mapUpdate
    simp only [Sem.run_bind, run_underlying ht, Result.andThen_ok, get_map hB, hc, hf, he', Option.map_some, Option.getD_some, hkm, Instr.keyThatStays, same_mark u hkey m 10000 (by omega) hm, if_pos, Sem.run_pure, set_map _ hB]
  · rw [hkey] at h0; cases h0

/-! ### Maps by number -/

theorem findNow_none {n : Int} : ∀ {es : List MapEntry} {i : Nat}, (∀ e ∈ es, ∃ c : Int, e.key = .int .i64 c ∧ n ≠ c) → Instr.findNow (.int .i64) (.int .i64 n) es i = some none
  | [], _, _ => rfl
  | e :: es, i, h => by
    obtain ⟨c, hc, hne⟩ := h e (by simp)
    unfold Instr.findNow
    have : Instr.sameNow (.int .i64) (.int .i64 n) e.key = some false := by rw [hc]; simp [Instr.sameNow]; exact hne
    rw [this]
    exact findNow_none fun e he => h e (by simp [he])

theorem findNow_some {n : Int} : ∀ {es : List MapEntry} {i j : Nat} {e : MapEntry}, (∀ e ∈ es, ∃ c : Int, e.key = .int .i64 c) → es[j]? = some e → e.key = .int .i64 n → (∀ k e', k < j → es[k]? = some e' → e'.key ≠ .int .i64 n) →
    Instr.findNow (.int .i64) (.int .i64 n) es i = some (some (i + j, e.val))
  | [], _, j, e, _, h, _, _ => by simp at h
  | e0 :: es, i, 0, e, _, h, hk, _ => by
    simp at h; subst h
    unfold Instr.findNow
    have : Instr.sameNow (.int .i64) (.int .i64 n) e0.key = some true := by rw [hk]; simp [Instr.sameNow]
    rw [this]; rfl
  | e0 :: es, i, j + 1, e, hall, h, hk, hb => by
    obtain ⟨c, hc⟩ := hall e0 (by simp)
    have hne : n ≠ c := fun h' => hb 0 e0 (by omega) rfl (by rw [hc, h'])
    unfold Instr.findNow
    have : Instr.sameNow (.int .i64) (.int .i64 n) e0.key = some false := by rw [hc]; simp [Instr.sameNow]; exact hne
    rw [this]
    have := findNow_some (n := n) (i := i + 1) (j := j) (fun e he => hall e (List.mem_cons_of_mem _ he)) (by simpa using h) hk (fun k e' hk' he' => hb (k + 1) e' (by omega) (by simpa using he'))
    rw [show i + (j + 1) = i + 1 + j from by omega]
    exact this

theorem checkKey_int' (d : Nat) (e : Bool) (n : Int) (w : World) : (Instr.checkKey e (d + 1) 3 (.int .i64 n)).run Try.prog w = .ok () w := by
  simp [Instr.checkKey, run_underlying Try.underlying3]
theorem checkKey_int (e : Bool) (n : Int) (w : World) : (Instr.checkKey e 10000 3 (.int .i64 n)).run Try.prog w = .ok () w := checkKey_int' 9999 e n w

/-- A store under a number that isn't there. -/
theorem run_update_num {t el : TypeId} (ht : Try.prog.underlying t = some (.map 3 el)) (w : World) (n : Int) (val : Value) {B : Nat} {es : Array MapEntry} {cl : Nat} (hB : w.heap[B]? = some (.map es cl))
    (h : ∀ e ∈ es.toList, ∃ c : Int, e.key = .int .i64 c ∧ n ≠ c) :
    (Instr.mapUpdate t (.map (some B)) (.int .i64 n) val).run Try.prog w = .ok () (w.putObj B (.map (es.push { key := .int .i64 n, val := val, born := cl }) (cl + 1))) := by
  unfold Instr.mapUpdate
  simp only [Sem.run_bind, run_underlying ht, Result.andThen_ok, get_map hB, checkKey_int, Instr.findKey, run_underlying Try.underlying3, findNow_none h, Sem.run_pure, set_map _ hB]

end Go.Proofs.Ytihjmipmjogpoaa

/- (*Table).Put: what it answers, what the table holds then. -/
namespace Go.Proofs.Ytihjmipmjogpoaa
open Go.RowKit

/-- Put's error: a key, a value that may not be; a mark that can't be a key. -/
def putErr (k v : V) : Int := if (k.may && v.may) = true then (if k.keys = true then 0 else 40) else 2

def tripZ (n : Int) : Value := .tuple #[.agg #[.int .u8 0, .int .i64 0, .string ⟨#[]⟩, .slice none 0 0, .int .i64 0], .bool false, .int .i64 n]

set_option maxRecDepth 10000 in
set_option maxHeartbeats 4000000 in
theorem Put_err (a b : T) (w : World) (lo hi : Nat) (ha : a.In w lo hi) (hb : b.In w lo hi) (hh : hi ≤ w.heap.size) (tb M O : Nat) (c : Int) (hT : Blk w tb 66 #[.map (some M), .map (some O), .int .i64 c]) (he : putErr a.v b.v ≠ 0) :
    Calls Try.prog 26 #[.pointer (some ⟨tb, 0, none⟩), a.val, b.val] w fun e w' => e = .returned (tripZ (putErr a.v b.v)) ∧ Fr No w w' := by
  have hA := fun w' h h' => may_any a w' lo hi h h'
  have hB := fun w' h h' => may_any b w' lo hi h h'
  have hF := fun w' h h' h'' => find_any a w' lo hi h h' tb M O c h''
  cases a with
  | mk k n s A cap l r =>
  cases b with
  | mk k' n' s' A' cap' l' r' =>
    rw [T.val_mk] at *
    rw [T.val_mk] at *
    generalize hu : (T.mk k n s A cap l r).v = u at *
    generalize hv : (T.mk k' n' s' A' cap' l' r').v = v at *
    have hW : Fr No w (((w.alloc (.cells #[.int .u8 k, .int .i64 n, .string s, .slice A l.length cap, .int .i64 r] 27)).alloc (.cells #[.int .u8 k', .int .i64 n', .string s', .slice A' l'.length cap', .int .i64 r'] 27)).alloc
        (.cells #[.int .u8 0, .int .i64 0, .string ⟨#[]⟩, .slice none 0 0, .int .i64 0] 27)) := (((Fr.refl No w).alloc _).alloc _).alloc _
    have hK : Blk (((w.alloc (.cells #[.int .u8 k, .int .i64 n, .string s, .slice A l.length cap, .int .i64 r] 27)).alloc (.cells #[.int .u8 k', .int .i64 n', .string s', .slice A' l'.length cap', .int .i64 r'] 27)).alloc
        (.cells #[.int .u8 0, .int .i64 0, .string ⟨#[]⟩, .slice none 0 0, .int .i64 0] 27)) w.heap.size 27 #[.int .u8 k, .int .i64 n, .string s, .slice A l.length cap, .int .i64 r] := ((Blk.new' w 27 _ rfl).alloc _).alloc _
    have hV : Blk (((w.alloc (.cells #[.int .u8 k, .int .i64 n, .string s, .slice A l.length cap, .int .i64 r] 27)).alloc (.cells #[.int .u8 k', .int .i64 n', .string s', .slice A' l'.length cap', .int .i64 r'] 27)).alloc
        (.cells #[.int .u8 0, .int .i64 0, .string ⟨#[]⟩, .slice none 0 0, .int .i64 0] 27)) (w.heap.size + 1) 27 #[.int .u8 k', .int .i64 n', .string s', .slice A' l'.length cap', .int .i64 r'] := (Blk.new' (w.alloc _) 27 _ (by simp)).alloc _
    have hZ : Blk (((w.alloc (.cells #[.int .u8 k, .int .i64 n, .string s, .slice A l.length cap, .int .i64 r] 27)).alloc (.cells #[.int .u8 k', .int .i64 n', .string s', .slice A' l'.length cap', .int .i64 r'] 27)).alloc
        (.cells #[.int .u8 0, .int .i64 0, .string ⟨#[]⟩, .slice none 0 0, .int .i64 0] 27)) (w.heap.size + 2) 27 #[.int .u8 0, .int .i64 0, .string ⟨#[]⟩, .slice none 0 0, .int .i64 0] := Blk.new' ((w.alloc _).alloc _) 27 _ (by simp)
    have hT0 := hT.fr hW (fun h => h)
    have ha0 := ha.no hW hh
    have hb0 := hb.no hW hh
    have hsz : w.heap.size + 3 ≤ (((w.alloc (.cells #[.int .u8 k, .int .i64 n, .string s, .slice A l.length cap, .int .i64 r] 27)).alloc (.cells #[.int .u8 k', .int .i64 n', .string s', .slice A' l'.length cap', .int .i64 r'] 27)).alloc
        (.cells #[.int .u8 0, .int .i64 0, .string ⟨#[]⟩, .slice none 0 0, .int .i64 0] 27)).heap.size := by simp
    have HU := hide hu
    have HV := hide hv
    clear hu hv ha hb hT
    cases hmu : u.may
    · have e1 : putErr u v = 2 := by simp [putErr, hmu]
      have E1 := hide e1
      rw [hmu] at hA
      clear e1 he hmu hB hF
      go_enter Try.func26, Try.ntmps26
      go_wp2_with fail
      generalize World.alloc _ (.cells #[.int .u8 0, .int .i64 0, .string ⟨#[]⟩, .slice none 0 0, .int .i64 0] 27) = W0 at *
      have hN := none_tab tb M O c _ hT0
      refine hN.mono ?_
      rintro e w' ⟨rfl, rfl⟩
      clear hN
      obtain ⟨c0, c1, c2, c3, c4, cf⟩ := hK.cells5
      go_wp2_with fail
      refine (hA _ ha0 (by omega)).mono ?_
      rintro e w2 ⟨rfl, fr2⟩
      obtain ⟨d0, d1, d2, d3, d4, df⟩ := (hZ.fr fr2 (fun h => h)).cells5
      have hF2 := hide (hW.trans fr2)
      clear fr2 hZ hV hK hT0 ha0 hb0 hW hA
      go_wp2
      refine bodyPost_ret (v := tripZ 2) (by simp [results, Try.results26, go_sem, tripZ, *]) rfl ?_
      refine ⟨by rw [E1.out], ?_⟩
      have hF2' := hF2.out
      repeat (first | with_reducible exact hF2' | with_reducible refine Fr.setNew ?_ (by simp; omega) _)

    · cases hmv : v.may
      · have e1 : putErr u v = 2 := by simp [putErr, hmv]
        have E1 := hide e1
        rw [hmu] at hA
        rw [hmv] at hB
        clear e1 he hmu hmv hF
        go_enter Try.func26, Try.ntmps26
        go_wp2_with fail
        generalize World.alloc _ (.cells #[.int .u8 0, .int .i64 0, .string ⟨#[]⟩, .slice none 0 0, .int .i64 0] 27) = W0 at *
        have hN := none_tab tb M O c _ hT0
        refine hN.mono ?_
        rintro e w' ⟨rfl, rfl⟩
        clear hN
        obtain ⟨c0, c1, c2, c3, c4, cf⟩ := hK.cells5
        go_wp2_with fail
        refine (hA _ ha0 (by omega)).mono ?_
        rintro e w2 ⟨rfl, fr2⟩
        obtain ⟨v0, v1, v2, v3, v4, vf⟩ := (hV.fr fr2 (fun h => h)).cells5
        clear hA
        go_wp2_with fail
        refine (hB _ (hb0.no fr2 (by omega)) (by have := fr2.size; omega)).mono ?_
        rintro e w3 ⟨rfl, fr3⟩
        have fr23 := fr2.trans fr3
        obtain ⟨d0, d1, d2, d3, d4, df⟩ := (hZ.fr fr23 (fun h => h)).cells5
        have hF2 := hide (hW.trans fr23)
        clear fr2 fr3 fr23 hZ hV hK hT0 ha0 hb0 hW hB v0 v1 v2 v3 v4 vf c0 c1 c2 c3 c4 cf
        go_wp2
        refine bodyPost_ret (v := tripZ 2) (by simp [results, Try.results26, go_sem, tripZ, *]) rfl ?_
        refine ⟨by rw [E1.out], ?_⟩
        have hF2' := hF2.out
        repeat (first | with_reducible exact hF2' | with_reducible refine Fr.setNew ?_ (by simp; omega) _)

      · have hk : u.keys = false := by
          cases hk : u.keys with
          | false => rfl
          | true => simp [putErr, hmu, hmv, hk] at he
        have e1 : putErr u v = 40 := by simp [putErr, hmu, hmv, hk]
        have E1 := hide e1
        have HM := hide hmu
        have HK := hide hk
        rw [hmu] at hA
        rw [hmv] at hB
        clear e1 he hmu hmv hk
        go_enter Try.func26, Try.ntmps26
        go_wp2_with fail
        generalize World.alloc _ (.cells #[.int .u8 0, .int .i64 0, .string ⟨#[]⟩, .slice none 0 0, .int .i64 0] 27) = W0 at *
        have hN := none_tab tb M O c _ hT0
        refine hN.mono ?_
        rintro e w' ⟨rfl, rfl⟩
        clear hN
        obtain ⟨c0, c1, c2, c3, c4, cf⟩ := hK.cells5
        go_wp2_with fail
        refine (hA _ ha0 (by omega)).mono ?_
        rintro e w2 ⟨rfl, fr2⟩
        obtain ⟨v0, v1, v2, v3, v4, vf⟩ := (hV.fr fr2 (fun h => h)).cells5
        clear hA c0 c1 c2 c3 c4 cf
        go_wp2_with fail
        refine (hB _ (hb0.no fr2 (by omega)) (by have := fr2.size; omega)).mono ?_
        rintro e w3 ⟨rfl, fr3⟩
        have fr23 := fr2.trans fr3
        obtain ⟨c0, c1, c2, c3, c4, cf⟩ := (hK.fr fr23 (fun h => h)).cells5
        clear hB v0 v1 v2 v3 v4 vf
        go_wp2_with fail
        refine (hF _ (ha0.no fr23 (by omega)) (by have := fr23.size; omega) (hT0.fr fr23 (fun h => h))).mono ?_
        rintro e w4 ⟨-, h, -⟩
        obtain ⟨rfl, fr4⟩ := h HM.out HK.out
        have fr24 := fr23.trans fr4
        obtain ⟨d0, d1, d2, d3, d4, df⟩ := (hZ.fr fr24 (fun h => h)).cells5
        have hF2 := hide (hW.trans fr24)
        clear h fr2 fr3 fr23 fr4 fr24 hZ hV hK hT0 ha0 hb0 hW hF c0 c1 c2 c3 c4 cf
        go_wp2
        refine bodyPost_ret (v := tripZ 40) (by simp [results, Try.results26, go_sem, tripZ, *]) rfl ?_
        refine ⟨by rw [E1.out], ?_⟩
        have hF2' := hF2.out
        repeat (first | with_reducible exact hF2' | with_reducible refine Fr.setNew ?_ (by simp; omega) _)

end Go.Proofs.Ytihjmipmjogpoaa

/- Trees in memory, more: what keeps them, block by block; brand.own. -/
namespace Go.Proofs.Ytihjmipmjogpoaa
open Go.RowKit

theorem T.In.keepB {w w' : World} {lo hi : Nat} (t : T) : t.In w lo hi → (∀ b ∈ t.blocks, ∀ o, w'.cell? ⟨b, o, none⟩ = w.cell? ⟨b, o, none⟩) → t.In w' lo hi := by
  induction t using T.ind with
  | h k n s A cap l r ih =>
    rw [T.in_mk, T.in_mk, T.blocks_mk]
    rintro ⟨h1, h2, h3⟩ hk
    refine ⟨h1, fun hl => ?_, fun x hx => ih x hx (h3 x hx) (fun b hb => hk b (List.mem_append_right _ (List.mem_flatten.2 ⟨_, List.mem_map_of_mem hx, hb⟩)))⟩
    obtain ⟨b, o, rfl, hb0, hb1, hc⟩ := h2 hl
    refine ⟨b, o, rfl, hb0, hb1, fun i x hx j u hu => (hk b ?_ _).trans (hc i x hx j u hu)⟩
    cases l with
    | nil => exact absurd rfl hl
    | cons x l => simp

theorem Forest.frB {S : Nat → Prop} {w w' : World} {lo hi : Nat} {l : List T} (h : Forest w lo hi l) (hf : Fr S w w') (hh : hi ≤ w.heap.size) (hs : ∀ b ∈ (l.map T.blocks).flatten, ¬ S b) : Forest w' lo hi l :=
  h.fr' hf hh hs fun x hx => T.In.keepB x (h.inn x hx) fun b hb o => hf.cell (by have := T.In.blocks x (h.inn x hx) b hb; omega) (hs b (List.mem_flatten.2 ⟨_, List.mem_map_of_mem hx, hb⟩))

theorem T.Ow.frB {S : Nat → Prop} {w w' : World} {lo hi : Nat} {t : T} (h : t.Ow w lo hi) (hf : Fr S w w') (hh : hi ≤ w.heap.size) (hs : ∀ b ∈ t.blocks, ¬ S b) : t.Ow w' lo hi :=
  ⟨T.In.keepB t h.inn fun b hb o => hf.cell (by have := T.In.blocks t h.inn b hb; omega) (hs b hb), h.nodup, fun b hb o => by
    have := T.In.blocks t h.inn b hb
    rw [hf.frozen (by omega) (hs b hb)]
    exact h.free b hb o⟩

theorem T.In.frB {S : Nat → Prop} {w w' : World} {lo hi : Nat} {t : T} (h : t.In w lo hi) (hf : Fr S w w') (hh : hi ≤ w.heap.size) (hs : ∀ b ∈ t.blocks, ¬ S b) : t.In w' lo hi :=
  T.In.keepB t h fun b hb o => hf.cell (by have := T.In.blocks t h b hb; omega) (hs b hb)

/-- The table's own blocks. -/
def tabBlocks (tb M O : Nat) (l : List Ent) (i : Nat) : Prop := i = tb ∨ i = M ∨ i = O ∨ i ∈ ((trees l).map T.blocks).flatten

theorem Tab.frB {S : Nat → Prop} {w w' : World} {lo hi tb M O : Nat} {l : List Ent} {came : Nat} (h : Tab w lo hi tb M O l came) (hf : Fr S w w') (hh : hi ≤ w.heap.size) (hs : ∀ i, tabBlocks tb M O l i → ¬ S i) :
    Tab w' lo hi tb M O l came := by
  obtain ⟨es, cl, hm, hme⟩ := h.m
  obtain ⟨eo, co, ho, hoe⟩ := h.o
  exact ⟨h.blk.fr hf (hs _ (.inl rfl)), ⟨es, cl, (hf.block M (by have := h.m0; omega) (hs _ (.inr (.inl rfl)))).trans hm, hme⟩, ⟨eo, co, (hf.block O (by have := h.o0; omega) (hs _ (.inr (.inr (.inl rfl))))).trans ho, hoe⟩,
    h.forest.frB hf hh (fun b hb => hs b (.inr (.inr (.inr hb)))), h.tb0, h.m0, h.o0, h.mo, h.out, h.outm, h.outo, h.may, h.dist, h.cdist, h.cran, h.came0, fun es cl h' => h.stm es cl ((hf.block M (by have := h.m0; omega) (hs _ (.inr (.inl rfl)))).symm.trans h')⟩

theorem Tab.lt {w : World} {lo hi tb M O : Nat} {l : List Ent} {came : Nat} (h : Tab w lo hi tb M O l came) : ∀ i, tabBlocks tb M O l i → lo ≤ i ∧ i < hi := by
  rintro i (rfl | rfl | rfl | hi)
  · exact h.tb0
  · exact h.m0
  · exact h.o0
  · exact h.forest.blocks i hi

theorem Tab.more {w : World} {lo hi tb M O : Nat} {l : List Ent} {came : Nat} (h : Tab w lo hi tb M O l came) {lo' hi' : Nat} (h0 : lo' ≤ lo) (h1 : hi ≤ hi') : Tab w lo' hi' tb M O l came := by
  have a := h.tb0
  have b := h.m0
  have c := h.o0
  exact ⟨h.blk, h.m, h.o, h.forest.more h0 h1, by omega, by omega, by omega, h.mo, h.out, h.outm, h.outo, h.may, h.dist, h.cdist, h.cran, h.came0, h.stm⟩

theorem Tab.ne {w : World} {lo hi tb M O : Nat} {l : List Ent} {came : Nat} (h : Tab w lo hi tb M O l came) : M ≠ tb ∧ O ≠ tb := by
  obtain ⟨es, cl, hm, _⟩ := h.m
  obtain ⟨eo, co, ho, _⟩ := h.o
  have hb := h.blk
  unfold Blk at hb
  refine ⟨?_, ?_⟩
  · rintro rfl; rw [hb] at hm; cases hm
  · rintro rfl; rw [hb] at ho; cases ho

theorem Blk.cells11 {w : World} {g : Nat} {t : TypeId} {a b c d e a' b' c' d' e' f : Value} (h : Blk w g t #[a, b, c, d, e, a', b', c', d', e', f]) :
    w.cell? ⟨g, 0, none⟩ = some a ∧ w.cell? ⟨g, 1, none⟩ = some b ∧ w.cell? ⟨g, 2, none⟩ = some c ∧ w.cell? ⟨g, 3, none⟩ = some d ∧ w.cell? ⟨g, 4, none⟩ = some e ∧ w.cell? ⟨g, 5, none⟩ = some a' ∧ w.cell? ⟨g, 6, none⟩ = some b' ∧
      w.cell? ⟨g, 7, none⟩ = some c' ∧ w.cell? ⟨g, 8, none⟩ = some d' ∧ w.cell? ⟨g, 9, none⟩ = some e' ∧ w.cell? ⟨g, 10, none⟩ = some f ∧ ∀ i, w.frozen? ⟨g, i, none⟩ = false :=
  ⟨h.cell 0, h.cell 1, h.cell 2, h.cell 3, h.cell 4, h.cell 5, h.cell 6, h.cell 7, h.cell 8, h.cell 9, h.cell 10, h.frozen⟩

set_option maxHeartbeats 1000000 in
/-- brand.own, of one that may be. -/
theorem bown_any (t : T) (w : World) (lo hi : Nat) (ht : t.In w lo hi) (hh : hi ≤ w.heap.size) (hm : t.v.may = true) : Calls Try.prog 92 #[t.val] w (OwnP t.v w) := by
  have hO := fun w' h h' => Own_any t w' lo hi h h'
  rw [if_pos hm, if_pos hm] at hO
  have HM := hide hm
  clear hm
  cases t with
  | mk k n s A cap l r =>
    rw [T.val_mk] at *
    go_enter Try.func92, Try.ntmps92
    go_wp2_with fail
    refine (hO _ (ht.no (((Fr.refl No w).alloc _).alloc _) hh) (by simp; omega)).mono ?_
    rintro e w2 ⟨t', rfl, hv, ow, fr2⟩
    have b1 := (Blk.new' (w.alloc (.cells #[.int .u8 k, .int .i64 n, .string s, .slice A l.length cap, .int .i64 r] 27)) 27 #[.int .u8 0, .int .i64 0, .string ⟨#[]⟩, .slice none 0 0, .int .i64 0] (g := w.heap.size + 1) (by simp)).fr fr2 (fun h => h)
    obtain ⟨d0, d1, d2, d3, d4, df⟩ := b1.cells5
    have hlt := b1.lt
    have hF := hide (((((Fr.refl No w).alloc _).alloc _)).trans fr2)
    have hsz := fr2.size
    simp at hsz
    have HV := hide hv
    have HO := hide ow
    clear hv ow b1 hO
    cases t' with
    | mk k2 n2 s2 A2 cap2 l2 r2 =>
      rw [T.val_mk]
      go_wp2
      refine bodyPost_ret (v := .agg #[.int .u8 k2, .int .i64 n2, .string s2, .slice A2 l2.length cap2, .int .i64 r2]) (by simp [results, Try.results92, go_sem, *]) rfl ?_
      have hF2 := hF.out
      have hO2 := HO.out
      simp only [World.size_alloc] at hO2
      refine ⟨T.mk k2 n2 s2 A2 cap2 l2 r2, rfl, HV.out, ?_, ?_⟩
      · refine ((hO2.fr (S := (· = w.heap.size + 1)) ?_ (Nat.le_refl _) (fun i h0 h1 h2 => by omega)).more (by omega) ?_)
        · repeat (first | with_reducible exact Fr.refl _ w2 | with_reducible refine Fr.alloc ?_ _ | with_reducible refine Fr.set ?_ (by simp) _)
        · simp
      · repeat (first | with_reducible exact hF2 | with_reducible refine Fr.alloc ?_ _ | with_reducible refine Fr.setNew ?_ (by simp) _)

end Go.Proofs.Ytihjmipmjogpoaa

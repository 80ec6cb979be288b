/- Texts joined: Put2, F, Put3, G1. -/
import Derived.Test.YtihjmipmjogpoaaJn3
/- (*Table).Put, of a key that isn't there. -/
namespace Go.Proofs.Ytihjmipmjogpoaa
open Go.RowKit

theorem zero_ent (w : World) : (zeroValue 132).run Try.prog w = .ok (.agg #[.int .u8 0, .int .i64 0, .string ⟨#[]⟩, .slice none 0 0, .int .i64 0, .int .u8 0, .int .i64 0, .string ⟨#[]⟩, .slice none 0 0, .int .i64 0, .int .i64 0]) w := by kernel_rfl

theorem Fr.dcells {w w' : World} (f : Fr No w.drew w') (c i : Nat) (hc : c < w.heap.size) : w'.cell? ⟨c, i, none⟩ = w.drew.cell? ⟨c, i, none⟩ := f.cells c i hc

theorem set11 (w w' : World) (a c i : Nat) (v0 v1 v2 v3 v4 v5 v6 v7 v8 v9 v10 : Value) (f : Fr No w.drew w') (hc : c < w.heap.size) (hn : ¬ c = a) :
    (((((((((((w'.setCell ⟨a, 0, none⟩ v0).setCell ⟨a, 1, none⟩ v1).setCell ⟨a, 2, none⟩ v2).setCell ⟨a, 3, none⟩ v3).setCell ⟨a, 4, none⟩ v4).setCell ⟨a, 5, none⟩ v5).setCell ⟨a, 6, none⟩ v6).setCell ⟨a, 7, none⟩ v7).setCell ⟨a, 8, none⟩ v8).setCell ⟨a, 9, none⟩ v9).setCell ⟨a, 10, none⟩ v10).cell? ⟨c, i, none⟩ = w.drew.cell? ⟨c, i, none⟩ := by
  have h : ∀ (x : World) (j : Nat) (y : Value), (x.setCell ⟨a, j, none⟩ y).cell? ⟨c, i, none⟩ = x.cell? ⟨c, i, none⟩ := by
    intro x j y
    exact World.cell?_of_block (w := x) (Below.heap_setCell _ _ _ _ hn)
  rw [h, h, h, h, h, h, h, h, h, h, h]
  exact f.dcells c i hc

theorem sets11 (w : World) (a : Nat) (x0 x1 x2 x3 x4 x5 x6 x7 x8 x9 x10 v0 v1 v2 v3 v4 v5 v6 v7 v8 v9 v10 : Value) (h : Blk w a 132 #[x0, x1, x2, x3, x4, x5, x6, x7, x8, x9, x10]) :
    Blk (((((((((((w.setCell ⟨a, 0, none⟩ v0).setCell ⟨a, 1, none⟩ v1).setCell ⟨a, 2, none⟩ v2).setCell ⟨a, 3, none⟩ v3).setCell ⟨a, 4, none⟩ v4).setCell ⟨a, 5, none⟩ v5).setCell ⟨a, 6, none⟩ v6).setCell ⟨a, 7, none⟩ v7).setCell ⟨a, 8, none⟩ v8).setCell ⟨a, 9, none⟩ v9).setCell ⟨a, 10, none⟩ v10) a 132 #[v0, v1, v2, v3, v4, v5, v6, v7, v8, v9, v10] ∧
    Fr (fun i => i = a) w (((((((((((w.setCell ⟨a, 0, none⟩ v0).setCell ⟨a, 1, none⟩ v1).setCell ⟨a, 2, none⟩ v2).setCell ⟨a, 3, none⟩ v3).setCell ⟨a, 4, none⟩ v4).setCell ⟨a, 5, none⟩ v5).setCell ⟨a, 6, none⟩ v6).setCell ⟨a, 7, none⟩ v7).setCell ⟨a, 8, none⟩ v8).setCell ⟨a, 9, none⟩ v9).setCell ⟨a, 10, none⟩ v10) :=
  ⟨(by simpa only [List.setIfInBounds_toArray, List.set_cons_zero, List.set_cons_succ] using ((((((((((h.set_ 0 v0).set_ 1 v1).set_ 2 v2).set_ 3 v3).set_ 4 v4).set_ 5 v5).set_ 6 v6).set_ 7 v7).set_ 8 v8).set_ 9 v9).set_ 10 v10),
   (((((((((((Fr.refl (fun i => i = a) w).set (fun _ => rfl) v0).set (fun _ => rfl) v1).set (fun _ => rfl) v2).set (fun _ => rfl) v3).set (fun _ => rfl) v4).set (fun _ => rfl) v5).set (fun _ => rfl) v6).set (fun _ => rfl) v7).set (fun _ => rfl) v8).set (fun _ => rfl) v9).set (fun _ => rfl) v10⟩

theorem sets5 (w : World) (a : Nat) (t : TypeId) (x0 x1 x2 x3 x4 v0 v1 v2 v3 v4 : Value) (h : Blk w a t #[x0, x1, x2, x3, x4]) :
    Blk (((((w.setCell ⟨a, 0, none⟩ v0).setCell ⟨a, 1, none⟩ v1).setCell ⟨a, 2, none⟩ v2).setCell ⟨a, 3, none⟩ v3).setCell ⟨a, 4, none⟩ v4) a t #[v0, v1, v2, v3, v4] ∧
    Fr (fun i => i = a) w (((((w.setCell ⟨a, 0, none⟩ v0).setCell ⟨a, 1, none⟩ v1).setCell ⟨a, 2, none⟩ v2).setCell ⟨a, 3, none⟩ v3).setCell ⟨a, 4, none⟩ v4) :=
  ⟨(by simpa only [List.setIfInBounds_toArray, List.set_cons_zero, List.set_cons_succ] using ((((h.set_ 0 v0).set_ 1 v1).set_ 2 v2).set_ 3 v3).set_ 4 v4),
   (((((Fr.refl (fun i => i = a) w).set (fun _ => rfl) v0).set (fun _ => rfl) v1).set (fun _ => rfl) v2).set (fun _ => rfl) v3).set (fun _ => rfl) v4⟩

theorem sets5m (w : World) (a : Nat) (t : TypeId) (x0 x1 x2 x3 x4 x5 x6 x7 x8 x9 x10 v0 v1 v2 v3 v4 : Value) (h : Blk w a t #[x0, x1, x2, x3, x4, x5, x6, x7, x8, x9, x10]) :
    Blk (((((w.setCell ⟨a, 5, none⟩ v0).setCell ⟨a, 6, none⟩ v1).setCell ⟨a, 7, none⟩ v2).setCell ⟨a, 8, none⟩ v3).setCell ⟨a, 9, none⟩ v4) a t #[x0, x1, x2, x3, x4, v0, v1, v2, v3, v4, x10] ∧
    Fr (fun i => i = a) w (((((w.setCell ⟨a, 5, none⟩ v0).setCell ⟨a, 6, none⟩ v1).setCell ⟨a, 7, none⟩ v2).setCell ⟨a, 8, none⟩ v3).setCell ⟨a, 9, none⟩ v4) :=
  ⟨(by simpa only [List.setIfInBounds_toArray, List.set_cons_zero, List.set_cons_succ] using ((((h.set_ 5 v0).set_ 6 v1).set_ 7 v2).set_ 8 v3).set_ 9 v4),
   (((((Fr.refl (fun i => i = a) w).set (fun _ => rfl) v0).set (fun _ => rfl) v1).set (fun _ => rfl) v2).set (fun _ => rfl) v3).set (fun _ => rfl) v4⟩

theorem lt_of_heap {w : World} {i : Nat} {o : Obj} (h : w.heap[i]? = some o) : i < w.heap.size := by
  rcases Nat.lt_or_ge i w.heap.size with hlt | hge
  · exact hlt
  · rw [Array.getElem?_eq_none hge] at h; cases h

theorem OrdsAre.fresh {es : List MapEntry} {l : List Ent} {c : Nat} (h : OrdsAre es l) (hc : ∀ e ∈ l, 1 ≤ e.c ∧ e.c ≤ c) : ∀ e ∈ es, ∃ k : Int, e.key = .int .i64 k ∧ ((c : Int) + 1) ≠ k := by
  intro e he
  obtain ⟨i, hi, rfl⟩ := List.mem_iff_getElem.1 he
  have hi' : i < l.length := by rw [← h.1]; exact hi
  have := h.2 i es[i] l[i] (List.getElem?_eq_getElem hi) (List.getElem?_eq_getElem hi')
  have hc' := hc l[i] (List.getElem_mem hi')
  exact ⟨_, this.1, by omega⟩

/-- A key more. -/
theorem Tab.put {w w' : World} {lo tb M O : Nat} {l : List Ent} {came : Nat} (hT : Tab w lo w.heap.size tb M O l came) (fr : Fr (fun i => i = tb ∨ i = M ∨ i = O) w w')
    (hb : Blk w' tb 66 #[.map (some M), .map (some O), .int .i64 ((came : Int) + 1)]) {es eo : Array MapEntry} {c1 c2 b1 b2 : Nat} {m val : Value} (hes : EntsAre es.toList l) (heo : OrdsAre eo.toList l)
    (hM : w'.heap[M]? = some (.map (es.push { key := m, val := val, born := b1 }) c1)) (hO : w'.heap[O]? = some (.map (eo.push { key := .int .i64 ((came : Int) + 1), val := m, born := b2 }) c2))
    (x : Ent) (hx : x.c = came + 1) {p q p' q' : Nat} (hk : x.k.Ow w' p q) (hv : x.v.Ow w' p' q') (h0 : w.heap.size ≤ p) (h1 : p ≤ q) (h2 : q ≤ p') (h3 : p' ≤ q') (h4 : q' ≤ w'.heap.size) (hmk : IsMk x.k.v m) (hval : val = x.val)
    (hp : pos x.k.v (l.map fun e => e.k.v) = none) (hm1 : x.k.v.may = true) (hm2 : x.k.v.keys = true) (hm3 : x.v.v.may = true) (hc : came < 1000000) (hst : Stm es.toList b1) (hb1 : b1 < c1) :
    Tab w' lo w'.heap.size tb M O (l ++ [x]) (came + 1) := by
  have a := hT.tb0
  have b := hT.m0
  have c := hT.o0
  have hs := fr.size
  have F0 := (hT.forest.frB fr (Nat.le_refl _) (by
    rintro b hib (rfl | rfl | rfl)
    · exact hT.out hib
    · exact hT.outm hib
    · exact hT.outo hib)).more (Nat.le_refl _) h0
  have F1 := (F0.snoc hk (by omega) h1).more (Nat.le_refl lo) h2
  have F2 := (F1.snoc hv (by omega) h3).more (Nat.le_refl lo) h4
  have ht : trees (l ++ [x]) = trees l ++ [x.k] ++ [x.v] := by simp [trees]
  have hbk := fun i (hi : i ∈ x.k.blocks) => T.In.blocks x.k hk.inn i hi
  have hbv := fun i (hi : i ∈ x.v.blocks) => T.In.blocks x.v hv.inn i hi
  have hout : ∀ i, i < w.heap.size → i ∉ ((trees l).map T.blocks).flatten → i ∉ ((trees (l ++ [x])).map T.blocks).flatten := by
    intro i hi hn hm
    rw [ht] at hm
    simp only [List.map_append, List.flatten_append, List.mem_append, List.map_cons, List.map_nil, List.flatten_cons, List.flatten_nil, List.append_nil] at hm
    rcases hm with (hm | hm) | hm
    · exact hn hm
    · have := hbk i hm; omega
    · have := hbv i hm; omega
  have hlast : ∀ {P : Ent → Prop}, (∀ e ∈ l, P e) → P x → ∀ e ∈ l ++ [x], P e := by
    intro P h h' e he
    rcases List.mem_append.1 he with he | he
    · exact h e he
    · simp at he; subst he; exact h'
  refine ⟨by simpa using hb, ⟨_, _, hM, ?_, ?_⟩, ⟨_, _, hO, ?_, ?_⟩, by rw [ht]; exact F2, by omega, by omega, by omega, hT.mo, hout _ (by omega) hT.out, hout _ (by omega) hT.outm, hout _ (by omega) hT.outo, hlast hT.may ⟨hm1, hm2, hm3⟩, ?_, ?_, hlast (fun e he => by have := hT.cran e he; omega) (by omega), by omega, fun es2 cl2 h2 => ?_⟩
  · simp [hes.1]
  · intro i e y he hy
    rw [Array.toList_push] at he
    rcases Nat.lt_trichotomy i l.length with h | h | h
    · rw [List.getElem?_append_left (by rw [hes.1]; exact h)] at he
      rw [List.getElem?_append_left h] at hy
      exact hes.2 i e y he hy
    · rw [List.getElem?_append_right (by rw [hes.1]; omega), hes.1, h] at he
      rw [List.getElem?_append_right (by omega), h] at hy
      simp at he hy
      subst he; subst hy
      exact ⟨hmk, hval⟩
    · rw [List.getElem?_eq_none (by simp; omega)] at hy; cases hy
  · simp [heo.1]
  · intro i e y he hy
    rw [Array.toList_push] at he
    rcases Nat.lt_trichotomy i l.length with h | h | h
    · rw [List.getElem?_append_left (by rw [heo.1]; exact h)] at he
      rw [List.getElem?_append_left h] at hy
      exact heo.2 i e y he hy
    · rw [List.getElem?_append_right (by rw [heo.1]; omega), heo.1, h] at he
      rw [List.getElem?_append_right (by omega), h] at hy
      simp at he hy
      subst he; subst hy
      exact ⟨by rw [hx]; simp, hmk⟩
    · rw [List.getElem?_eq_none (by simp; omega)] at hy; cases hy
  · rw [List.pairwise_append]
    refine ⟨hT.dist, by simp, fun e he y hy => ?_⟩
    simp at hy; subst hy
    intro heq
    exact absurd (List.mem_map_of_mem (f := fun e : Ent => e.k.v) he) (by rw [heq]; exact pos_none hm1 hm2 (fun v hv => by obtain ⟨e, he, rfl⟩ := List.mem_map.1 hv; exact (hT.may e he).1) hp)
  · rw [List.pairwise_append]
    refine ⟨hT.cdist, by simp, fun e he y hy => ?_⟩
    simp at hy; subst hy
    have := hT.cran e he
    omega
  · rw [hM] at h2
    injection h2 with h2
    injection h2 with h3 h4
    subst h3 h4
    rw [Array.toList_push]
    refine ⟨fun y hy => ?_, ?_⟩
    · rcases List.mem_append.1 hy with hy | hy
      · have := hst.1 y hy; omega
      · simp at hy; subst hy; exact hb1
    · rw [List.map_append, List.nodup_append]
      refine ⟨hst.2, by simp, fun a ha b hb e => ?_⟩
      obtain ⟨y, hy, rfl⟩ := List.mem_map.1 ha
      simp at hb
      have := hst.1 y hy
      omega

/-- What Put leaves of a key that wasn't there. -/
def PutNew (a b : V) (lo tb M O : Nat) (l : List Ent) (came : Nat) (w : World) (e : Ending) (w' : World) : Prop :=
  e = .returned (tripZ 0) ∧ ∃ x : Ent, x.k.v = a ∧ x.v.v = b ∧ x.c = came + 1 ∧ Tab w' lo w'.heap.size tb M O (l ++ [x]) (came + 1) ∧ Fr (fun i => i = tb ∨ i = M ∨ i = O) w w' ∧ ∀ i, i ∈ x.k.blocks ∨ i ∈ x.v.blocks → w.heap.size ≤ i

set_option maxRecDepth 10000 in
set_option maxHeartbeats 4000000 in
theorem Put_new (a b : T) (w : World) (alo ahi : Nat) (ha : a.In w alo ahi) (hb : b.In w alo ahi) (hh : ahi ≤ w.heap.size) (lo tb M O : Nat) (l : List Ent) (came : Nat) (hT : Tab w lo w.heap.size tb M O l came)
    (hap : ∀ i, i ∈ a.blocks ∨ i ∈ b.blocks → i ≠ tb ∧ i ≠ M ∧ i ≠ O)
    (hma : a.v.may = true) (hmb : b.v.may = true) (hk : a.v.keys = true) (hp : pos a.v (l.map fun e => e.k.v) = none) (hc : came < 1000000) :
    Calls Try.prog 26 #[.pointer (some ⟨tb, 0, none⟩), a.val, b.val] w (PutNew a.v b.v lo tb M O l came w) := by
  have hA := fun w' h h' => may_any a w' alo ahi h h'
  have hB := fun w' h h' => may_any b w' alo ahi h h'
  have hF := fun w' h h' h'' => find_any a w' alo ahi h h' tb M O came h''
  have hOa := fun w' h h' => bown_any a w' alo ahi h h' hma
  have hOb := fun w' h h' => bown_any b w' alo ahi h h' hmb
  rw [hma] at hA
  rw [hmb] at hB
  have hd := may_dep hma
  cases a with
  | mk k n s A cap l1 r =>
  cases b with
  | mk k' n' s' A' cap' l' r' =>
    rw [T.val_mk] at *
    rw [T.val_mk] at *
    generalize hu : (T.mk k n s A cap l1 r).v = u at *
    generalize hv : (T.mk k' n' s' A' cap' l' r').v = v at *
    have hW : Fr No w (((w.alloc (.cells #[.int .u8 k, .int .i64 n, .string s, .slice A l1.length cap, .int .i64 r] 27)).alloc (.cells #[.int .u8 k', .int .i64 n', .string s', .slice A' l'.length cap', .int .i64 r'] 27)).alloc
        (.cells #[.int .u8 0, .int .i64 0, .string ⟨#[]⟩, .slice none 0 0, .int .i64 0] 27)) := (((Fr.refl No w).alloc _).alloc _).alloc _
    have hK : Blk (((w.alloc (.cells #[.int .u8 k, .int .i64 n, .string s, .slice A l1.length cap, .int .i64 r] 27)).alloc (.cells #[.int .u8 k', .int .i64 n', .string s', .slice A' l'.length cap', .int .i64 r'] 27)).alloc
        (.cells #[.int .u8 0, .int .i64 0, .string ⟨#[]⟩, .slice none 0 0, .int .i64 0] 27)) w.heap.size 27 #[.int .u8 k, .int .i64 n, .string s, .slice A l1.length cap, .int .i64 r] := ((Blk.new' w 27 _ rfl).alloc _).alloc _
    have hV : Blk (((w.alloc (.cells #[.int .u8 k, .int .i64 n, .string s, .slice A l1.length cap, .int .i64 r] 27)).alloc (.cells #[.int .u8 k', .int .i64 n', .string s', .slice A' l'.length cap', .int .i64 r'] 27)).alloc
        (.cells #[.int .u8 0, .int .i64 0, .string ⟨#[]⟩, .slice none 0 0, .int .i64 0] 27)) (w.heap.size + 1) 27 #[.int .u8 k', .int .i64 n', .string s', .slice A' l'.length cap', .int .i64 r'] := (Blk.new' (w.alloc _) 27 _ (by simp)).alloc _
    have hZ : Blk (((w.alloc (.cells #[.int .u8 k, .int .i64 n, .string s, .slice A l1.length cap, .int .i64 r] 27)).alloc (.cells #[.int .u8 k', .int .i64 n', .string s', .slice A' l'.length cap', .int .i64 r'] 27)).alloc
        (.cells #[.int .u8 0, .int .i64 0, .string ⟨#[]⟩, .slice none 0 0, .int .i64 0] 27)) (w.heap.size + 2) 27 #[.int .u8 0, .int .i64 0, .string ⟨#[]⟩, .slice none 0 0, .int .i64 0] := Blk.new' ((w.alloc _).alloc _) 27 _ (by simp)
    have hT0 := (hT.no hW (Nat.le_refl _)).more (Nat.le_refl _) hW.size
    have htb := hT.tb0
    have hm0 := hT.m0
    have ho0 := hT.o0
    have ha0 := ha.no hW hh
    have hb0 := hb.no hW hh
    have hsz : w.heap.size + 3 ≤ (((w.alloc (.cells #[.int .u8 k, .int .i64 n, .string s, .slice A l1.length cap, .int .i64 r] 27)).alloc (.cells #[.int .u8 k', .int .i64 n', .string s', .slice A' l'.length cap', .int .i64 r'] 27)).alloc
        (.cells #[.int .u8 0, .int .i64 0, .string ⟨#[]⟩, .slice none 0 0, .int .i64 0] 27)).heap.size := by simp
    have HU := hide hu
    have HV := hide hv
    have HMA := hide hma
    have HMB := hide hmb
    have HK := hide hk
    have HP := hide hp
    have hOlt : O < w.heap.size := hT.o0.2
    have hMlt : M < w.heap.size := hT.m0.2
    have HT := hide hT
    clear hu hv ha hb hT hma hmb hk hp
    go_enter Try.func26, Try.ntmps26
    go_wp2_with fail
    generalize World.alloc _ (.cells #[.int .u8 0, .int .i64 0, .string ⟨#[]⟩, .slice none 0 0, .int .i64 0] 27) = W0 at *
    have hN := none_tab tb M O came _ hT0.blk
    refine hN.mono ?_
    rintro e w' ⟨rfl, rfl⟩
    clear hN
    obtain ⟨c0, c1, c2, c3, c4, cf⟩ := hK.cells5
    go_wp2_with fail
    refine (hA _ ha0 (by omega)).mono ?_
    rintro e w2 ⟨rfl, fr2⟩
    obtain ⟨v0, v1, v2, v3, v4, vf⟩ := (hV.fr fr2 (fun h => h)).cells5
    clear hA c0 c1 c2 c3 c4 cf
    go_wp2_with fail
    refine (hB _ (hb0.no fr2 (by omega)) (by have := fr2.size; omega)).mono ?_
    rintro e w3 ⟨rfl, fr3⟩
    have fr23 := fr2.trans fr3
    obtain ⟨c0, c1, c2, c3, c4, cf⟩ := (hK.fr fr23 (fun h => h)).cells5
    clear hB v0 v1 v2 v3 v4 vf
    go_wp2_with fail
    refine (hF _ (ha0.no fr23 (by omega)) (by have := fr23.size; omega) (hT0.blk.fr fr23 (fun h => h))).mono ?_
    rintro e w4 ⟨h, -, -⟩
    obtain ⟨m, rfl, hmk, fr4⟩ := h HMA.out HK.out
    obtain ⟨ty, y, rfl⟩ := hmk.iface
    have fr04 := fr23.trans fr4
    have hT4 := (hT0.no fr04 (Nat.le_refl _)).more (Nat.le_refl _) fr04.size
    have hK4 := hK.fr fr04 (fun h => h)
    have hV4 := hV.fr fr04 (fun h => h)
    have hZ4 := hZ.fr fr04 (fun h => h)
    have ha4 := ha0.no fr04 (by omega)
    have hb4 := hb0.no fr04 (by omega)
    have hW4 := hW.trans fr04
    have hs4 : w.heap.size + 3 ≤ w4.heap.size := Nat.le_trans hsz fr04.size
    clear h fr2 fr3 fr23 fr4 fr04 hZ hV hK hT0 ha0 hb0 hW hF c0 c1 c2 c3 c4 cf hsz
    obtain ⟨es, cl, hm4, hes⟩ := hT4.m
    have HST := hide (hT4.stm es cl hm4)
    have hl4 := run_lookup_mark Try.underlying63 w4 (zero_ent _) u _ hmk hd HK.out true hm4 hes.keys (fun v _ => keys_ne2 u HK.out v)
    rw [HP.out] at hl4
    simp only [found] at hl4
    have t0 := hT4.blk.cell 0
    have t1 := hT4.blk.cell 1
    have t2 := hT4.blk.cell 2
    have tf := hT4.blk.frozen 2
    simp at t0 t1 t2
    have htb4 : tb < w4.heap.size := by omega
    go_wp2_with fail
    obtain ⟨eo, co, ho4, hoes⟩ := hT4.o
    obtain ⟨hne1, hne2⟩ := hT4.ne
    have fr45 : Fr (· = tb) w4 ((w4.setCell ⟨tb, 2, none⟩ (.int .i64 ((came : Int) + 1))).alloc (.cells #[.int .u8 0, .int .i64 0, .string ⟨#[]⟩, .slice none 0 0, .int .i64 0, .int .u8 0, .int .i64 0, .string ⟨#[]⟩, .slice none 0 0, .int .i64 0, .int .i64 0] 132)) :=
      ((Fr.refl (fun x => x = tb) w4).set (p := ⟨tb, 2, none⟩) (fun _ => rfl) _).alloc _
    have hX5 : Blk ((w4.setCell ⟨tb, 2, none⟩ (.int .i64 ((came : Int) + 1))).alloc (.cells #[.int .u8 0, .int .i64 0, .string ⟨#[]⟩, .slice none 0 0, .int .i64 0, .int .u8 0, .int .i64 0, .string ⟨#[]⟩, .slice none 0 0, .int .i64 0, .int .i64 0] 132)) w4.heap.size 132 _ := Blk.new' _ _ _ (by simp)
    have hs5 : ((w4.setCell ⟨tb, 2, none⟩ (.int .i64 ((came : Int) + 1))).alloc (.cells #[.int .u8 0, .int .i64 0, .string ⟨#[]⟩, .slice none 0 0, .int .i64 0, .int .u8 0, .int .i64 0, .string ⟨#[]⟩, .slice none 0 0, .int .i64 0, .int .i64 0] 132)).heap.size = w4.heap.size + 1 := by simp
    have hB5 : Blk ((w4.setCell ⟨tb, 2, none⟩ (.int .i64 ((came : Int) + 1))).alloc (.cells #[.int .u8 0, .int .i64 0, .string ⟨#[]⟩, .slice none 0 0, .int .i64 0, .int .u8 0, .int .i64 0, .string ⟨#[]⟩, .slice none 0 0, .int .i64 0, .int .i64 0] 132)) tb 66 #[.map (some M), .map (some O), .int .i64 ((came : Int) + 1)] := (hT4.blk.set_ 2 _).alloc _
    generalize (w4.setCell ⟨tb, 2, none⟩ (.int .i64 ((came : Int) + 1))).alloc (.cells #[.int .u8 0, .int .i64 0, .string ⟨#[]⟩, .slice none 0 0, .int .i64 0, .int .u8 0, .int .i64 0, .string ⟨#[]⟩, .slice none 0 0, .int .i64 0, .int .i64 0] 132) = w5 at *
    have hm5 := (fr45.block M (by omega) hne1).trans hm4
    have ho5 := (fr45.block O (by omega) hne2).trans ho4
    have hK5 := hK4.fr fr45 (by omega)
    have hV5 := hV4.fr fr45 (by omega)
    have hZ5 := hZ4.fr fr45 (by omega)
    have ha5 := ha4.frB fr45 (by omega) (fun b hb => (hap b (.inl hb)).1)
    have hb5 := hb4.frB fr45 (by omega) (fun b hb => (hap b (.inr hb)).1)
    obtain ⟨c0, c1, c2, c3, c4, cf⟩ := hK5.cells5
    have u2 := hB5.cell 2
    simp at u2
    have hX0 := hX5.cell
    have hXf := hX5.frozen
    have q0 : w.heap.size < w5.heap.size := by omega
    have q1 : tb < w5.heap.size := by omega
    have q2 : ¬ w.heap.size = w4.heap.size := by omega
    have q3 : ¬ tb = w4.heap.size := by omega
    have q4 : ahi ≤ w5.heap.size := by omega
    have HS5 := hide hs5
    have hB5' := hB5
    have HOb := hide hOb
    clear hl4 t0 t1 t2 tf hm4 ho4 hK4 hV4 hZ4 ha4 hb4 hs5 hOb
    go_region_held3 (fun w' => ∀ c i, c < w5.heap.size → ¬ c = w4.heap.size → w'.cell? ⟨c, i, none⟩ = w5.drew.cell? ⟨c, i, none⟩)
      (first | (intro c i hc hn; first | with_reducible rfl | with_reducible exact Fr.dcells ‹_› c i hc | with_reducible exact set11 _ _ _ c i _ _ _ _ _ _ _ _ _ _ _ ‹_› hc hn))
      (first | (go_at_call 92; ((with_reducible refine (hOa _ ?_ ?_).mono ?_); (exact ha5.no (Fr.drew (Fr.refl No w5)) q4); (exact q4); rintro e w6 ⟨tk, rfl, hkv, kow, fr6⟩; obtain ⟨z0, z1, z2, z3, z4, z5, z6, z7, z8, z9, z10, zf⟩ := (Blk.fr (a := w5.drew) hX5 fr6 (fun h => h)).cells11; obtain ⟨k2, n2, s2, A2, cap2, l2, r2⟩ := tk; rw [T.val_mk])))
    have hB6 := (hB5.drew).fr fr6 (fun h => h)
    obtain ⟨hX7, fr67⟩ := sets11 w6 w4.heap.size _ _ _ _ _ _ _ _ _ _ _ (.int .u8 k2) (.int .i64 n2) (.string s2) (.slice A2 l2.length cap2) (.int .i64 r2) (.int .u8 0) (.int .i64 0) (.string ⟨#[]⟩) (.slice none 0 0) (.int .i64 0) (.int .i64 ((came : Int) + 1)) (Blk.fr (a := w5.drew) hX5 fr6 (fun h => h))
    have hB7 := hB6.fr fr67 q3
    have hO6 := (fr6.block O (by have := hT4.o0; simp; omega) (fun h => h)).trans ho5
    have hO7 := (fr67.block O (by have := hT4.o0; have := fr6.size; simp at this; omega) (by have := hT4.o0; omega)).trans hO6
    have fr57 : Fr (fun i => i = w4.heap.size) w5 _ := ((Fr.refl (fun i => i = w4.heap.size) w5).drew.thenNo fr6).trans fr67
    generalize World.setCell _ ⟨w4.heap.size, 10, none⟩ _ = w7 at *
    have e1 := hB7.cell 1
    have e2 := hB7.cell 2
    simp at e1 e2
    have hup := run_update_num Try.underlying64 w7.drew ((came : Int) + 1) (.iface ty y) hO7 (hoes.fresh hT4.cran)
    have hs67 := fr67.size
    have hs6 : w5.heap.size ≤ w6.heap.size := fr6.size
    have q5 : tb < w7.heap.size := by have := HS5.out; omega
    have HB7 := hide hB7
    have HX7 := hide hX7
    have HF57 := hide fr57
    have HE := hide hoes
    clear hB7 hX7 fr57 hoes hB6 hO6 hX5 hB5 z0 z1 z2 z3 z4 z5 z6 z7 z8 z9 z10 zf c0 c1 c2 c3 c4 cf u2 hX0 hXf
    rename (∀ c i, c < w5.heap.size → _) => hHd
    clear hHd
    go_wp2_with fail
    go_region
    have fr78 : Fr (fun i => i = O) w7 (w7.drew.putObj O (.map (eo.push { key := .int .i64 ((came : Int) + 1), val := .iface ty y, born := co }) (co + 1))) := ((Fr.refl (fun i => i = O) w7).drew).putObj (fun _ => rfl) _
    have hO8 := World.putObj_heap_same (w := w7.drew) (o := .map (eo.push { key := .int .i64 ((came : Int) + 1), val := .iface ty y, born := co }) (co + 1)) (lt_of_heap hO7)
    have fr58 : Fr (fun i => i = w4.heap.size ∨ i = O) w5 _ := (HF57.out.mono fun i _ h => .inl h).trans' fr78 (fun i _ h => .inr h)
    generalize World.putObj _ _ _ = w8 at *
    have hX8 := HX7.out.fr fr78 (by omega)
    have hV8 := hV5.fr fr58 (by omega)
    have hZ8 := hZ5.fr fr58 (by omega)
    have hb8 := hb5.frB fr58 (by omega) (fun b hb => by have := hap b (.inr hb); have := T.In.blocks _ hb5 b hb; omega)
    have hs58 := fr58.size
    obtain ⟨z0, z1, z2, z3, z4, z5, z6, z7, z8, z9, z10, zf⟩ := hX8.cells11
    obtain ⟨d0, d1, d2, d3, d4, df⟩ := hZ8.cells5
    obtain ⟨c0, c1, c2, c3, c4, cf⟩ := hV8.cells5
    have q6 : w4.heap.size < w8.heap.size := by have := HS5.out; omega
    have q7 : w.heap.size + 2 < w8.heap.size := by omega
    have q8 : w.heap.size + 1 < w8.heap.size := by omega
    clear e1 e2 hup hO7
    go_wp2_with fail
    obtain ⟨hZ9, fr89⟩ := sets5 w8 (w.heap.size + 1 + 1) 27 _ _ _ _ _ (.int .u8 0) (.int .i64 0) (.string ⟨#[]⟩) (.slice none 0 0) (.int .i64 0) hZ8
    generalize World.setCell _ ⟨w.heap.size + 1 + 1, 4, none⟩ _ = w9 at *
    have hs89 := fr89.size
    have hb9 := hb8.frB fr89 (by omega) (fun b hb => by have := T.In.blocks _ hb8 b hb; omega)
    have fr59 : Fr (fun i => i = w4.heap.size ∨ i = O ∨ i = w.heap.size + 2) w5 w9 := (fr58.mono fun i _ h => by omega).trans' fr89 (fun i _ h => by omega)
    have hX9 := hX8.fr fr89 (by omega)
    have hO9 := (fr89.block O (by omega) (by omega)).trans hO8
    refine (HOb.out w9 hb9 (by omega)).mono ?_
    rintro e wA ⟨tv, rfl, hvv, vow, frA⟩
    have hsA := frA.size
    have hZA := hZ9.fr frA (fun h => h)
    have hXA := hX9.fr frA (fun h => h)
    have hOA := (frA.block O (by omega) (fun h => h)).trans hO9
    have fr5A : Fr (fun i => i = w4.heap.size ∨ i = O ∨ i = w.heap.size + 2) w5 wA := fr59.thenNo frA
    obtain ⟨z0, z1, z2, z3, z4, z5, z6, z7, z8, z9, z10, zf⟩ := hXA.cells11
    have q9 : w4.heap.size < wA.heap.size := by omega
    clear hO8 hX8 hZ8 hV8 d0 d1 d2 d3 d4 df c0 c1 c2 c3 c4 cf q6 q7 q8
    have HVV := hide hvv
    have HVO := hide vow
    clear hvv vow
    obtain ⟨k3, n3, s3, A3, cap3, l3, r3⟩ := tv
    rw [T.val_mk]
    go_wp2_with fail
    obtain ⟨hXB, frAB⟩ := sets5m wA w4.heap.size 132 _ _ _ _ _ _ _ _ _ _ _ (.int .u8 k3) (.int .i64 n3) (.string s3) (.slice A3 l3.length cap3) (.int .i64 r3) hXA
    generalize World.setCell _ ⟨w4.heap.size, 9, none⟩ _ = wB at *
    have hsB := frAB.size
    have fr5B : Fr (fun i => i = w4.heap.size ∨ i = O ∨ i = w.heap.size + 2) w5 wB := fr5A.trans' frAB (fun i _ h => .inl h)
    have hZB := hZA.fr frAB (by omega)
    have hBB := hB5'.fr fr5B (by have := hT4.ne; omega)
    have hMO := hT4.mo
    have hmB := (fr5B.block M (by omega) (by omega)).trans hm5
    have hOB := (frAB.block O (by omega) (by omega)).trans hOA
    have e0 := hBB.cell 0
    simp at e0
    have hup := run_update_new Try.underlying63 wB.drew u (.iface ty y) (.agg #[.int .u8 k2, .int .i64 n2, .string s2, .slice A2 l2.length cap2, .int .i64 r2, .int .u8 k3, .int .i64 n3, .string s3, .slice A3 l3.length cap3, .int .i64 r3, .int .i64 ((came : Int) + 1)]) hmk hd HK.out hmB hes.keys HP.out
    clear z0 z1 z2 z3 z4 z5 z6 z7 z8 z9 z10 zf q5
    obtain ⟨z0, z1, z2, z3, z4, z5, z6, z7, z8, z9, z10, zf⟩ := hXB.cells11
    have q5 : tb < wB.heap.size := by omega
    have q10 : w4.heap.size < wB.heap.size := by omega
    go_region
    clear z0 z1 z2 z3 z4 z5 z6 z7 z8 z9 z10 zf hup e0
    have frBC : Fr (fun i => i = M) wB _ := ((Fr.refl (fun i => i = M) wB).drew).putObj (fun _ => rfl) (.map (es.push { key := .iface ty y, val := .agg #[.int .u8 k2, .int .i64 n2, .string s2, .slice A2 l2.length cap2, .int .i64 r2, .int .u8 k3, .int .i64 n3, .string s3, .slice A3 l3.length cap3, .int .i64 r3, .int .i64 ((came : Int) + 1)], born := cl }) (cl + 1))
    have hMC := World.putObj_heap_same (w := wB.drew) (o := .map (es.push { key := .iface ty y, val := .agg #[.int .u8 k2, .int .i64 n2, .string s2, .slice A2 l2.length cap2, .int .i64 r2, .int .u8 k3, .int .i64 n3, .string s3, .slice A3 l3.length cap3, .int .i64 r3, .int .i64 ((came : Int) + 1)], born := cl }) (cl + 1)) (lt_of_heap hmB)
    generalize World.putObj _ _ _ = wC at *
    have hZC := hZB.fr frBC (by omega)
    have hBC := hBB.fr frBC (by have := hT4.ne; omega)
    have hOC := (frBC.block O (by omega) (by omega)).trans hOB
    have fr5C : Fr (fun i => i = w4.heap.size ∨ i = O ∨ i = w.heap.size + 2 ∨ i = M) w5 wC := (fr5B.mono fun i _ h => by omega).trans' frBC (fun i _ h => by omega)
    have hsC := frBC.size
    obtain ⟨d0, d1, d2, d3, d4, df⟩ := hZC.cells5
    have q11 : w.heap.size + 2 < wC.heap.size := by omega
    go_wp2_with fail
    obtain ⟨hZD, frCD⟩ := sets5 wC (w.heap.size + 1 + 1) 27 _ _ _ _ _ (.int .u8 0) (.int .i64 0) (.string ⟨#[]⟩) (.slice none 0 0) (.int .i64 0) hZC
    generalize World.setCell _ ⟨w.heap.size + 1 + 1, 4, none⟩ _ = wD at *
    clear d0 d1 d2 d3 d4 df
    obtain ⟨d0, d1, d2, d3, d4, df⟩ := hZD.cells5
    refine bodyPost_ret (v := tripZ 0) (by simp [results, Try.results26, go_sem, tripZ, *]) rfl ?_
    refine ⟨rfl, ⟨T.mk k2 n2 s2 A2 cap2 l2 r2, T.mk k3 n3 s3 A3 cap3 l3 r3, came + 1⟩, hkv, HVV.out, rfl, ?_⟩
    · have hkv' : (T.mk k2 n2 s2 A2 cap2 l2 r2).v = u := hkv
      have hvv' := HVV.out
      have hs5 := HS5.out
      have nn0 : w4.heap.size < w5.heap.size := by omega
      have nn1 : O < w5.heap.size := by omega
      have nn2 : w.heap.size + 1 + 1 < w5.heap.size := by omega
      have nn3 : M < w5.heap.size := by omega
      have g1 : Fr (fun i => i < w5.heap.size) w6 w7 := fr67.mono fun i _ h => h ▸ nn0
      have g2 : Fr (fun i => i < w5.heap.size) w6 w8 := g1.trans' fr78 fun i _ h => h ▸ nn1
      have g3 : Fr (fun i => i < w5.heap.size) w6 w9 := g2.trans' fr89 fun i _ h => h ▸ nn2
      have g4 : Fr (fun i => i < w5.heap.size) wA wB := frAB.mono fun i _ h => h ▸ nn0
      have g5 : Fr (fun i => i < w5.heap.size) wA wC := g4.trans' frBC fun i _ h => h ▸ nn3
      have g6 : Fr (fun i => i < w5.heap.size) wA wD := g5.trans' frCD fun i _ h => h ▸ nn2
      have g7 : Fr (fun i => i < w5.heap.size) w6 wD := (g3.thenNo frA).trans g6
      have gs := g6.size
      have f0 : Fr (fun i => i = tb ∨ i = M ∨ i = O) w w5 := (hW4.mono (S' := fun i => i = tb ∨ i = M ∨ i = O) (fun i _ h => h.elim)).trans' fr45 (fun i _ h => .inl h)
      have f1 : Fr (fun i => i = tb ∨ i = M ∨ i = O) w w7 := f0.trans' HF57.out (fun i hi h => by have h' : i = w4.heap.size := h; omega)
      have f2 : Fr (fun i => i = tb ∨ i = M ∨ i = O) w w9 := (f1.trans' fr78 (fun i _ h => .inr (.inr h))).trans' fr89 (fun i hi h => by have h' : i = w.heap.size + 1 + 1 := h; omega)
      have f3 : Fr (fun i => i = tb ∨ i = M ∨ i = O) w wB := (f2.thenNo frA).trans' frAB (fun i hi h => by have h' : i = w4.heap.size := h; omega)
      have hF : Fr (fun i => i = tb ∨ i = M ∨ i = O) w wD := (f3.trans' frBC (fun i _ h => .inr (.inl h))).trans' frCD (fun i hi h => by have h' : i = w.heap.size + 1 + 1 := h; omega)
      have k6 := (kow.frB g7 (Nat.le_refl _) (fun b hb => by have := T.In.blocks _ kow.inn b hb; simp at this; omega))
      have v6 := (HVO.out.frB g6 (Nat.le_refl _) (fun b hb => by have := T.In.blocks _ HVO.out.inn b hb; omega))
      have hw5 : w.heap.size ≤ w5.heap.size := f0.size
      have hw9 : w.heap.size ≤ w9.heap.size := f2.size
      refine ⟨?_, hF, fun i hi => hi.elim (fun hi => by have := T.In.blocks _ k6.inn i hi; simp at this; omega) (fun hi => by have := T.In.blocks _ v6.inn i hi; omega)⟩
      exact Tab.put HT.out hF (hBC.fr frCD (by omega)) hes HE.out ((frCD.block M (by omega) (by omega)).trans hMC) ((frCD.block O (by omega) (by omega)).trans hOC) ⟨T.mk k2 n2 s2 A2 cap2 l2 r2, T.mk k3 n3 s3 A3 cap3 l3 r3, came + 1⟩ rfl k6 v6
        (show w.heap.size ≤ w5.drew.heap.size from f0.size) fr6.size g3.size frA.size g6.size (by show IsMk (T.mk k2 n2 s2 A2 cap2 l2 r2).v _; rw [hkv']; exact hmk) rfl (by show pos (T.mk k2 n2 s2 A2 cap2 l2 r2).v _ = none; rw [hkv']; exact HP.out) (by show (T.mk k2 n2 s2 A2 cap2 l2 r2).v.may = true; rw [hkv']; exact HMA.out) (by show (T.mk k2 n2 s2 A2 cap2 l2 r2).v.keys = true; rw [hkv']; exact HK.out) (by show (T.mk k3 n3 s3 A3 cap3 l3 r3).v.may = true; rw [hvv']; exact HMB.out) hc HST.out (Nat.lt_succ_self _)

end Go.Proofs.Ytihjmipmjogpoaa

/- Forests: turned round, parted. -/
namespace Go.Proofs.Ytihjmipmjogpoaa
open Go.RowKit

theorem perm_flatten {l l' : List (List Nat)} (h : l.Perm l') : l.flatten.Perm l'.flatten := by
  induction h with
  | nil => exact .refl _
  | cons x _ ih => simp only [List.flatten_cons]; exact ih.append_left x
  | swap x y l => simp only [List.flatten_cons, ← List.append_assoc]; exact (List.perm_append_comm).append_right _
  | trans _ _ ih1 ih2 => exact ih1.trans ih2

section
variable {w : World} {lo hi : Nat} {l l' : List T}
theorem Forest.perm (h : Forest w lo hi l) (p : l.Perm l') : Forest w lo hi l' :=
  ⟨fun x hx => h.inn x (p.mem_iff.2 hx), (perm_flatten (p.map T.blocks)).nodup_iff.1 h.nodup, fun b hb => h.free b ((perm_flatten (p.map T.blocks)).mem_iff.2 hb)⟩

theorem Forest.left (h : Forest w lo hi (l ++ l')) : Forest w lo hi l := by
  have hn := h.nodup
  rw [List.map_append, List.flatten_append, List.nodup_append] at hn
  exact ⟨fun x hx => h.inn x (List.mem_append_left _ hx), hn.1, fun b hb => h.free b (by rw [List.map_append, List.flatten_append]; exact List.mem_append_left _ hb)⟩

theorem Forest.right (h : Forest w lo hi (l ++ l')) : Forest w lo hi l' := by
  have hn := h.nodup
  rw [List.map_append, List.flatten_append, List.nodup_append] at hn
  exact ⟨fun x hx => h.inn x (List.mem_append_right _ hx), hn.2.1, fun b hb => h.free b (by rw [List.map_append, List.flatten_append]; exact List.mem_append_right _ hb)⟩

theorem Forest.apart (h : Forest w lo hi (l ++ l')) : ∀ b ∈ (l.map T.blocks).flatten, b ∉ (l'.map T.blocks).flatten := by
  have hn := h.nodup
  rw [List.map_append, List.flatten_append, List.nodup_append] at hn
  exact fun b hb hb' => hn.2.2 b hb b hb' rfl

theorem Forest.one {t : T} : Forest w lo hi [t] ↔ t.Ow w lo hi := by
  constructor
  · intro h
    exact ⟨h.inn t (by simp), by simpa using h.nodup, fun b hb => h.free b (by simpa using hb)⟩
  · intro h
    exact ⟨by simpa using h.inn, by simpa using h.nodup, by simpa using h.free⟩
end

theorem split_at {l : List Ent} {i : Nat} {x : Ent} (h : l[i]? = some x) : ∃ l1 l2, l = l1 ++ x :: l2 ∧ l1.length = i := by
  obtain ⟨hi, hx⟩ := List.getElem?_eq_some_iff.1 h
  refine ⟨l.take i, l.drop (i + 1), ?_, by simp; omega⟩
  rw [← hx, ← List.drop_eq_getElem_cons hi, List.take_append_drop]

theorem trees_append (l l' : List Ent) : trees (l ++ l') = trees l ++ trees l' := by simp [trees]
theorem trees_cons (x : Ent) (l : List Ent) : trees (x :: l) = [x.k, x.v] ++ trees l := by simp [trees]

theorem trees_perm (l1 l2 : List Ent) (x : Ent) : (trees (l1 ++ x :: l2)).Perm ((trees l1 ++ [x.k] ++ trees l2) ++ [x.v]) := by
  rw [trees_append, trees_cons]
  have h : ([x.k, x.v] ++ trees l2).Perm ([x.k] ++ trees l2 ++ [x.v]) := by
    simp only [List.cons_append, List.nil_append]
    exact (List.perm_append_singleton x.v (trees l2)).symm.cons x.k
  simpa only [List.append_assoc] using h.append_left (trees l1)

end Go.Proofs.Ytihjmipmjogpoaa

/- (*Table).Put, of a key that is there. -/
namespace Go.Proofs.Ytihjmipmjogpoaa
open Go.RowKit

/-- What Put leaves of a key that was there. -/
def PutOld (b : V) (lo tb M O : Nat) (l : List Ent) (came i : Nat) (x : Ent) (w : World) (e : Ending) (w' : World) : Prop :=
  e = .returned (.tuple #[x.v.val, .bool true, .int .i64 0]) ∧ ∃ v' : T, v'.v = b ∧ Tab w' lo w'.heap.size tb M O (l.set i ⟨x.k, v', x.c⟩) came ∧ x.v.Ow w' lo w'.heap.size ∧
    (∀ b ∈ x.v.blocks, ¬ tabBlocks tb M O (l.set i ⟨x.k, v', x.c⟩) b) ∧ Fr (fun i => i = M) w w' ∧ ∀ i ∈ v'.blocks, w.heap.size ≤ i

/-- Another value under a key. -/
theorem Tab.put_old {w w' : World} {lo tb M O : Nat} {l : List Ent} {came : Nat} (hT : Tab w lo w.heap.size tb M O l came) (fr : Fr (fun i => i = M) w w')
    {es : Array MapEntry} {c1 i : Nat} {m val : Value} {x : Ent} {v' : T} {p q : Nat} (hes : EntsAre es.toList l)
    (hM : w'.heap[M]? = some (.map (es.modify i fun e => { e with key := m, val := val }) c1)) (hx : l[i]? = some x) (hv : v'.Ow w' p q) (h0 : w.heap.size ≤ p) (h1 : p ≤ q) (h2 : q ≤ w'.heap.size)
    (hmk : IsMk x.k.v m) (hval : val = (⟨x.k, v', x.c⟩ : Ent).val) (hm3 : v'.v.may = true) (hst : Stm es.toList c1) :
    Tab w' lo w'.heap.size tb M O (l.set i ⟨x.k, v', x.c⟩) came ∧ x.v.Ow w' lo w'.heap.size ∧ (∀ b ∈ x.v.blocks, ¬ tabBlocks tb M O (l.set i ⟨x.k, v', x.c⟩) b) := by
  have a := hT.tb0
  have b := hT.m0
  have c := hT.o0
  have hs := fr.size
  have hne := hT.ne
  have hmo := hT.mo
  obtain ⟨eo, co, ho, hoe⟩ := hT.o
  obtain ⟨l1, l2, rfl, rfl⟩ := split_at hx
  have hset : (l1 ++ x :: l2).set l1.length ⟨x.k, v', x.c⟩ = l1 ++ ⟨x.k, v', x.c⟩ :: l2 := by simp
  rw [hset]
  have F0 : Forest w' lo w.heap.size (trees (l1 ++ x :: l2)) := hT.forest.frB fr (Nat.le_refl _) (by rintro b hib rfl; exact hT.outm hib)
  have F1 := F0.perm (trees_perm l1 l2 x)
  have FA := F1.left
  have FV := Forest.one.1 F1.right
  have hap := F1.apart
  have F2 := ((FA.more (Nat.le_refl lo) h0).snoc hv (by omega) h1).more (Nat.le_refl lo) h2
  have F3 := F2.perm (trees_perm l1 l2 ⟨x.k, v', x.c⟩).symm
  have hbv := fun i (hi : i ∈ v'.blocks) => T.In.blocks v' hv.inn i hi
  have hmem : ∀ i, i ∈ ((trees (l1 ++ ⟨x.k, v', x.c⟩ :: l2)).map T.blocks).flatten → i ∈ ((trees l1 ++ [x.k] ++ trees l2).map T.blocks).flatten ∨ i ∈ v'.blocks := by
    intro i hi
    have h := (perm_flatten ((trees_perm l1 l2 ⟨x.k, v', x.c⟩).map T.blocks)).mem_iff.1 hi
    rw [List.map_append, List.flatten_append, List.mem_append] at h
    simpa using h
  have hold : ∀ i, i ∈ ((trees l1 ++ [x.k] ++ trees l2).map T.blocks).flatten → i ∈ ((trees (l1 ++ x :: l2)).map T.blocks).flatten := by
    intro i hi
    refine (perm_flatten ((trees_perm l1 l2 x).map T.blocks)).mem_iff.2 ?_
    rw [List.map_append, List.flatten_append]
    exact List.mem_append_left _ hi
  have hout : ∀ i, i < w.heap.size → i ∉ ((trees (l1 ++ x :: l2)).map T.blocks).flatten → i ∉ ((trees (l1 ++ ⟨x.k, v', x.c⟩ :: l2)).map T.blocks).flatten := by
    intro i hi hn hm
    rcases hmem i hm with h | h
    · exact hn (hold i h)
    · have := hbv i h; omega
  have hxb : ∀ b ∈ x.v.blocks, b ∈ ((trees (l1 ++ x :: l2)).map T.blocks).flatten := by
    intro b hb
    refine (perm_flatten ((trees_perm l1 l2 x).map T.blocks)).mem_iff.2 ?_
    rw [List.map_append, List.flatten_append]
    exact List.mem_append_right _ (by simpa using hb)
  have hall : ∀ {P : Ent → Prop}, (∀ e ∈ l1 ++ x :: l2, P e) → P ⟨x.k, v', x.c⟩ → ∀ e ∈ l1 ++ ⟨x.k, v', x.c⟩ :: l2, P e := by
    intro P h h' e he
    rcases List.mem_append.1 he with he | he
    · exact h e (List.mem_append_left _ he)
    · rcases List.mem_cons.1 he with rfl | he
      · exact h'
      · exact h e (by simp [he])
  have hmx := hT.may x (by simp)
  have hpos : es.toList.length = (l1 ++ x :: l2).length := hes.1
  refine ⟨⟨(hT.blk.fr fr (by omega)), ⟨_, _, hM, ?_, ?_⟩, ⟨eo, co, (fr.block O (by omega) (by omega)).trans ho, ?_, ?_⟩, F3, by omega, by omega, by omega, hT.mo, hout _ (by omega) hT.out, hout _ (by omega) hT.outm, hout _ (by omega) hT.outo, hall hT.may ⟨hmx.1, hmx.2.1, hm3⟩, ?_, ?_, hall hT.cran (hT.cran x (by simp)), hT.came0, fun es2 cl2 h2 => ?_⟩, FV.more (Nat.le_refl _) hs, ?_⟩
  · simpa using hes.1
  · intro j e y he hy
    rw [Array.toList_modify] at he
    rw [List.getElem?_modify] at he
    rcases Nat.lt_trichotomy j l1.length with h | h | h
    · rw [List.getElem?_append_left h] at hy
      exact hes.2 j e y (by simpa [show ¬ l1.length = j by omega] using he) (by rw [List.getElem?_append_left h]; exact hy)
    · subst h
      rw [List.getElem?_append_right (Nat.le_refl _)] at hy
      simp at hy; subst hy
      simp at he
      obtain ⟨e0, -, rfl⟩ := he
      exact ⟨hmk, hval⟩
    · have hy' : (l1 ++ x :: l2)[j]? = some y := by
        rw [List.getElem?_append_right (by omega)] at hy ⊢
        obtain ⟨d, hd⟩ : ∃ d, j - l1.length = d + 1 := ⟨j - l1.length - 1, by omega⟩
        rw [hd] at hy ⊢
        simpa using hy
      exact hes.2 j e y (by simpa [show ¬ l1.length = j by omega] using he) hy'
  · simpa using hoe.1
  · intro j e y he hy
    rcases Nat.lt_trichotomy j l1.length with h | h | h
    · rw [List.getElem?_append_left h] at hy
      exact hoe.2 j e y he (by rw [List.getElem?_append_left h]; exact hy)
    · subst h
      rw [List.getElem?_append_right (Nat.le_refl _)] at hy
      simp at hy; subst hy
      exact hoe.2 _ e x he (by simp)
    · have hy' : (l1 ++ x :: l2)[j]? = some y := by
        rw [List.getElem?_append_right (by omega)] at hy ⊢
        obtain ⟨d, hd⟩ : ∃ d, j - l1.length = d + 1 := ⟨j - l1.length - 1, by omega⟩
        rw [hd] at hy ⊢
        simpa using hy
      exact hoe.2 j e y he hy'
  · have h := hT.dist
    rw [List.pairwise_append, List.pairwise_cons] at h ⊢
    exact ⟨h.1, ⟨h.2.1.1, h.2.1.2⟩, fun e he y hy => by
      rcases List.mem_cons.1 hy with rfl | hy
      · exact h.2.2 e he x (by simp)
      · exact h.2.2 e he y (by simp [hy])⟩
  · have h := hT.cdist
    rw [List.pairwise_append, List.pairwise_cons] at h ⊢
    exact ⟨h.1, ⟨h.2.1.1, h.2.1.2⟩, fun e he y hy => by
      rcases List.mem_cons.1 hy with rfl | hy
      · exact h.2.2 e he x (by simp)
      · exact h.2.2 e he y (by simp [hy])⟩
  · rw [hM] at h2
    injection h2 with h2
    injection h2 with h3 h4
    subst h3 h4
    have hborn : (es.modify l1.length fun e => { e with key := m, val := val }).toList.map (·.born) = es.toList.map (·.born) := by
      refine List.ext_getElem? fun j => ?_
      simp only [Array.toList_modify, List.getElem?_map, List.getElem?_modify]
      cases es.toList[j]? with
      | none => rfl
      | some e =>
        by_cases hj : l1.length = j
        · simp [hj]
        · simp [hj]
    refine ⟨fun y hy => ?_, by rw [hborn]; exact hst.2⟩
    have := List.mem_map_of_mem (f := fun e : MapEntry => e.born) hy
    rw [hborn] at this
    obtain ⟨z, hz, hzb⟩ := List.mem_map.1 this
    rw [← hzb]
    exact hst.1 z hz
  · rintro b hb (rfl | rfl | rfl | h)
    · exact hT.out (hxb _ hb)
    · exact hT.outm (hxb _ hb)
    · exact hT.outo (hxb _ hb)
    · rcases hmem b h with h | h
      · exact hap b h (by simpa using hb)
      · have := hbv b h
        have := T.In.blocks _ FV.inn b hb
        omega

set_option maxRecDepth 10000 in
set_option maxHeartbeats 4000000 in
theorem Put_old (a b : T) (w : World) (alo ahi : Nat) (ha : a.In w alo ahi) (hb : b.In w alo ahi) (hh : ahi ≤ w.heap.size) (lo tb M O : Nat) (l : List Ent) (came : Nat) (hT : Tab w lo w.heap.size tb M O l came)
    (hap : ∀ i, i ∈ a.blocks ∨ i ∈ b.blocks → i ≠ tb ∧ i ≠ M ∧ i ≠ O)
    (hma : a.v.may = true) (hmb : b.v.may = true) (hk : a.v.keys = true) {i : Nat} {x : Ent} (hp : pos a.v (l.map fun e => e.k.v) = some i) (hx : l[i]? = some x) :
    Calls Try.prog 26 #[.pointer (some ⟨tb, 0, none⟩), a.val, b.val] w (PutOld b.v lo tb M O l came i x w) := by
  have hA := fun w' h h' => may_any a w' alo ahi h h'
  have hB := fun w' h h' => may_any b w' alo ahi h h'
  have hF := fun w' h h' h'' => find_any a w' alo ahi h h' tb M O came h''
  have hOa := fun w' h h' => bown_any a w' alo ahi h h' hma
  have hOb := fun w' h h' => bown_any b w' alo ahi h h' hmb
  rw [hma] at hA
  rw [hmb] at hB
  have hd := may_dep hma
  have hxk : x.k.v = a.v := by
    have h := pos_some hma hk (fun v hv => by obtain ⟨e, he, rfl⟩ := List.mem_map.1 hv; exact (hT.may e he).1) hp
    rw [List.getElem?_map, hx] at h
    simpa using h
  cases a with
  | mk k n s A cap l1 r =>
  cases b with
  | mk k' n' s' A' cap' l' r' =>
    rw [T.val_mk] at *
    rw [T.val_mk] at *
    generalize hu : (T.mk k n s A cap l1 r).v = u at *
    generalize hv : (T.mk k' n' s' A' cap' l' r').v = v at *
    have hW : Fr No w (((w.alloc (.cells #[.int .u8 k, .int .i64 n, .string s, .slice A l1.length cap, .int .i64 r] 27)).alloc (.cells #[.int .u8 k', .int .i64 n', .string s', .slice A' l'.length cap', .int .i64 r'] 27)).alloc
        (.cells #[.int .u8 0, .int .i64 0, .string ⟨#[]⟩, .slice none 0 0, .int .i64 0] 27)) := (((Fr.refl No w).alloc _).alloc _).alloc _
    have hK : Blk (((w.alloc (.cells #[.int .u8 k, .int .i64 n, .string s, .slice A l1.length cap, .int .i64 r] 27)).alloc (.cells #[.int .u8 k', .int .i64 n', .string s', .slice A' l'.length cap', .int .i64 r'] 27)).alloc
        (.cells #[.int .u8 0, .int .i64 0, .string ⟨#[]⟩, .slice none 0 0, .int .i64 0] 27)) w.heap.size 27 #[.int .u8 k, .int .i64 n, .string s, .slice A l1.length cap, .int .i64 r] := ((Blk.new' w 27 _ rfl).alloc _).alloc _
    have hV : Blk (((w.alloc (.cells #[.int .u8 k, .int .i64 n, .string s, .slice A l1.length cap, .int .i64 r] 27)).alloc (.cells #[.int .u8 k', .int .i64 n', .string s', .slice A' l'.length cap', .int .i64 r'] 27)).alloc
        (.cells #[.int .u8 0, .int .i64 0, .string ⟨#[]⟩, .slice none 0 0, .int .i64 0] 27)) (w.heap.size + 1) 27 #[.int .u8 k', .int .i64 n', .string s', .slice A' l'.length cap', .int .i64 r'] := (Blk.new' (w.alloc _) 27 _ (by simp)).alloc _
    have hZ : Blk (((w.alloc (.cells #[.int .u8 k, .int .i64 n, .string s, .slice A l1.length cap, .int .i64 r] 27)).alloc (.cells #[.int .u8 k', .int .i64 n', .string s', .slice A' l'.length cap', .int .i64 r'] 27)).alloc
        (.cells #[.int .u8 0, .int .i64 0, .string ⟨#[]⟩, .slice none 0 0, .int .i64 0] 27)) (w.heap.size + 2) 27 #[.int .u8 0, .int .i64 0, .string ⟨#[]⟩, .slice none 0 0, .int .i64 0] := Blk.new' ((w.alloc _).alloc _) 27 _ (by simp)
    have hT0 := (hT.no hW (Nat.le_refl _)).more (Nat.le_refl _) hW.size
    have htb := hT.tb0
    have hm0 := hT.m0
    have ho0 := hT.o0
    have ha0 := ha.no hW hh
    have hb0 := hb.no hW hh
    have hsz : w.heap.size + 3 ≤ (((w.alloc (.cells #[.int .u8 k, .int .i64 n, .string s, .slice A l1.length cap, .int .i64 r] 27)).alloc (.cells #[.int .u8 k', .int .i64 n', .string s', .slice A' l'.length cap', .int .i64 r'] 27)).alloc
        (.cells #[.int .u8 0, .int .i64 0, .string ⟨#[]⟩, .slice none 0 0, .int .i64 0] 27)).heap.size := by simp
    have HU := hide hu
    have HV := hide hv
    have HMA := hide hma
    have HMB := hide hmb
    have HK := hide hk
    have HP := hide hp
    have hOlt : O < w.heap.size := hT.o0.2
    have hMlt : M < w.heap.size := hT.m0.2
    have HT := hide hT
    clear hu hv ha hb hT hma hmb hk hp
    go_enter Try.func26, Try.ntmps26
    go_wp2_with fail
    generalize World.alloc _ (.cells #[.int .u8 0, .int .i64 0, .string ⟨#[]⟩, .slice none 0 0, .int .i64 0] 27) = W0 at *
    have hN := none_tab tb M O came _ hT0.blk
    refine hN.mono ?_
    rintro e w' ⟨rfl, rfl⟩
    clear hN
    obtain ⟨c0, c1, c2, c3, c4, cf⟩ := hK.cells5
    go_wp2_with fail
    refine (hA _ ha0 (by omega)).mono ?_
    rintro e w2 ⟨rfl, fr2⟩
    obtain ⟨v0, v1, v2, v3, v4, vf⟩ := (hV.fr fr2 (fun h => h)).cells5
    clear hA c0 c1 c2 c3 c4 cf
    go_wp2_with fail
    refine (hB _ (hb0.no fr2 (by omega)) (by have := fr2.size; omega)).mono ?_
    rintro e w3 ⟨rfl, fr3⟩
    have fr23 := fr2.trans fr3
    obtain ⟨c0, c1, c2, c3, c4, cf⟩ := (hK.fr fr23 (fun h => h)).cells5
    clear hB v0 v1 v2 v3 v4 vf
    go_wp2_with fail
    refine (hF _ (ha0.no fr23 (by omega)) (by have := fr23.size; omega) (hT0.blk.fr fr23 (fun h => h))).mono ?_
    rintro e w4 ⟨h, -, -⟩
    obtain ⟨m, rfl, hmk, fr4⟩ := h HMA.out HK.out
    obtain ⟨ty, y, rfl⟩ := hmk.iface
    have fr04 := fr23.trans fr4
    have hT4 := (hT0.no fr04 (Nat.le_refl _)).more (Nat.le_refl _) fr04.size
    have hK4 := hK.fr fr04 (fun h => h)
    have hV4 := hV.fr fr04 (fun h => h)
    have hZ4 := hZ.fr fr04 (fun h => h)
    have ha4 := ha0.no fr04 (by omega)
    have hb4 := hb0.no fr04 (by omega)
    have hW4 := hW.trans fr04
    have hs4 : w.heap.size + 3 ≤ w4.heap.size := Nat.le_trans hsz fr04.size
    clear h fr2 fr3 fr23 fr4 fr04 hZ hV hK hT0 ha0 hb0 hW hF c0 c1 c2 c3 c4 cf hsz
    obtain ⟨es, cl, hm4, hes⟩ := hT4.m
    have HST := hide (hT4.stm es cl hm4)
    have hl4 := run_lookup_mark Try.underlying63 w4 (zero_ent _) u _ hmk hd HK.out true hm4 hes.keys (fun v _ => keys_ne2 u HK.out v)
    rw [HP.out] at hl4
    obtain ⟨hi, hxi⟩ := List.getElem?_eq_some_iff.1 hx
    have hei := List.getElem?_eq_getElem (l := es.toList) (i := i) (by rw [hes.1]; exact hi)
    have hev := (hes.2 i _ x hei hx).2
    simp only [found, hei, Option.map_some, hev] at hl4
    obtain ⟨⟨xk, xn, xs, xA, xcap, xl, xr⟩, ⟨yk, yn, ys, yA, ycap, yl, yr⟩, xc⟩ := x
    simp [Ent.val, T.cells] at hl4
    have t0 := hT4.blk.cell 0
    have t1 := hT4.blk.cell 1
    have t2 := hT4.blk.cell 2
    have tf := hT4.blk.frozen 2
    simp at t0 t1 t2
    have htb4 : tb < w4.heap.size := by omega
    have HXK := hide hxk
    have HEV := hide hev
    clear hxk hev hei hxi
    obtain ⟨d0, d1, d2, d3, d4, df⟩ := hZ4.cells5
    obtain ⟨c0, c1, c2, c3, c4, cf⟩ := hV4.cells5
    have q7 : w.heap.size + 2 < w4.heap.size := by omega
    have q8 : w.heap.size + 1 < w4.heap.size := by omega
    have HOb := hide hOb
    clear hOb
    go_wp2_with fail
    obtain ⟨hZ8, fr48⟩ := sets5 w4 (w.heap.size + 1 + 1) 27 _ _ _ _ _ (.int .u8 yk) (.int .i64 yn) (.string ys) (.slice yA yl.length ycap) (.int .i64 yr) hZ4
    have hs48 := fr48.size
    have hsz8 : (((((w4.setCell ⟨w.heap.size + 1 + 1, 0, none⟩ (.int .u8 yk)).setCell ⟨w.heap.size + 1 + 1, 1, none⟩ (.int .i64 yn)).setCell ⟨w.heap.size + 1 + 1, 2, none⟩ (.string ys)).setCell ⟨w.heap.size + 1 + 1, 3, none⟩ (.slice yA yl.length ycap)).setCell ⟨w.heap.size + 1 + 1, 4, none⟩ (.int .i64 yr)).heap.size = w4.heap.size := by simp
    generalize World.setCell _ ⟨w.heap.size + 1 + 1, 4, none⟩ _ = w8 at *
    have fr49 : Fr (fun i => i = w.heap.size + 1 + 1) w4 _ := fr48.alloc (.cells #[.int .u8 xk, .int .i64 xn, .string xs, .slice xA xl.length xcap, .int .i64 xr, .int .u8 yk, .int .i64 yn, .string ys, .slice yA yl.length ycap, .int .i64 yr, .int .i64 (xc : Int)] 132)
    have hX9 := Blk.new' w8 132 #[.int .u8 xk, .int .i64 xn, .string xs, .slice xA xl.length xcap, .int .i64 xr, .int .u8 yk, .int .i64 yn, .string ys, .slice yA yl.length ycap, .int .i64 yr, .int .i64 (xc : Int)] hsz8
    have hZ9 := hZ8.alloc (.cells #[.int .u8 xk, .int .i64 xn, .string xs, .slice xA xl.length xcap, .int .i64 xr, .int .u8 yk, .int .i64 yn, .string ys, .slice yA yl.length ycap, .int .i64 yr, .int .i64 (xc : Int)] 132)
    have hs89 : (w8.alloc (.cells #[.int .u8 xk, .int .i64 xn, .string xs, .slice xA xl.length xcap, .int .i64 xr, .int .u8 yk, .int .i64 yn, .string ys, .slice yA yl.length ycap, .int .i64 yr, .int .i64 (xc : Int)] 132)).heap.size = w8.heap.size + 1 := by simp
    generalize World.alloc _ _ = w9 at *
    have hb9 := hb4.frB fr49 (by omega) (fun b hb => by have := T.In.blocks _ hb4 b hb; omega)
    clear fr48
    refine (HOb.out w9 hb9 (by omega)).mono ?_
    rintro e wA ⟨tv, rfl, hvv, vow, frA⟩
    have hsA := frA.size
    have hZA := hZ9.fr frA (fun h => h)
    have hXA := hX9.fr frA (fun h => h)
    have fr4A : Fr (fun i => i = w.heap.size + 1 + 1) w4 wA := fr49.thenNo frA
    clear d0 d1 d2 d3 d4 df c0 c1 c2 c3 c4 cf q7 q8
    obtain ⟨z0, z1, z2, z3, z4, z5, z6, z7, z8, z9, z10, zf⟩ := hXA.cells11
    have q9 : w4.heap.size < wA.heap.size := by omega
    have HVV := hide hvv
    have HVO := hide vow
    clear hvv vow
    obtain ⟨k3, n3, s3, A3, cap3, l3, r3⟩ := tv
    rw [T.val_mk]
    go_wp2_with fail
    obtain ⟨hXB, frAB⟩ := sets5m wA w4.heap.size 132 _ _ _ _ _ _ _ _ _ _ _ (.int .u8 k3) (.int .i64 n3) (.string s3) (.slice A3 l3.length cap3) (.int .i64 r3) hXA
    generalize World.setCell _ ⟨w4.heap.size, 9, none⟩ _ = wB at *
    have hsB := frAB.size
    have fr4B : Fr (fun i => i = w.heap.size + 1 + 1) w4 wB := fr4A.trans' frAB (fun i hi h => by have h' : i = w4.heap.size := h; omega)
    have hZB := hZA.fr frAB (by omega)
    have hBB := hT4.blk.fr fr4B (by omega)
    have hmB := (fr4B.block M (by omega) (by omega)).trans hm4
    have e0 := hBB.cell 0
    simp at e0
    have hup := run_update_old Try.underlying63 wB.drew u (.iface ty y) (.agg #[.int .u8 xk, .int .i64 xn, .string xs, .slice xA xl.length xcap, .int .i64 xr, .int .u8 k3, .int .i64 n3, .string s3, .slice A3 l3.length cap3, .int .i64 r3, .int .i64 (xc : Int)]) hmk hd HK.out hmB hes.keys HP.out (by rw [List.getElem?_map, hx]; exact congrArg some HXK.out)
    clear z0 z1 z2 z3 z4 z5 z6 z7 z8 z9 z10 zf
    obtain ⟨z0, z1, z2, z3, z4, z5, z6, z7, z8, z9, z10, zf⟩ := hXB.cells11
    have q5 : tb < wB.heap.size := by omega
    have q10 : w4.heap.size < wB.heap.size := by omega
    clear t0 t1 t2 tf htb4
    have HX := hide hx
    clear hx
    go_region
    clear z0 z1 z2 z3 z4 z5 z6 z7 z8 z9 z10 zf hup e0
    have frBC : Fr (fun i => i = M) wB _ := ((Fr.refl (fun i => i = M) wB).drew).putObj (fun _ => rfl) (.map (es.modify i fun e => { e with key := .iface ty y, val := .agg #[.int .u8 xk, .int .i64 xn, .string xs, .slice xA xl.length xcap, .int .i64 xr, .int .u8 k3, .int .i64 n3, .string s3, .slice A3 l3.length cap3, .int .i64 r3, .int .i64 (xc : Int)] }) cl)
    have hMC := World.putObj_heap_same (w := wB.drew) (o := .map (es.modify i fun e => { e with key := .iface ty y, val := .agg #[.int .u8 xk, .int .i64 xn, .string xs, .slice xA xl.length xcap, .int .i64 xr, .int .u8 k3, .int .i64 n3, .string s3, .slice A3 l3.length cap3, .int .i64 r3, .int .i64 (xc : Int)] }) cl) (lt_of_heap hmB)
    generalize World.putObj _ _ _ = wC at *
    have hZC := hZB.fr frBC (by omega)
    have hsC := frBC.size
    obtain ⟨d0, d1, d2, d3, d4, df⟩ := hZC.cells5
    have q11 : w.heap.size + 2 < wC.heap.size := by omega
    go_wp2_with fail
    obtain ⟨hZD, frCD⟩ := sets5 wC (w.heap.size + 1 + 1) 27 _ _ _ _ _ (.int .u8 yk) (.int .i64 yn) (.string ys) (.slice yA yl.length ycap) (.int .i64 yr) hZC
    generalize World.setCell _ ⟨w.heap.size + 1 + 1, 4, none⟩ _ = wD at *
    clear d0 d1 d2 d3 d4 df
    obtain ⟨d0, d1, d2, d3, d4, df⟩ := hZD.cells5
    refine bodyPost_ret (v := .tuple #[.agg #[.int .u8 yk, .int .i64 yn, .string ys, .slice yA yl.length ycap, .int .i64 yr], .bool true, .int .i64 0]) (by simp [results, Try.results26, go_sem, *]) rfl ?_
    refine ⟨rfl, T.mk k3 n3 s3 A3 cap3 l3 r3, HVV.out, ?_⟩
    have f0 : Fr (fun i => i = M) w w9 := (hW4.mono (S' := fun i => i = M) (fun i _ h => h.elim)).trans' fr49 (fun i hi h => by have h' : i = w.heap.size + 1 + 1 := h; omega)
    have f1 : Fr (fun i => i = M) w wB := (f0.thenNo frA).trans' frAB (fun i hi h => by have h' : i = w4.heap.size := h; omega)
    have hF : Fr (fun i => i = M) w wD := (f1.trans frBC).trans' frCD (fun i hi h => by have h' : i = w.heap.size + 1 + 1 := h; omega)
    have nn0 : w4.heap.size < w9.heap.size := by omega
    have nn1 : w.heap.size + 1 + 1 < w9.heap.size := by omega
    have nn2 : M < w9.heap.size := by omega
    have g1 : Fr (fun i => i < w9.heap.size) wA wB := frAB.mono fun i _ h => h ▸ nn0
    have g2 : Fr (fun i => i < w9.heap.size) wA wC := g1.trans' frBC fun i _ h => h ▸ nn2
    have g3 : Fr (fun i => i < w9.heap.size) wA wD := g2.trans' frCD fun i _ h => h ▸ nn1
    have v6 := (HVO.out.frB g3 (Nat.le_refl _) (fun b hb => by have := T.In.blocks _ HVO.out.inn b hb; omega))
    have hvv' := HVV.out
    obtain ⟨r1, r2, r3⟩ := Tab.put_old HT.out hF hes ((frCD.block M (by omega) (by omega)).trans hMC) HX.out v6 (show w.heap.size ≤ w9.heap.size from f0.size) frA.size g3.size (by have := HXK.out; rw [this]; exact hmk) rfl (by rw [hvv']; exact HMB.out) HST.out
    have hw9 : w.heap.size ≤ w9.heap.size := f0.size
    exact ⟨r1, r2, r3, hF, fun i hi => by have := T.In.blocks _ v6.inn i hi; omega⟩

end Go.Proofs.Ytihjmipmjogpoaa

/- (*Table).Get: what it answers. -/
namespace Go.Proofs.Ytihjmipmjogpoaa
open Go.RowKit

/-- Get's error: a key that may not be; a mark that can't be a key. -/
def getErr (k : V) : Int := if k.may = true then (if k.keys = true then 0 else 40) else 2

theorem zero_may : V.zero.may = true := by simp [V.zero, V.may, V.fits, V.ok_mk, V.size_mk, V.dep_mk, fok, ByteArray.toList_eq, top]

set_option maxRecDepth 10000 in
set_option maxHeartbeats 4000000 in
theorem Get_err (a : T) (w : World) (lo hi : Nat) (ha : a.In w lo hi) (hh : hi ≤ w.heap.size) (tb M O : Nat) (c : Int) (hT : Blk w tb 66 #[.map (some M), .map (some O), .int .i64 c]) (he : getErr a.v ≠ 0) :
    Calls Try.prog 30 #[.pointer (some ⟨tb, 0, none⟩), a.val] w fun e w' => e = .returned (tripZ (getErr a.v)) ∧ Fr No w w' := by
  have hF := fun w' h h' h'' => find_any a w' lo hi h h' tb M O c h''
  cases a with
  | mk k n s A cap l r =>
    rw [T.val_mk] at *
    generalize hu : (T.mk k n s A cap l r).v = u at *
    have hW : Fr No w ((w.alloc (.cells #[.int .u8 k, .int .i64 n, .string s, .slice A l.length cap, .int .i64 r] 27)).alloc (.cells #[.int .u8 0, .int .i64 0, .string ⟨#[]⟩, .slice none 0 0, .int .i64 0] 27)) := ((Fr.refl No w).alloc _).alloc _
    have hK : Blk ((w.alloc (.cells #[.int .u8 k, .int .i64 n, .string s, .slice A l.length cap, .int .i64 r] 27)).alloc (.cells #[.int .u8 0, .int .i64 0, .string ⟨#[]⟩, .slice none 0 0, .int .i64 0] 27)) w.heap.size 27 #[.int .u8 k, .int .i64 n, .string s, .slice A l.length cap, .int .i64 r] := (Blk.new' w 27 _ rfl).alloc _
    have hZ : Blk ((w.alloc (.cells #[.int .u8 k, .int .i64 n, .string s, .slice A l.length cap, .int .i64 r] 27)).alloc (.cells #[.int .u8 0, .int .i64 0, .string ⟨#[]⟩, .slice none 0 0, .int .i64 0] 27)) (w.heap.size + 1) 27 #[.int .u8 0, .int .i64 0, .string ⟨#[]⟩, .slice none 0 0, .int .i64 0] := Blk.new' (w.alloc _) 27 _ (by simp)
    have hT0 := hT.fr hW (fun h => h)
    have ha0 := ha.no hW hh
    have hsz : w.heap.size + 2 ≤ ((w.alloc (.cells #[.int .u8 k, .int .i64 n, .string s, .slice A l.length cap, .int .i64 r] 27)).alloc (.cells #[.int .u8 0, .int .i64 0, .string ⟨#[]⟩, .slice none 0 0, .int .i64 0] 27)).heap.size := by simp
    have HU := hide hu
    clear hu ha hT
    have hd : (u.may = false ∧ getErr u = 2) ∨ (u.may = true ∧ u.keys = false ∧ getErr u = 40) := by
      unfold getErr at *
      cases hm : u.may with
      | false => exact .inl ⟨rfl, by simp⟩
      | true =>
        cases hk : u.keys with
        | false => exact .inr ⟨rfl, rfl, by simp⟩
        | true => rw [hm, hk] at he; exact absurd rfl he
    have HD := hide hd
    clear hd he
    go_enter Try.func30, Try.ntmps30
    go_wp2_with fail
    generalize World.alloc _ (.cells #[.int .u8 0, .int .i64 0, .string ⟨#[]⟩, .slice none 0 0, .int .i64 0] 27) = W0 at *
    refine (hF _ ha0 (by omega) hT0).mono ?_
    rintro e w4 ⟨-, h2, h3⟩
    obtain ⟨eq, E1, fr4, ne⟩ : ∃ eq : Int, getErr u = eq ∧ (e = .returned (.tuple #[.nilIface, .int .i64 eq]) ∧ Fr No W0 w4) ∧ (eq = 2 ∨ eq = 40) := by
      rcases HD.out with ⟨hm, e1⟩ | ⟨hm, hk, e1⟩
      · exact ⟨2, e1, h3 hm, .inl rfl⟩
      · exact ⟨40, e1, h2 hm hk, .inr rfl⟩
    obtain ⟨rfl, fr4⟩ := fr4
    obtain ⟨d0, d1, d2, d3, d4, df⟩ := (hZ.fr fr4 (fun h => h)).cells5
    have hF2 := hide (hW.trans fr4)
    have q0 : w.heap.size + 1 < w4.heap.size := by have := fr4.size; omega
    have EH := hide E1
    clear h2 h3 hZ hK hT0 ha0 hW hF fr4 E1
    rcases ne with rfl | rfl
    · go_wp2
      refine bodyPost_ret (v := tripZ 2) (by simp [results, Try.results30, go_sem, tripZ, *]) rfl ?_
      refine ⟨by rw [EH.out], ?_⟩
      have hF2' := hF2.out
      repeat (first | with_reducible exact hF2' | with_reducible refine Fr.setNew ?_ (by first | (simp; done) | (simp; omega)) _)
    · go_wp2
      refine bodyPost_ret (v := tripZ 40) (by simp [results, Try.results30, go_sem, tripZ, *]) rfl ?_
      refine ⟨by rw [EH.out], ?_⟩
      have hF2' := hF2.out
      repeat (first | with_reducible exact hF2' | with_reducible refine Fr.setNew ?_ (by first | (simp; done) | (simp; omega)) _)

/-- What the table has under a key, in new memory; or nothing. -/
def GotAt (v : V) (b : Bool) (w : World) (e : Ending) (w' : World) : Prop :=
  ∃ t' : T, e = .returned (.tuple #[t'.val, .bool b, .int .i64 0]) ∧ t'.v = v ∧ t'.Ow w' w.heap.size w'.heap.size ∧ Fr No w w'

/-- The entry that a look-up answers. -/
def theEnt (k v : T) (c : Int) : Value := .agg (k.cells ++ (v.cells ++ [Value.int .i64 c])).toArray

set_option maxRecDepth 10000 in
set_option maxHeartbeats 4000000 in
theorem Get_ok (a : T) (w : World) (alo ahi : Nat) (ha : a.In w alo ahi) (hh : ahi ≤ w.heap.size) (lo tb M O : Nat) (l : List Ent) (came : Nat) (hT : Tab w lo w.heap.size tb M O l came)
    (hma : a.v.may = true) (hk : a.v.keys = true) :
    Calls Try.prog 30 #[.pointer (some ⟨tb, 0, none⟩), a.val] w (GotAt (match pos a.v (l.map fun e => e.k.v) with | some i => ((l[i]?.map fun x => x.v.v).getD V.zero) | none => V.zero) (pos a.v (l.map fun e => e.k.v)).isSome w) := by
  have hF := fun w' h h' h'' => find_any a w' alo ahi h h' tb M O came h''
  have hd := may_dep hma
  -- what the look-up answers
  obtain ⟨xk, xv, xc, b, hlk, hlk', hxm⟩ : ∃ (xk xv : T) (xc : Int) (b : Bool), (pos a.v (l.map fun e => e.k.v)).isSome = b ∧
      (∃ hb : (match pos a.v (l.map fun e => e.k.v) with | some i => ((l[i]?.map fun x => x.v.v).getD V.zero) | none => V.zero) = xv.v, xv.v.may = true ∧ xv.In w 0 w.heap.size) ∧
      (∀ (w4 : World) (m : Value), Tab w4 lo w4.heap.size tb M O l came → IsMk a.v m → (Instr.lookup 63 (.map (some M)) m true).run Try.prog w4 = .ok (.tuple #[theEnt xk xv xc, .bool b]) w4) := by
    cases hp : pos a.v (l.map fun e => e.k.v) with
    | none =>
      refine ⟨T.zero, T.zero, 0, false, rfl, ⟨T.zero_v.symm, by rw [T.zero_v]; exact zero_may, (T.zero_ow _ _ _).inn⟩, fun w4 m hT4 hmk => ?_⟩
      obtain ⟨es, cl, hm4, hes⟩ := hT4.m
      have hl4 := run_lookup_mark Try.underlying63 w4 (zero_ent _) a.v _ hmk hd hk true hm4 hes.keys (fun v _ => keys_ne2 a.v hk v)
      rw [hp] at hl4
      simpa [found, theEnt, T.zero, T.cells] using hl4
    | some i =>
      have hkx := pos_some hma hk (fun v hv => by obtain ⟨e, he, rfl⟩ := List.mem_map.1 hv; exact (hT.may e he).1) hp
      rw [List.getElem?_map] at hkx
      cases hx : l[i]? with
      | none => rw [hx] at hkx; cases hkx
      | some x =>
        refine ⟨x.k, x.v, (x.c : Int), true, rfl, ⟨by simp [hx], (hT.may x (List.mem_of_getElem? hx)).2.2, ?_⟩, fun w4 m hT4 hmk => ?_⟩
        · exact T.In.more (Nat.zero_le _) (Nat.le_refl _) _ (hT.forest.inn x.v (by unfold trees; exact List.mem_flatMap.2 ⟨x, List.mem_of_getElem? hx, by simp⟩))
        · obtain ⟨es, cl, hm4, hes⟩ := hT4.m
          have hl4 := run_lookup_mark Try.underlying63 w4 (zero_ent _) a.v _ hmk hd hk true hm4 hes.keys (fun v _ => keys_ne2 a.v hk v)
          rw [hp] at hl4
          obtain ⟨hi, hxi⟩ := List.getElem?_eq_some_iff.1 hx
          have hei := List.getElem?_eq_getElem (l := es.toList) (i := i) (by rw [hes.1]; exact hi)
          have hev := (hes.2 i _ x hei hx).2
          simp only [found, hei, Option.map_some, hev] at hl4
          exact hl4
  rw [hlk]
  obtain ⟨hb, hxv, hxin⟩ := hlk'
  rw [hb]
  clear hb hlk
  have hO := fun w' h h' => bown_any xv w' 0 w.heap.size h h' hxv
  cases a with
  | mk k n s A cap l1 r =>
  cases xk with
  | mk xk xn xs xA xcap xl xr =>
  cases xv with
  | mk yk yn ys yA ycap yl yr =>
    rw [T.val_mk] at *
    generalize hu : (T.mk k n s A cap l1 r).v = u at *
    generalize hv : (T.mk yk yn ys yA ycap yl yr).v = v at *
    have hW : Fr No w ((w.alloc (.cells #[.int .u8 k, .int .i64 n, .string s, .slice A l1.length cap, .int .i64 r] 27)).alloc (.cells #[.int .u8 0, .int .i64 0, .string ⟨#[]⟩, .slice none 0 0, .int .i64 0] 27)) := ((Fr.refl No w).alloc _).alloc _
    have hK : Blk ((w.alloc (.cells #[.int .u8 k, .int .i64 n, .string s, .slice A l1.length cap, .int .i64 r] 27)).alloc (.cells #[.int .u8 0, .int .i64 0, .string ⟨#[]⟩, .slice none 0 0, .int .i64 0] 27)) w.heap.size 27 #[.int .u8 k, .int .i64 n, .string s, .slice A l1.length cap, .int .i64 r] := (Blk.new' w 27 _ rfl).alloc _
    have hZ : Blk ((w.alloc (.cells #[.int .u8 k, .int .i64 n, .string s, .slice A l1.length cap, .int .i64 r] 27)).alloc (.cells #[.int .u8 0, .int .i64 0, .string ⟨#[]⟩, .slice none 0 0, .int .i64 0] 27)) (w.heap.size + 1) 27 #[.int .u8 0, .int .i64 0, .string ⟨#[]⟩, .slice none 0 0, .int .i64 0] := Blk.new' (w.alloc _) 27 _ (by simp)
    have hT0 := (hT.no hW (Nat.le_refl _)).more (Nat.le_refl _) hW.size
    have htb := hT.tb0
    have ha0 := ha.no hW hh
    have hx0 := hxin.no hW (Nat.le_refl _)
    have hsz : w.heap.size + 2 ≤ ((w.alloc (.cells #[.int .u8 k, .int .i64 n, .string s, .slice A l1.length cap, .int .i64 r] 27)).alloc (.cells #[.int .u8 0, .int .i64 0, .string ⟨#[]⟩, .slice none 0 0, .int .i64 0] 27)).heap.size := by simp
    have HU := hide hu
    have HV := hide hv
    have HM := hide hma
    have HK := hide hk
    clear hu hv ha hT hma hk hxin
    go_enter Try.func30, Try.ntmps30
    go_wp2_with fail
    generalize World.alloc _ (.cells #[.int .u8 0, .int .i64 0, .string ⟨#[]⟩, .slice none 0 0, .int .i64 0] 27) = W0 at *
    refine (hF _ ha0 (by omega) hT0.blk).mono ?_
    rintro e w4 ⟨h, -, -⟩
    obtain ⟨m, rfl, hmk, fr4⟩ := h HM.out HK.out
    obtain ⟨ty, z, rfl⟩ := hmk.iface
    have hT4 := (hT0.no fr4 (Nat.le_refl _)).more (Nat.le_refl _) fr4.size
    have hZ4 := hZ.fr fr4 (fun h => h)
    have hx4 := hx0.no fr4 (by omega)
    have hW4 := hW.trans fr4
    have hs4 : w.heap.size + 2 ≤ w4.heap.size := Nat.le_trans hsz fr4.size
    have hl4 := hxm w4 _ hT4 hmk
    simp [theEnt, T.cells] at hl4
    clear h fr4 hZ hK hT0 ha0 hx0 hW hF hsz hxm
    have t0 := hT4.blk.cell 0
    simp at t0
    have htb4 : tb < w4.heap.size := by omega
    have HO := hide hO
    clear hO
    go_wp2_with fail
    have fr8 := (Fr.refl No w4).alloc (.cells #[.int .u8 xk, .int .i64 xn, .string xs, .slice xA xl.length xcap, .int .i64 xr, .int .u8 yk, .int .i64 yn, .string ys, .slice yA yl.length ycap, .int .i64 yr, .int .i64 xc] 132)
    have hx8 := hx4.no fr8 (by omega)
    have hZ8 := hZ4.alloc (.cells #[.int .u8 xk, .int .i64 xn, .string xs, .slice xA xl.length xcap, .int .i64 xr, .int .u8 yk, .int .i64 yn, .string ys, .slice yA yl.length ycap, .int .i64 yr, .int .i64 xc] 132)
    have hs8 : w.heap.size + 2 ≤ (w4.alloc (.cells #[.int .u8 xk, .int .i64 xn, .string xs, .slice xA xl.length xcap, .int .i64 xr, .int .u8 yk, .int .i64 yn, .string ys, .slice yA yl.length ycap, .int .i64 yr, .int .i64 xc] 132)).heap.size := by simp; omega
    generalize World.alloc w4 _ = w8 at *
    refine (HO.out w8 hx8 (by omega)).mono ?_
    rintro e w9 ⟨t', rfl, hv', ow', fr9⟩
    obtain ⟨d0, d1, d2, d3, d4, df⟩ := (hZ8.fr fr9 (fun h => h)).cells5
    have hF9 := hide ((hW4.trans fr8).trans fr9)
    have hs9 := fr9.size
    have q0 : w.heap.size + 1 < w9.heap.size := by omega
    have HV' := hide hv'
    have HO' := hide ow'
    clear hl4 t0 hT4 hZ4 hx4 hW4 fr8 hx8 hZ8 fr9 hv' ow'
    cases t' with
    | mk k2 n2 s2 A2 cap2 l2 r2 =>
      rw [T.val_mk]
      go_wp2
      refine bodyPost_ret (v := .tuple #[.agg #[.int .u8 k2, .int .i64 n2, .string s2, .slice A2 l2.length cap2, .int .i64 r2], .bool b, .int .i64 0]) (by simp [results, Try.results30, go_sem, *]) rfl ?_
      have hF2 := hF9.out
      have hO2 := HO'.out
      refine ⟨T.mk k2 n2 s2 A2 cap2 l2 r2, rfl, HV'.out, ?_, ?_⟩
      · refine ((hO2.fr (S := (· = w.heap.size + 1)) ?_ (Nat.le_refl _) (fun i h0 h1 h2 => by omega)).more (by omega) (by simp))
        repeat (first | with_reducible exact Fr.refl _ w9 | with_reducible refine Fr.set ?_ (by simp) _)
      · repeat (first | with_reducible exact hF2 | with_reducible refine Fr.setNew ?_ (by first | (simp; done) | (simp; omega)) _)

end Go.Proofs.Ytihjmipmjogpoaa

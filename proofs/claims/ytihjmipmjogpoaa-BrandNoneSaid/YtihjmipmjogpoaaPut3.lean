/- (*Table).Put, of a key that is there. -/
import Derived.Test.YtihjmipmjogpoaaF
namespace Go.Proofs.Ytihjmipmjogpoaa
open Go.RowKit

/-- What Put leaves of a key that was there. -/
def PutOld (b : V) (lo tb M O : Nat) (l : List Ent) (came i : Nat) (x : Ent) (w : World) (e : Ending) (w' : World) : Prop :=
  e = .returned (.tuple #[x.v.val, .bool true, .int .i64 0]) ∧ ∃ v' : T, v'.v = b ∧ Tab w' lo w'.heap.size tb M O (l.set i ⟨x.k, v', x.c⟩) came ∧ x.v.Ow w' lo w'.heap.size ∧
    (∀ b ∈ x.v.blocks, ¬ tabBlocks tb M O (l.set i ⟨x.k, v', x.c⟩) b) ∧ Fr (fun i => i = M) w w' ∧ ∀ i ∈ v'.blocks, w.heap.size ≤ i

/-- Another value under a key. -/
theorem Tab.put_old {w w' : World} {lo tb M O : Nat} {l : List Ent} {came : Nat} (hT : Tab w lo w.heap.size tb M O l came) (fr : Fr (fun i => i = M) w w')
    {es : Array MapEntry} {c1 i : Nat} {m val : Value} {x : Ent} {v' : T} {p q : Nat} (hes : EntsAre es.toList l)
    (hM : w'.heap[M]? = some (.map (es.modify i fun e => { e with key := m, val := val }) c1)) (hx : l[i]? = some x) (hv : v'.Ow w' p q) (h0 : w.heap.size ≤ p) (h1 : p ≤ q) (h2 : q ≤ w'.heap.size)
    (hmk : IsMk x.k.v m) (hval : val = (⟨x.k, v', x.c⟩ : Ent).val) (hm3 : v'.v.may = true) :
    Tab w' lo w'.heap.size tb M O (l.set i ⟨x.k, v', x.c⟩) came ∧ x.v.Ow w' lo w'.heap.size ∧ (∀ b ∈ x.v.blocks, ¬ tabBlocks tb M O (l.set i ⟨x.k, v', x.c⟩) b) := by
  have a := hT.tb0
  have b := hT.m0
  have c := hT.o0
  have hs := fr.size
  have hne := hT.ne
  have hmo := hT.mo
  obtain ⟨eo, co, ho, hoe⟩ := hT.o
  obtain ⟨l1, l2, rfl, rfl⟩ := split_at hx
  have hset : (l1 ++ x :: l2).set l1.length ⟨x.k, v', x.c⟩ = l1 ++ ⟨x.k, v', x.c⟩ :: l2 := by simp
  rw [hset]
  have F0 : Forest w' lo w.heap.size (trees (l1 ++ x :: l2)) := hT.forest.frB fr (Nat.le_refl _) (by rintro b hib rfl; exact hT.outm hib)
  have F1 := F0.perm (trees_perm l1 l2 x)
  have FA := F1.left
  have FV := Forest.one.1 F1.right
  have hap := F1.apart
  have F2 := ((FA.more (Nat.le_refl lo) h0).snoc hv (by omega) h1).more (Nat.le_refl lo) h2
  have F3 := F2.perm (trees_perm l1 l2 ⟨x.k, v', x.c⟩).symm
  have hbv := fun i (hi : i ∈ v'.blocks) => T.In.blocks v' hv.inn i hi
  have hmem : ∀ i, i ∈ ((trees (l1 ++ ⟨x.k, v', x.c⟩ :: l2)).map T.blocks).flatten → i ∈ ((trees l1 ++ [x.k] ++ trees l2).map T.blocks).flatten ∨ i ∈ v'.blocks := by
    intro i hi
    have h := (perm_flatten ((trees_perm l1 l2 ⟨x.k, v', x.c⟩).map T.blocks)).mem_iff.1 hi
    rw [List.map_append, List.flatten_append, List.mem_append] at h
    simpa using h
  have hold : ∀ i, i ∈ ((trees l1 ++ [x.k] ++ trees l2).map T.blocks).flatten → i ∈ ((trees (l1 ++ x :: l2)).map T.blocks).flatten := by
    intro i hi
    refine (perm_flatten ((trees_perm l1 l2 x).map T.blocks)).mem_iff.2 ?_
    rw [List.map_append, List.flatten_append]
    exact List.mem_append_left _ hi
  have hout : ∀ i, i < w.heap.size → i ∉ ((trees (l1 ++ x :: l2)).map T.blocks).flatten → i ∉ ((trees (l1 ++ ⟨x.k, v', x.c⟩ :: l2)).map T.blocks).flatten := by
    intro i hi hn hm
    rcases hmem i hm with h | h
    · exact hn (hold i h)
    · have := hbv i h; omega
  have hxb : ∀ b ∈ x.v.blocks, b ∈ ((trees (l1 ++ x :: l2)).map T.blocks).flatten := by
    intro b hb
    refine (perm_flatten ((trees_perm l1 l2 x).map T.blocks)).mem_iff.2 ?_
    rw [List.map_append, List.flatten_append]
    exact List.mem_append_right _ (by simpa using hb)
  have hall : ∀ {P : Ent → Prop}, (∀ e ∈ l1 ++ x :: l2, P e) → P ⟨x.k, v', x.c⟩ → ∀ e ∈ l1 ++ ⟨x.k, v', x.c⟩ :: l2, P e := by
    intro P h h' e he
    rcases List.mem_append.1 he with he | he
    · exact h e (List.mem_append_left _ he)
    · rcases List.mem_cons.1 he with rfl | he
      · exact h'
      · exact h e (by simp [he])
  have hmx := hT.may x (by simp)
  have hpos : es.toList.length = (l1 ++ x :: l2).length := hes.1
  refine ⟨⟨(hT.blk.fr fr (by omega)), ⟨_, _, hM, ?_, ?_⟩, ⟨eo, co, (fr.block O (by omega) (by omega)).trans ho, ?_, ?_⟩, F3, by omega, by omega, by omega, hT.mo, hout _ (by omega) hT.out, hout _ (by omega) hT.outm, hout _ (by omega) hT.outo, hall hT.may ⟨hmx.1, hmx.2.1, hm3⟩, ?_, ?_, hall hT.cran (hT.cran x (by simp)), hT.came0⟩, FV.more (Nat.le_refl _) hs, ?_⟩
  · simpa using hes.1
  · intro j e y he hy
    rw [Array.toList_modify] at he
    rw [List.getElem?_modify] at he
    rcases Nat.lt_trichotomy j l1.length with h | h | h
    · rw [List.getElem?_append_left h] at hy
      exact hes.2 j e y (by simpa [show ¬ l1.length = j by omega] using he) (by rw [List.getElem?_append_left h]; exact hy)
    · subst h
      rw [List.getElem?_append_right (Nat.le_refl _)] at hy
      simp at hy; subst hy
      simp at he
      obtain ⟨e0, -, rfl⟩ := he
      exact ⟨hmk, hval⟩
    · have hy' : (l1 ++ x :: l2)[j]? = some y := by
        rw [List.getElem?_append_right (by omega)] at hy ⊢
        obtain ⟨d, hd⟩ : ∃ d, j - l1.length = d + 1 := ⟨j - l1.length - 1, by omega⟩
        rw [hd] at hy ⊢
        simpa using hy
      exact hes.2 j e y (by simpa [show ¬ l1.length = j by omega] using he) hy'
  · simpa using hoe.1
  · intro j e y he hy
    rcases Nat.lt_trichotomy j l1.length with h | h | h
    · rw [List.getElem?_append_left h] at hy
      exact hoe.2 j e y he (by rw [List.getElem?_append_left h]; exact hy)
    · subst h
      rw [List.getElem?_append_right (Nat.le_refl _)] at hy
      simp at hy; subst hy
      exact hoe.2 _ e x he (by simp)
    · have hy' : (l1 ++ x :: l2)[j]? = some y := by
        rw [List.getElem?_append_right (by omega)] at hy ⊢
        obtain ⟨d, hd⟩ : ∃ d, j - l1.length = d + 1 := ⟨j - l1.length - 1, by omega⟩
        rw [hd] at hy ⊢
        simpa using hy
      exact hoe.2 j e y he hy'
  · have h := hT.dist
    rw [List.pairwise_append, List.pairwise_cons] at h ⊢
    exact ⟨h.1, ⟨h.2.1.1, h.2.1.2⟩, fun e he y hy => by
      rcases List.mem_cons.1 hy with rfl | hy
      · exact h.2.2 e he x (by simp)
      · exact h.2.2 e he y (by simp [hy])⟩
  · have h := hT.cdist
    rw [List.pairwise_append, List.pairwise_cons] at h ⊢
    exact ⟨h.1, ⟨h.2.1.1, h.2.1.2⟩, fun e he y hy => by
      rcases List.mem_cons.1 hy with rfl | hy
      · exact h.2.2 e he x (by simp)
      · exact h.2.2 e he y (by simp [hy])⟩
  · rintro b hb (rfl | rfl | rfl | h)
    · exact hT.out (hxb _ hb)
    · exact hT.outm (hxb _ hb)
    · exact hT.outo (hxb _ hb)
    · rcases hmem b h with h | h
      · exact hap b h (by simpa using hb)
      · have := hbv b h
        have := T.In.blocks _ FV.inn b hb
        omega

set_option maxRecDepth 10000 in
set_option maxHeartbeats 4000000 in
theorem Put_old (a b : T) (w : World) (alo ahi : Nat) (ha : a.In w alo ahi) (hb : b.In w alo ahi) (hh : ahi ≤ w.heap.size) (lo tb M O : Nat) (l : List Ent) (came : Nat) (hT : Tab w lo w.heap.size tb M O l came)
    (hap : ∀ i, i ∈ a.blocks ∨ i ∈ b.blocks → i ≠ tb ∧ i ≠ M ∧ i ≠ O)
    (hma : a.v.may = true) (hmb : b.v.may = true) (hk : a.v.keys = true) {i : Nat} {x : Ent} (hp : pos a.v (l.map fun e => e.k.v) = some i) (hx : l[i]? = some x) :
    Calls Try.prog 26 #[.pointer (some ⟨tb, 0, none⟩), a.val, b.val] w (PutOld b.v lo tb M O l came i x w) := by
  have hA := fun w' h h' => may_any a w' alo ahi h h'
  have hB := fun w' h h' => may_any b w' alo ahi h h'
  have hF := fun w' h h' h'' => find_any a w' alo ahi h h' tb M O came h''
  have hOa := fun w' h h' => bown_any a w' alo ahi h h' hma
  have hOb := fun w' h h' => bown_any b w' alo ahi h h' hmb
  rw [hma] at hA
  rw [hmb] at hB
  have hd := may_dep hma
  have hxk : x.k.v = a.v := by
    have h := pos_some hma hk (fun v hv => by obtain ⟨e, he, rfl⟩ := List.mem_map.1 hv; exact (hT.may e he).1) hp
    rw [List.getElem?_map, hx] at h
    simpa using h
  cases a with
  | mk k n s A cap l1 r =>
  cases b with
  | mk k' n' s' A' cap' l' r' =>
    rw [T.val_mk] at *
    rw [T.val_mk] at *
    generalize hu : (T.mk k n s A cap l1 r).v = u at *
    generalize hv : (T.mk k' n' s' A' cap' l' r').v = v at *
    have hW : Fr No w (((w.alloc (.cells #[.int .u8 k, .int .i64 n, .string s, .slice A l1.length cap, .int .i64 r] 27)).alloc (.cells #[.int .u8 k', .int .i64 n', .string s', .slice A' l'.length cap', .int .i64 r'] 27)).alloc
        (.cells #[.int .u8 0, .int .i64 0, .string ⟨#[]⟩, .slice none 0 0, .int .i64 0] 27)) := (((Fr.refl No w).alloc _).alloc _).alloc _
    have hK : Blk (((w.alloc (.cells #[.int .u8 k, .int .i64 n, .string s, .slice A l1.length cap, .int .i64 r] 27)).alloc (.cells #[.int .u8 k', .int .i64 n', .string s', .slice A' l'.length cap', .int .i64 r'] 27)).alloc
        (.cells #[.int .u8 0, .int .i64 0, .string ⟨#[]⟩, .slice none 0 0, .int .i64 0] 27)) w.heap.size 27 #[.int .u8 k, .int .i64 n, .string s, .slice A l1.length cap, .int .i64 r] := ((Blk.new' w 27 _ rfl).alloc _).alloc _
    have hV : Blk (((w.alloc (.cells #[.int .u8 k, .int .i64 n, .string s, .slice A l1.length cap, .int .i64 r] 27)).alloc (.cells #[.int .u8 k', .int .i64 n', .string s', .slice A' l'.length cap', .int .i64 r'] 27)).alloc
        (.cells #[.int .u8 0, .int .i64 0, .string ⟨#[]⟩, .slice none 0 0, .int .i64 0] 27)) (w.heap.size + 1) 27 #[.int .u8 k', .int .i64 n', .string s', .slice A' l'.length cap', .int .i64 r'] := (Blk.new' (w.alloc _) 27 _ (by simp)).alloc _
    have hZ : Blk (((w.alloc (.cells #[.int .u8 k, .int .i64 n, .string s, .slice A l1.length cap, .int .i64 r] 27)).alloc (.cells #[.int .u8 k', .int .i64 n', .string s', .slice A' l'.length cap', .int .i64 r'] 27)).alloc
        (.cells #[.int .u8 0, .int .i64 0, .string ⟨#[]⟩, .slice none 0 0, .int .i64 0] 27)) (w.heap.size + 2) 27 #[.int .u8 0, .int .i64 0, .string ⟨#[]⟩, .slice none 0 0, .int .i64 0] := Blk.new' ((w.alloc _).alloc _) 27 _ (by simp)
    have hT0 := (hT.no hW (Nat.le_refl _)).more (Nat.le_refl _) hW.size
    have htb := hT.tb0
    have hm0 := hT.m0
    have ho0 := hT.o0
    have ha0 := ha.no hW hh
    have hb0 := hb.no hW hh
    have hsz : w.heap.size + 3 ≤ (((w.alloc (.cells #[.int .u8 k, .int .i64 n, .string s, .slice A l1.length cap, .int .i64 r] 27)).alloc (.cells #[.int .u8 k', .int .i64 n', .string s', .slice A' l'.length cap', .int .i64 r'] 27)).alloc
        (.cells #[.int .u8 0, .int .i64 0, .string ⟨#[]⟩, .slice none 0 0, .int .i64 0] 27)).heap.size := by simp
    have HU := hide hu
    have HV := hide hv
    have HMA := hide hma
    have HMB := hide hmb
    have HK := hide hk
    have HP := hide hp
    have hOlt : O < w.heap.size := hT.o0.2
    have hMlt : M < w.heap.size := hT.m0.2
    have HT := hide hT
    clear hu hv ha hb hT hma hmb hk hp
    go_enter Try.func26, Try.ntmps26
    go_wp2_with fail
    generalize World.alloc _ (.cells #[.int .u8 0, .int .i64 0, .string ⟨#[]⟩, .slice none 0 0, .int .i64 0] 27) = W0 at *
    have hN := none_tab tb M O came _ hT0.blk
    refine hN.mono ?_
    rintro e w' ⟨rfl, rfl⟩
    clear hN
    obtain ⟨c0, c1, c2, c3, c4, cf⟩ := hK.cells5
    go_wp2_with fail
    refine (hA _ ha0 (by omega)).mono ?_
    rintro e w2 ⟨rfl, fr2⟩
    obtain ⟨v0, v1, v2, v3, v4, vf⟩ := (hV.fr fr2 (fun h => h)).cells5
    clear hA c0 c1 c2 c3 c4 cf
    go_wp2_with fail
    refine (hB _ (hb0.no fr2 (by omega)) (by have := fr2.size; omega)).mono ?_
    rintro e w3 ⟨rfl, fr3⟩
    have fr23 := fr2.trans fr3
    obtain ⟨c0, c1, c2, c3, c4, cf⟩ := (hK.fr fr23 (fun h => h)).cells5
    clear hB v0 v1 v2 v3 v4 vf
    go_wp2_with fail
    refine (hF _ (ha0.no fr23 (by omega)) (by have := fr23.size; omega) (hT0.blk.fr fr23 (fun h => h))).mono ?_
    rintro e w4 ⟨h, -, -⟩
    obtain ⟨m, rfl, hmk, fr4⟩ := h HMA.out HK.out
    obtain ⟨ty, y, rfl⟩ := hmk.iface
    have fr04 := fr23.trans fr4
    have hT4 := (hT0.no fr04 (Nat.le_refl _)).more (Nat.le_refl _) fr04.size
    have hK4 := hK.fr fr04 (fun h => h)
    have hV4 := hV.fr fr04 (fun h => h)
    have hZ4 := hZ.fr fr04 (fun h => h)
    have ha4 := ha0.no fr04 (by omega)
    have hb4 := hb0.no fr04 (by omega)
    have hW4 := hW.trans fr04
    have hs4 : w.heap.size + 3 ≤ w4.heap.size := Nat.le_trans hsz fr04.size
    clear h fr2 fr3 fr23 fr4 fr04 hZ hV hK hT0 ha0 hb0 hW hF c0 c1 c2 c3 c4 cf hsz
    obtain ⟨es, cl, hm4, hes⟩ := hT4.m
    have hl4 := run_lookup_mark Try.underlying63 w4 (zero_ent _) u _ hmk hd HK.out true hm4 hes.keys (fun v _ => keys_ne2 u HK.out v)
    rw [HP.out] at hl4
    obtain ⟨hi, hxi⟩ := List.getElem?_eq_some_iff.1 hx
    have hei := List.getElem?_eq_getElem (l := es.toList) (i := i) (by rw [hes.1]; exact hi)
    have hev := (hes.2 i _ x hei hx).2
    simp only [found, hei, Option.map_some, hev] at hl4
    obtain ⟨⟨xk, xn, xs, xA, xcap, xl, xr⟩, ⟨yk, yn, ys, yA, ycap, yl, yr⟩, xc⟩ := x
    simp [Ent.val, T.cells] at hl4
    have t0 := hT4.blk.cell 0
    have t1 := hT4.blk.cell 1
    have t2 := hT4.blk.cell 2
    have tf := hT4.blk.frozen 2
    simp at t0 t1 t2
    have htb4 : tb < w4.heap.size := by omega
    have HXK := hide hxk
    have HEV := hide hev
    clear hxk hev hei hxi
    obtain ⟨d0, d1, d2, d3, d4, df⟩ := hZ4.cells5
    obtain ⟨c0, c1, c2, c3, c4, cf⟩ := hV4.cells5
    have q7 : w.heap.size + 2 < w4.heap.size := by omega
    have q8 : w.heap.size + 1 < w4.heap.size := by omega
    have HOb := hide hOb
    clear hOb
    go_wp2_with fail
    obtain ⟨hZ8, fr48⟩ := sets5 w4 (w.heap.size + 1 + 1) 27 _ _ _ _ _ (.int .u8 yk) (.int .i64 yn) (.string ys) (.slice yA yl.length ycap) (.int .i64 yr) hZ4
    have hs48 := fr48.size
    have hsz8 : (((((w4.setCell ⟨w.heap.size + 1 + 1, 0, none⟩ (.int .u8 yk)).setCell ⟨w.heap.size + 1 + 1, 1, none⟩ (.int .i64 yn)).setCell ⟨w.heap.size + 1 + 1, 2, none⟩ (.string ys)).setCell ⟨w.heap.size + 1 + 1, 3, none⟩ (.slice yA yl.length ycap)).setCell ⟨w.heap.size + 1 + 1, 4, none⟩ (.int .i64 yr)).heap.size = w4.heap.size := by simp
    generalize World.setCell _ ⟨w.heap.size + 1 + 1, 4, none⟩ _ = w8 at *
    have fr49 : Fr (fun i => i = w.heap.size + 1 + 1) w4 _ := fr48.alloc (.cells #[.int .u8 xk, .int .i64 xn, .string xs, .slice xA xl.length xcap, .int .i64 xr, .int .u8 yk, .int .i64 yn, .string ys, .slice yA yl.length ycap, .int .i64 yr, .int .i64 (xc : Int)] 132)
    have hX9 := Blk.new' w8 132 #[.int .u8 xk, .int .i64 xn, .string xs, .slice xA xl.length xcap, .int .i64 xr, .int .u8 yk, .int .i64 yn, .string ys, .slice yA yl.length ycap, .int .i64 yr, .int .i64 (xc : Int)] hsz8
    have hZ9 := hZ8.alloc (.cells #[.int .u8 xk, .int .i64 xn, .string xs, .slice xA xl.length xcap, .int .i64 xr, .int .u8 yk, .int .i64 yn, .string ys, .slice yA yl.length ycap, .int .i64 yr, .int .i64 (xc : Int)] 132)
    have hs89 : (w8.alloc (.cells #[.int .u8 xk, .int .i64 xn, .string xs, .slice xA xl.length xcap, .int .i64 xr, .int .u8 yk, .int .i64 yn, .string ys, .slice yA yl.length ycap, .int .i64 yr, .int .i64 (xc : Int)] 132)).heap.size = w8.heap.size + 1 := by simp
    generalize World.alloc _ _ = w9 at *
    have hb9 := hb4.frB fr49 (by omega) (fun b hb => by have := T.In.blocks _ hb4 b hb; omega)
    clear fr48
    refine (HOb.out w9 hb9 (by omega)).mono ?_
    rintro e wA ⟨tv, rfl, hvv, vow, frA⟩
    have hsA := frA.size
    have hZA := hZ9.fr frA (fun h => h)
    have hXA := hX9.fr frA (fun h => h)
    have fr4A : Fr (fun i => i = w.heap.size + 1 + 1) w4 wA := fr49.thenNo frA
    clear d0 d1 d2 d3 d4 df c0 c1 c2 c3 c4 cf q7 q8
    obtain ⟨z0, z1, z2, z3, z4, z5, z6, z7, z8, z9, z10, zf⟩ := hXA.cells11
    have q9 : w4.heap.size < wA.heap.size := by omega
    have HVV := hide hvv
    have HVO := hide vow
    clear hvv vow
    obtain ⟨k3, n3, s3, A3, cap3, l3, r3⟩ := tv
    rw [T.val_mk]
    go_wp2_with fail
    obtain ⟨hXB, frAB⟩ := sets5m wA w4.heap.size 132 _ _ _ _ _ _ _ _ _ _ _ (.int .u8 k3) (.int .i64 n3) (.string s3) (.slice A3 l3.length cap3) (.int .i64 r3) hXA
    generalize World.setCell _ ⟨w4.heap.size, 9, none⟩ _ = wB at *
    have hsB := frAB.size
    have fr4B : Fr (fun i => i = w.heap.size + 1 + 1) w4 wB := fr4A.trans' frAB (fun i hi h => by have h' : i = w4.heap.size := h; omega)
    have hZB := hZA.fr frAB (by omega)
    have hBB := hT4.blk.fr fr4B (by omega)
    have hmB := (fr4B.block M (by omega) (by omega)).trans hm4
    have e0 := hBB.cell 0
    simp at e0
    have hup := run_update_old Try.underlying63 wB.drew u (.iface ty y) (.agg #[.int .u8 xk, .int .i64 xn, .string xs, .slice xA xl.length xcap, .int .i64 xr, .int .u8 k3, .int .i64 n3, .string s3, .slice A3 l3.length cap3, .int .i64 r3, .int .i64 (xc : Int)]) hmk hd HK.out hmB hes.keys HP.out (by rw [List.getElem?_map, hx]; exact congrArg some HXK.out)
    clear z0 z1 z2 z3 z4 z5 z6 z7 z8 z9 z10 zf
    obtain ⟨z0, z1, z2, z3, z4, z5, z6, z7, z8, z9, z10, zf⟩ := hXB.cells11
    have q5 : tb < wB.heap.size := by omega
    have q10 : w4.heap.size < wB.heap.size := by omega
    clear t0 t1 t2 tf htb4
    have HX := hide hx
    clear hx
    go_region
    clear z0 z1 z2 z3 z4 z5 z6 z7 z8 z9 z10 zf hup e0
    have frBC : Fr (fun i => i = M) wB _ := ((Fr.refl (fun i => i = M) wB).drew).putObj (fun _ => rfl) (.map (es.modify i fun e => { e with key := .iface ty y, val := .agg #[.int .u8 xk, .int .i64 xn, .string xs, .slice xA xl.length xcap, .int .i64 xr, .int .u8 k3, .int .i64 n3, .string s3, .slice A3 l3.length cap3, .int .i64 r3, .int .i64 (xc : Int)] }) cl)
    have hMC := World.putObj_heap_same (w := wB.drew) (o := .map (es.modify i fun e => { e with key := .iface ty y, val := .agg #[.int .u8 xk, .int .i64 xn, .string xs, .slice xA xl.length xcap, .int .i64 xr, .int .u8 k3, .int .i64 n3, .string s3, .slice A3 l3.length cap3, .int .i64 r3, .int .i64 (xc : Int)] }) cl) (lt_of_heap hmB)
    generalize World.putObj _ _ _ = wC at *
    have hZC := hZB.fr frBC (by omega)
    have hsC := frBC.size
    obtain ⟨d0, d1, d2, d3, d4, df⟩ := hZC.cells5
    have q11 : w.heap.size + 2 < wC.heap.size := by omega
    go_wp2_with fail
    obtain ⟨hZD, frCD⟩ := sets5 wC (w.heap.size + 1 + 1) 27 _ _ _ _ _ (.int .u8 yk) (.int .i64 yn) (.string ys) (.slice yA yl.length ycap) (.int .i64 yr) hZC
    generalize World.setCell _ ⟨w.heap.size + 1 + 1, 4, none⟩ _ = wD at *
    clear d0 d1 d2 d3 d4 df
    obtain ⟨d0, d1, d2, d3, d4, df⟩ := hZD.cells5
    refine bodyPost_ret (v := .tuple #[.agg #[.int .u8 yk, .int .i64 yn, .string ys, .slice yA yl.length ycap, .int .i64 yr], .bool true, .int .i64 0]) (by simp [results, Try.results26, go_sem, *]) rfl ?_
    refine ⟨rfl, T.mk k3 n3 s3 A3 cap3 l3 r3, HVV.out, ?_⟩
    have f0 : Fr (fun i => i = M) w w9 := (hW4.mono (S' := fun i => i = M) (fun i _ h => h.elim)).trans' fr49 (fun i hi h => by have h' : i = w.heap.size + 1 + 1 := h; omega)
    have f1 : Fr (fun i => i = M) w wB := (f0.thenNo frA).trans' frAB (fun i hi h => by have h' : i = w4.heap.size := h; omega)
    have hF : Fr (fun i => i = M) w wD := (f1.trans frBC).trans' frCD (fun i hi h => by have h' : i = w.heap.size + 1 + 1 := h; omega)
    have nn0 : w4.heap.size < w9.heap.size := by omega
    have nn1 : w.heap.size + 1 + 1 < w9.heap.size := by omega
    have nn2 : M < w9.heap.size := by omega
    have g1 : Fr (fun i => i < w9.heap.size) wA wB := frAB.mono fun i _ h => h ▸ nn0
    have g2 : Fr (fun i => i < w9.heap.size) wA wC := g1.trans' frBC fun i _ h => h ▸ nn2
    have g3 : Fr (fun i => i < w9.heap.size) wA wD := g2.trans' frCD fun i _ h => h ▸ nn1
    have v6 := (HVO.out.frB g3 (Nat.le_refl _) (fun b hb => by have := T.In.blocks _ HVO.out.inn b hb; omega))
    have hvv' := HVV.out
    obtain ⟨r1, r2, r3⟩ := Tab.put_old HT.out hF hes ((frCD.block M (by omega) (by omega)).trans hMC) HX.out v6 (show w.heap.size ≤ w9.heap.size from f0.size) frA.size g3.size (by have := HXK.out; rw [this]; exact hmk) rfl (by rw [hvv']; exact HMB.out)
    have hw9 : w.heap.size ≤ w9.heap.size := f0.size
    exact ⟨r1, r2, r3, hF, fun i hi => by have := T.In.blocks _ v6.inn i hi; omega⟩

end Go.Proofs.Ytihjmipmjogpoaa

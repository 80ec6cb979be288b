/- Texts joined: Bt1, Bt19, R2, R3, R4, Bt18. -/
import Derived.Test.YtihjmipmjogpoaaJn13
/- BrandTables: the law's own: a value in memory of its own. -/
namespace Go.Proofs.Ytihjmipmjogpoaa
open Go.RowKit

/-- Where its loop stands. -/
structure OwInv4 (w : World) (X : Array Value) (l : List T) (j : Nat) (A : Option Addr) (cap : Nat) (l' : List T) (wr : World) : Prop where
  len : l'.length = j
  vs : l'.map T.v = (l.take j).map T.v
  fr : Fr No w wr
  b0 : Blk wr w.heap.size 27 X
  b1 : Blk wr (w.heap.size + 1) 27 #[.int .u8 0, .int .i64 0, .string ⟨#[]⟩, .slice none 0 0, .int .i64 0]
  own : wr.ownsRow (w.heap.size + 2) 27 5 (.slice A j cap) j (rowCells l')
  sp : ∀ x ∈ l', x.Sp wr (w.heap.size + 2) wr.heap.size
  nd : ((l'.map T.blocks).flatten).Nodup
  nil : l' = [] → A = none ∧ cap = 0
  sep : ∀ x ∈ l', ∀ b ∈ x.blocks, (Value.slice A j cap).ownBlock ≠ some b
  big : w.heap.size + 2 ≤ wr.heap.size

theorem ow_push4 {w wr w2 w3 : World} {X : Array Value} {l : List T} {j : Nat} {A2 : Option Addr} {cap2 : Nat} {l' : List T} {t' : T} {g cp : Nat} (inv : OwInv4 w X l j A2 cap2 l' wr) (hlt : j < l.length) (hv : t'.v = l[j].v)
    (hsh : t'.Sh w2 wr.heap.size w2.heap.size) (f1 : Fr No wr w2) (hown : w3.ownsRow (w.heap.size + 2) 27 5 (.slice (some ⟨g, 0, none⟩) (j + 1) cp) (j + 1) (rowCells l' ++ t'.cells))
    (hgrow : (w2.alloc (.cells t'.cells.toArray 27)).grownBy w3 (Value.slice A2 j cap2).ownBlock) (hat : (Value.slice A2 j cap2).ownBlock = some g ∨ g = w2.heap.size + 1) :
    OwInv4 w X l (j + 1) (some ⟨g, 0, none⟩) cp (l' ++ [t']) w3 := by
  have big := inv.big
  have hin := hsh.inn
  have hinn : ∀ x ∈ l', x.In wr (w.heap.size + 2) wr.heap.size := fun x hx => T.Sp.inn x (inv.sp x hx)
  have hol := inv.own.lt
  have hs2 : wr.heap.size ≤ w2.heap.size := f1.size
  have hs3 : w2.heap.size + 1 ≤ w3.heap.size := by have := hgrow.size; simpa using this
  have F2 : Fr (fun i => some i = (Value.slice A2 j cap2).ownBlock) w2 w3 :=
    (((Fr.refl No w2).alloc (.cells t'.cells.toArray 27)).no).trans' (fr_grown hgrow) (fun i _ h => h)
  have F1 : Fr (fun i => some i = (Value.slice A2 j cap2).ownBlock) wr w3 := (f1.no).trans F2
  have hgl := (owns_lt hown g rfl)
  have hn0 : ∀ i, i < w.heap.size + 2 → ¬ some i = (Value.slice A2 j cap2).ownBlock := fun i hi h => by have := hol i h.symm; omega
  refine ⟨by simp [inv.len], ?_, inv.fr.trans' F1 (fun i hi h => hn0 i (by omega) h), inv.b0.fr F1 (hn0 _ (by omega)), inv.b1.fr F1 (hn0 _ (by omega)), ?_, ?_, ?_, (fun h => absurd h (by simp)), ?_, ?_⟩
  · rw [List.map_append, inv.vs, List.take_succ_eq_append_getElem hlt, List.map_append, List.map_singleton, List.map_singleton, hv]
  · rw [rowCells_snoc]
    exact hown
  · intro x hx
    have hsz := F1.size
    have hsz2 := F2.size
    rcases List.mem_append.1 hx with hx | hx
    · have hb : ∀ b ∈ x.blocks, ¬ (some b = (Value.slice A2 j cap2).ownBlock) := fun b hb h => inv.sep x hx b hb h.symm
      exact T.Sp.more (Nat.le_refl _) hsz x (T.Sp.fr F1 x hb (inv.sp x hx))
    · simp at hx; subst hx
      have hb : ∀ b ∈ x.blocks, ¬ (some b = (Value.slice A2 j cap2).ownBlock) := fun b hb h => by
        have h3 := T.In.blocks x hin b hb
        have := hol b h.symm; omega
      exact T.Sp.more (by omega) hsz2 x (T.Sp.fr F2 x hb hsh.sp)
  · rw [List.map_append, List.flatten_append, List.nodup_append]
    refine ⟨inv.nd, by simpa using hsh.nodup, fun a ha b hb e => ?_⟩
    subst e
    obtain ⟨L, hL, ha⟩ := List.mem_flatten.1 ha
    obtain ⟨x, hx, rfl⟩ := List.mem_map.1 hL
    have h1 := T.In.blocks x (hinn x hx) a ha
    have h2 := T.In.blocks t' hin a (by simpa using hb)
    omega
  · intro x hx b hb h
    simp [Value.ownBlock] at h
    subst h
    rcases List.mem_append.1 hx with hx | hx
    · rcases hat with h | h
      · exact inv.sep x hx _ hb h
      · have := T.In.blocks x (hinn x hx) _ hb; omega
    · simp at hx; subst hx
      have h3 := T.In.blocks x hin _ hb
      rcases hat with h | h
      · have := hol _ h; omega
      · omega
  · have := F1.size; omega

set_option maxRecDepth 100000 in
set_option maxHeartbeats 8000000 in
theorem own4_any (t : T) : ∀ (w : World) (lo hi : Nat), t.In w lo hi → hi ≤ w.heap.size → Calls Try.prog 94 #[t.val] w (ROwnP2 t.v w) := by
  induction t using T.ind with
  | h k n s A cap l r ih =>
    intro w lo hi ht hh
    rw [T.val_mk]
    have fit := (T.in_mk.1 ht).1
    have hlen := fit.len1
    obtain ⟨i0, hi0, hz0, hz1, hz2⟩ := info_parts value_info
    go_enter Try.func94, Try.ntmps94
    go_wp2_with fail
    go_loopw [3, 4] (fun lv i wr => ∃ (j : Nat) (A2 : Option Addr) (cap2 : Nat) (l' : List T), j ≤ l.length ∧ i = .int .i64 j ∧ lv = .slice A2 j cap2 ∧
        OwInv4 w #[.int .u8 k, .int .i64 n, .string s, .slice A l.length cap, .int .i64 r] l j A2 cap2 l' wr)
      (fun _ i _ => l.length - (intOf i).toNat)
    case atStart =>
      exact ⟨0, none, 0, [], Nat.zero_le _, rfl, rfl, rfl, by simp, (((Fr.refl No w).alloc _).alloc _), (Blk.new' w 27 _ rfl).alloc _, Blk.new' (w.alloc _) 27 _ (by simp), World.ownsRow_nil _ _ _ _, by simp, by simp, fun _ => ⟨rfl, rfl⟩, by simp, by simp⟩
    case round =>
      obtain ⟨j, A2, cap2, l', hj, rfl, rfl, inv⟩ := hrel
      have fr := inv.fr
      have big := inv.big
      obtain ⟨d0, d1, d2, d3, d4, df⟩ := inv.b0.cells5
      by_cases hlt : j < l.length
      · obtain ⟨b, o, k1, n1, s1, A1, cap1, l1, r1, rfl, hb0, hb1, hx, hin, e0, e1, e2, e3, e4⟩ := T.elem (ht.no fr hh) hlt
        have IH := ih l[j] (List.getElem_mem hlt)
        rw [hx] at IH
        have HX := hide hx
        rw [T.val_mk] at IH
        have hh0 : hi ≤ wr.heap.size := by omega
        have HIH := hide (IH wr lo hi hin hh0)
        have HI := hide inv
        have g0 : b < wr.heap.size := by omega
        have g1 : w.heap.size < wr.heap.size := by omega
        clear hx ih inv ht IH fr hin hh
        go_wp2_with fail
        refine HIH.out.mono ?_
        rintro e w2 ⟨⟨k5, n5, s5, A5, cap5, l5, r5⟩, rfl, hv5, hsh5, f5⟩
        rw [T.val_mk]
        have hs5 := f5.size
        have hownA := (owns_fr HI.out.own f5 fun _ _ h => h).alloc (.cells #[.int .u8 k5, .int .i64 n5, .string s5, .slice A5 l5.length cap5, .int .i64 r5] 27)
        have HV5 := hide hv5
        have HS5 := hide hsh5
        have HF5 := hide f5
        have q5 : w.heap.size + 2 ≤ w2.heap.size := by omega
        clear hv5 hsh5 f5 d0 d1 d2 d3 d4 df e0 e1 e2 e3 e4
        go_wp2_with (at_builtin; refine wpList_append_lies _ (by rfl) _ _ _ (by rfl) (w.heap.size + 2) 27 i0 _ 5 64 Try.underlying24 hi0 hz0 hz1 hz2 (by rfl) (by omega) (.slice A2 j cap2) j (rowCells l') (by rfl) hownA ⟨w2.heap.size, 0, none⟩ 1 1 [.int .u8 k5, .int .i64 n5, .string s5, .slice A5 l5.length cap5, .int .i64 r5] (by rfl) (by rfl) (World.news_of_block (Blk.new w2 27 _)) (by simp [Value.oneCell']) (by omega) (by unfold maxLen; omega) (by omega) (by simp; omega) (w2.heap.size + 1) (by simp) ?_; intro g cp w5 hown5 hgrow hat hlt5; have HO5 := hide hown5; have HG := hide hgrow; have HA := hide hat; clear hown5 hgrow hat)
        go_roundw
        case rel =>
          exact ⟨j + 1, _, _, _, hlt, by go_num, rfl, ow_push4 HI.out hlt (HV5.out.trans (congrArg T.v HX.out).symm) HS5.out HF5.out HO5.out HG.out HA.out⟩
        case measure => simp [intOf]; omega
      · obtain rfl : l.length = j := by omega
        obtain ⟨y0, y1, y2, y3, y4, yf⟩ := inv.b1.cells5
        have q1 := inv.b1.lt
        have q0 := inv.b0.lt
        have hil := inv.len
        have HI := hide inv
        have hb : ∀ x ∈ l', ∀ b ∈ x.blocks, w.heap.size + 2 ≤ b ∧ b < wr.heap.size := fun x hx b hb => T.In.blocks x (T.Sp.inn x (inv.sp x hx)) b hb
        have HBL := hide hb
        clear ih inv ht fr hh hb
        go_wp2_with fail
        refine bodyPost_ret (v := .agg #[.int .u8 k, .int .i64 n, .string s, .slice A2 l.length cap2, .int .i64 r]) (by simp [results, Try.results94, go_sem, *]) rfl ?_
        generalize hW : World.setCell _ _ _ = W
        have hfr : Fr (fun i => i = w.heap.size ∨ i = w.heap.size + 1) wr W := by
          rw [← hW]
          repeat (first | with_reducible exact Fr.refl _ wr | with_reducible refine Fr.set ?_ (by simp) _)
        have inv := HI.out
        have hol := inv.own.lt
        have own2 := owns_fr inv.own hfr (fun g hg h => by have := hol g hg; rcases h with h | h <;> omega)
        have hle := owns_le own2
        have hspW : ∀ x ∈ l', x.Sp W w.heap.size W.heap.size := fun x hx => T.Sp.more (by omega) hfr.size x (T.Sp.fr hfr x (fun b hb h => by have := HBL.out x hx b hb; rcases h with h | h <;> omega) (inv.sp x hx))
        refine ⟨T.mk k n s A2 cap2 l' r, by rw [T.val_mk, hil], ?_, ⟨T.sp_mk.2 ⟨⟨fit.k0, fit.k1, fit.n0, fit.n1, fit.s1, by rw [hil]; exact hlen, by rw [hil]; exact hle, fit.r0, fit.r1⟩, inv.nil, fun hne => ?_, hspW⟩, ?_⟩, inv.fr.trans' hfr (fun i hi h => by rcases h with h | h <;> omega)⟩
        · rw [T.v_mk, T.v_mk, inv.vs, List.take_of_length_le (Nat.le_refl _)]
        · have hpos : 0 < l.length := by
            cases l' with
            | nil => exact absurd rfl hne
            | cons x l' => simp at hil; omega
          obtain ⟨g, c, hA, hg0, hg1⟩ := own2.form hpos
          simp only [Value.slice.injEq, true_and] at hA
          obtain ⟨rfl, rfl⟩ := hA
          rw [hil]
          exact ⟨owns_mono own2 (by omega), g, rfl, hg1⟩
        · rw [T.blocks_mk]
          cases hl0 : l' with
          | nil => simp
          | cons x l2 =>
            have hie : l'.isEmpty = false := by rw [hl0]; rfl
            rw [← hl0]
            have hpos : 0 < l.length := by rw [hl0] at hil; simp at hil; omega
            obtain ⟨g, c, hA, hg0, hg1⟩ := own2.form hpos
            simp only [Value.slice.injEq, true_and] at hA
            obtain ⟨rfl, rfl⟩ := hA
            simp only [hie, Bool.false_eq_true, if_false, Option.map_some, Option.toList_some, List.singleton_append, List.nodup_cons]
            refine ⟨fun h => ?_, inv.nd⟩
            obtain ⟨L, hL, ha⟩ := List.mem_flatten.1 h
            obtain ⟨y, hy, rfl⟩ := List.mem_map.1 hL
            exact inv.sep y hy g ha rfl

end Go.Proofs.Ytihjmipmjogpoaa

/- BrandTables: both tables in one, and what a step leaves of them. -/
namespace Go.Proofs.Ytihjmipmjogpoaa
open Go.RowKit

/-- The program's table and the document's. -/
structure PT where
  tb : Nat
  M : Nat
  O : Nat
  l : List Ent
  came : Nat
  rb : Nat
  A : Option Addr
  cap : Nat
  R : List (T × T)

def PT.B (p : PT) (i : Nat) : Prop := tabBlocks p.tb p.M p.O p.l i ∨ dBlocks p.rb p.A p.R.length p.cap i

structure PT.Ok (p : PT) (lo hi0 n : Nat) (W : World) : Prop where
  tab : Tab W lo W.heap.size p.tb p.M p.O p.l p.came
  dt : DTab W lo hi0 p.rb p.A p.cap p.R
  dis : ∀ i, tabBlocks p.tb p.M p.O p.l i → ¬ dBlocks p.rb p.A p.R.length p.cap i
  rel : Rel p.l p.R
  came : p.came ≤ n
  len : p.R.length ≤ n
  h0 : hi0 ≤ lo
  hl : lo ≤ W.heap.size

section
variable {p : PT} {lo hi0 n : Nat} {W W' : World} {S : Nat → Prop}

theorem PT.Ok.lt (h : p.Ok lo hi0 n W) : ∀ i, p.B i → lo ≤ i ∧ i < W.heap.size := by
  rintro i (hi | hi)
  · exact h.tab.lt i hi
  · exact h.dt.lt i hi

theorem PT.Ok.fr (h : p.Ok lo hi0 n W) (f : Fr S W W') (hs : ∀ i, p.B i → ¬ S i) (h0 : ∀ i, i < hi0 → ¬ S i) : p.Ok lo hi0 n W' :=
  ⟨(h.tab.frB f (Nat.le_refl _) fun i hi => hs i (.inl hi)).more (Nat.le_refl _) f.size, h.dt.fr f (Nat.le_trans h.h0 h.hl) (fun i hi => hs i (.inr hi)) h0, h.dis, h.rel, h.came, h.len, h.h0, Nat.le_trans h.hl f.size⟩

theorem PT.Ok.no (h : p.Ok lo hi0 n W) (f : Fr No W W') : p.Ok lo hi0 n W' := h.fr f (fun _ _ h => h) fun _ _ h => h

theorem PT.Ok.more {m : Nat} (h : p.Ok lo hi0 n W) (hm : n ≤ m) : p.Ok lo hi0 m W := ⟨h.tab, h.dt, h.dis, h.rel, Nat.le_trans h.came hm, Nat.le_trans h.len hm, h.h0, h.hl⟩

theorem PT.Ok.fine (h : p.Ok lo hi0 n W) : Fine p.l := ⟨h.tab.may, h.tab.dist⟩
end

/-- What a step leaves. -/
structure PT.Next (p p' : PT) (lo hi0 n : Nat) (W W' : World) : Prop where
  ok : p'.Ok lo hi0 (n + 1) W'
  fr : Fr p.B W W'
  old : ∀ i, p'.B i → i < W.heap.size → p.B i
  tb : p'.tb = p.tb
  rb : p'.rb = p.rb

section
variable {p p' : PT} {lo hi0 n : Nat} {W W1 W2 W' : World} {S : Nat → Prop}

theorem PT.Next.same (h : p.Ok lo hi0 n W) (f : Fr No W W') : p.Next p lo hi0 n W W' :=
  ⟨(h.no f).more (Nat.le_succ _), f.no, fun _ h _ => h, rfl, rfl⟩

theorem PT.Next.pre (f : Fr No W W1) (h : p.Next p' lo hi0 n W1 W2) : p.Next p' lo hi0 n W W2 :=
  ⟨h.ok, f.no.trans h.fr, fun i hi hl => h.old i hi (Nat.lt_of_lt_of_le hl f.size), h.tb, h.rb⟩

theorem PT.Next.post (h : p.Next p' lo hi0 n W W1) (f : Fr S W1 W2) (hs : ∀ i, p'.B i → ¬ S i) (h0 : ∀ i, i < hi0 → ¬ S i) (hn : ∀ i, i < W.heap.size → ¬ S i) : p.Next p' lo hi0 n W W2 :=
  ⟨h.ok.fr f hs h0, h.fr.trans' f fun i hi h => absurd h (hn i hi), h.old, h.tb, h.rb⟩

theorem PT.Next.postNo (h : p.Next p' lo hi0 n W W1) (f : Fr No W1 W2) : p.Next p' lo hi0 n W W2 := h.post f (fun _ _ h => h) (fun _ _ h => h) fun _ _ h => h
end

/-! ### Put -/

/-- What Put leaves; what it answers is of old blocks of the table. -/
def PutRes2 (a b : V) (lo tb M O : Nat) (l : List Ent) (came : Nat) (w : World) (e : Ending) (w' : World) : Prop :=
  ∃ (old : T) (had : Bool) (l' : List Ent) (came' : Nat), e = .returned (.tuple #[old.val, .bool had, .int .i64 (putErr a b)]) ∧ old.In w' 0 w'.heap.size ∧ Tab w' lo w'.heap.size tb M O l' came' ∧ Fr (fun i => i = tb ∨ i = M ∨ i = O) w w' ∧
    (∀ i, tabBlocks tb M O l' i → i < w.heap.size → tabBlocks tb M O l i) ∧ PutSays a b l came l' came' old.v had ∧ ∀ i ∈ old.blocks, tabBlocks tb M O l i

theorem Put_any2 (a b : T) (w : World) (alo ahi : Nat) (ha : a.In w alo ahi) (hb : b.In w alo ahi) (hh : ahi ≤ w.heap.size) (lo tb M O : Nat) (l : List Ent) (came : Nat) (hT : Tab w lo w.heap.size tb M O l came)
    (hap : ∀ i, i ∈ a.blocks ∨ i ∈ b.blocks → i ≠ tb ∧ i ≠ M ∧ i ≠ O) (hc : came < 1000000) :
    Calls Try.prog 26 #[.pointer (some ⟨tb, 0, none⟩), a.val, b.val] w (PutRes2 a.v b.v lo tb M O l came w) := by
  have hz : T.zero.blocks = [] := by rw [T.zero, T.blocks_mk]; rfl
  by_cases he : putErr a.v b.v = 0
  · obtain ⟨hma, hmb, hk⟩ := putErr_zero he
    cases hp : pos a.v (l.map fun e => e.k.v) with
    | none =>
      refine (Put_new a b w alo ahi ha hb hh lo tb M O l came hT hap hma hmb hk hp hc).mono ?_
      rintro e w' ⟨rfl, x, h1, h2, h3, h4, h5, h6⟩
      refine ⟨T.zero, false, _, _, by rw [he]; rfl, (T.zero_ow _ _ _).inn, h4, h5, fun i hi hlt => ?_, by rw [T.zero_v]; exact .new x he hp h1 h2 h3, fun i hi => by rw [hz] at hi; cases hi⟩
      rcases hi with hi | hi | hi | hi
      · exact .inl hi
      · exact .inr (.inl hi)
      · exact .inr (.inr (.inl hi))
      · obtain ⟨e, he, hb⟩ := trees_mem.1 hi
        rcases List.mem_append.1 he with he | he
        · exact .inr (.inr (.inr (trees_mem.2 ⟨e, he, hb⟩)))
        · simp at he; subst he
          have := h6 i hb
          omega
    | some i =>
      have hkx := pos_some hma hk (fun v hv => by obtain ⟨e, he, rfl⟩ := List.mem_map.1 hv; exact (hT.may e he).1) hp
      rw [List.getElem?_map] at hkx
      cases hx : l[i]? with
      | none => rw [hx] at hkx; cases hkx
      | some x =>
        refine (Put_old a b w alo ahi ha hb hh lo tb M O l came hT hap hma hmb hk hp hx).mono ?_
        rintro e w' ⟨rfl, v', h1, h2, h3, h4, h5, h6⟩
        refine ⟨x.v, true, _, _, by rw [he], T.In.more (Nat.zero_le _) (Nat.le_refl _) _ h3.inn, h2, h5.mono fun i _ h => .inr (.inl h), fun j hj hlt => ?_, .old i x v' he hp hx h1, fun j hj => .inr (.inr (.inr (trees_mem.2 ⟨x, List.mem_of_getElem? hx, .inr hj⟩)))⟩
        rcases hj with hj | hj | hj | hj
        · exact .inl hj
        · exact .inr (.inl hj)
        · exact .inr (.inr (.inl hj))
        · obtain ⟨e, he, hb⟩ := trees_mem.1 hj
          rcases List.mem_or_eq_of_mem_set he with he | rfl
          · exact .inr (.inr (.inr (trees_mem.2 ⟨e, he, hb⟩)))
          · rcases hb with hb | hb
            · exact .inr (.inr (.inr (trees_mem.2 ⟨x, List.mem_of_getElem? hx, .inl hb⟩)))
            · have := h6 j hb
              omega
  · refine (Put_err a b w alo ahi ha hb hh tb M O came hT.blk he).mono ?_
    rintro e w' ⟨rfl, fr⟩
    exact ⟨T.zero, false, l, came, rfl, (T.zero_ow _ _ _).inn, (hT.no fr (Nat.le_refl _)).more (Nat.le_refl _) fr.size, fr.no, fun i hi _ => hi, by rw [T.zero_v]; exact .err he, fun i hi => by rw [hz] at hi; cases hi⟩

/-- Behind a Put that failed. -/
theorem put_failed {a b : V} {l l' : List Ent} {came came' : Nat} {old : V} {had : Bool} (hs : PutSays a b l came l' came' old had) (he : putErr a b ≠ 0) : l' = l ∧ came' = came ∧ old = V.zero ∧ had = false := by
  cases hs with
  | err _ => exact ⟨rfl, rfl, rfl, rfl⟩
  | new _ h => exact absurd h he
  | old _ _ _ h => exact absurd h he

theorem put_came {a b : V} {l l' : List Ent} {came came' : Nat} {old : V} {had : Bool} (hs : PutSays a b l came l' came' old had) : came' ≤ came + 1 := by
  cases hs <;> omega

theorem dput_len {k v : T} {R R' : List (T × T)} {t : T} {had : Bool} (h : DPut k v R R' t had) : R'.length ≤ R.length + 1 := by
  rcases h with ⟨i, x, -, -, -, rfl, -⟩ | ⟨-, -, rfl, -⟩ <;> simp

theorem ddrop_len {u : V} {R R' : List (T × T)} {had : Bool} (h : DDrop u R R' had) : R'.length ≤ R.length := by
  rcases h with ⟨i, x, -, -, rfl, -⟩ | ⟨-, rfl, -⟩
  · exact List.length_eraseIdx_le _ _
  · exact Nat.le_refl _

/-- Behind a call of the program's and one of the document's. -/
theorem put_next {p : PT} {lo hi0 n : Nat} {w W W1 W2 W3 : World} {S : Nat → Prop} {l' : List Ent} {came' : Nat} {R' : List (T × T)} (h : p.Ok lo hi0 n w) (f0 : Fr No w W)
    (hT1 : Tab W1 lo W1.heap.size p.tb p.M p.O l' came') (f1 : Fr (fun i => i = p.tb ∨ i = p.M ∨ i = p.O) W W1) (hold : ∀ i, tabBlocks p.tb p.M p.O l' i → i < W.heap.size → tabBlocks p.tb p.M p.O p.l i)
    (fS : Fr S W1 W2) (hS : ∀ i, i < W1.heap.size → S i → w.heap.size ≤ i ∧ i < W.heap.size) (hD : DRes W2 lo hi0 p.rb p.A p.cap p.R R' W3) (hrel : Rel l' R') (hc : came' ≤ n + 1) (hlen : R'.length ≤ n + 1) :
    ∃ p', p.Next p' lo hi0 n w W3 := by
  obtain ⟨A', cap', hD', fD, hdo⟩ := hD
  have s0 := f0.size
  have s1 := f1.size
  have s2 := fS.size
  have s3 := fD.size
  have hns : ∀ i, tabBlocks p.tb p.M p.O l' i → ¬ S i := fun i hi hs => by
    have h1 := hS i (hT1.lt i hi).2 hs
    have h2 := (h.tab.lt i (hold i hi h1.2)).2
    omega
  have hnd : ∀ i, tabBlocks p.tb p.M p.O l' i → ¬ dBlocks p.rb p.A p.R.length p.cap i := fun i hi hd => by
    have h1 := (h.dt.lt i hd).2
    exact h.dis i (hold i hi (by omega)) hd
  have hT2 := (hT1.frB fS (Nat.le_refl _) hns).more (Nat.le_refl lo) s2
  refine ⟨⟨p.tb, p.M, p.O, l', came', p.rb, A', cap', R'⟩, ⟨(hT2.frB fD (Nat.le_refl _) hnd).more (Nat.le_refl _) s3, hD', fun i hi hd => ?_, hrel, hc, hlen, h.h0, by have := h.hl; omega⟩, ?_, fun i hi hl => ?_, rfl, rfl⟩
  · have h1 := (hT1.lt i hi).2
    exact hnd i hi (hdo i hd (by omega))
  · have g1 : Fr p.B w W1 := f0.no.trans' f1 fun i _ hi => by
      rcases hi with rfl | rfl | rfl
      · exact .inl (.inl rfl)
      · exact .inl (.inr (.inl rfl))
      · exact .inl (.inr (.inr (.inl rfl)))
    have g2 : Fr p.B w W2 := g1.trans' fS fun i hi hs => by
      have := (hS i (by omega) hs).1
      omega
    exact g2.trans' fD fun i _ hi => .inr hi
  · rcases hi with hi | hi
    · exact .inl (hold i hi (by omega))
    · exact .inr (hdo i hi (by omega))

theorem putErr_cases (a b : V) : putErr a b = 0 ∨ putErr a b = 2 ∨ putErr a b = 40 := by
  unfold putErr
  split
  · split
    · exact .inl rfl
    · exact .inr (.inr rfl)
  · exact .inr (.inl rfl)

theorem putErr_get (a : V) : putErr a V.zero = getErr a := by
  unfold putErr getErr
  rw [zero_may, Bool.and_true]

theorem getErr_zero {a : V} (h : getErr a = 0) : a.may = true ∧ a.keys = true := by
  rw [← putErr_get] at h
  exact ⟨(putErr_zero h).1, (putErr_zero h).2.2⟩

theorem getErr_cases (a : V) : getErr a = 0 ∨ getErr a = 2 ∨ getErr a = 40 := by
  rw [← putErr_get]
  exact putErr_cases a _

theorem erase_blocks {l : List Ent} {tb M O i j : Nat} (h : tabBlocks tb M O (l.eraseIdx j) i) : tabBlocks tb M O l i := by
  rcases h with h | h | h | h
  · exact .inl h
  · exact .inr (.inl h)
  · exact .inr (.inr (.inl h))
  · obtain ⟨e, he, hb⟩ := trees_mem.1 h
    exact .inr (.inr (.inr (trees_mem.2 ⟨e, List.mem_of_mem_eraseIdx he, hb⟩)))

end Go.Proofs.Ytihjmipmjogpoaa

/- The document's answer: field, fields, May of a value. -/
namespace Go.Proofs.Ytihjmipmjogpoaa
open Go.RowKit

theorem int_beq (r : Int) : (r == 0) = decide (r = 0) := by rw [Bool.eq_iff_iff]; simp

theorem toListE : (⟨#[]⟩ : ByteArray).toList = [] := by rw [ByteArray.toList_eq]

set_option maxRecDepth 100000 in
set_option maxHeartbeats 4000000 in
theorem field_any (k n : Int) (s : ByteArray) (A : Option Addr) (cap len : Nat) (r : Int) (w : World) (hk0 : 0 ≤ k) (hk1 : k < 256) :
    Calls Try.prog 134 #[.agg #[.int .u8 k, .int .i64 n, .string s, .slice A len cap, .int .i64 r]] w fun e w' => e = .returned (.bool (fok k n s len r)) ∧ Fr No w w' := by
  by_cases h0 : k = 0
  · subst h0
    go_enter Try.func134, Try.ntmps134
    go_wp2
    all_goals
      go_ret
      refine ⟨congrArg (fun b => Ending.returned (.bool b)) ?_, (Fr.refl No w).alloc _⟩
      (first | (simp [fok, len_beq, toListE, int_beq, *]; done) | (simp [fok, len_beq, toListE, int_beq, *]; omega) | (simp [fok, len_beq, toListE, int_beq, *]; intros; omega))
  · have k0 : (k == 0) = false := by simp; exact h0
    by_cases h1 : k = 1
    · subst h1
      go_enter Try.func134, Try.ntmps134
      go_wp2
      all_goals
        go_ret
        refine ⟨congrArg (fun b => Ending.returned (.bool b)) ?_, (Fr.refl No w).alloc _⟩
        (first | (simp [fok, len_beq, toListE, int_beq, *]; done) | (simp [fok, len_beq, toListE, int_beq, *]; omega) | (simp [fok, len_beq, toListE, int_beq, *]; intros; omega))
    · have k1 : (k == 1) = false := by simp; exact h1
      by_cases h2 : k = 2
      · subst h2
        by_cases hs : s.size ≤ 256
        · have hs' : (s.size : Int) ≤ 256 := by omega
          go_enter Try.func134, Try.ntmps134
          go_wp2
          all_goals
            go_ret
            refine ⟨congrArg (fun b => Ending.returned (.bool b)) ?_, (Fr.refl No w).alloc _⟩
            (first | (simp [fok, len_beq, toListE, int_beq, *]; done) | (simp [fok, len_beq, toListE, int_beq, *]; omega) | (simp [fok, len_beq, toListE, int_beq, *]; intros; omega))
        · have hs' : ¬ (s.size : Int) ≤ 256 := by omega
          go_enter Try.func134, Try.ntmps134
          go_wp2
          all_goals
            go_ret
            refine ⟨congrArg (fun b => Ending.returned (.bool b)) ?_, (Fr.refl No w).alloc _⟩
            (first | (simp [fok, len_beq, toListE, int_beq, *]; done) | (simp [fok, len_beq, toListE, int_beq, *]; omega) | (simp [fok, len_beq, toListE, int_beq, *]; intros; omega))
      · have k2 : (k == 2) = false := by simp; exact h2
        by_cases h3 : k = 3
        · subst h3
          go_enter Try.func134, Try.ntmps134
          go_wp2
          all_goals
            go_ret
            refine ⟨congrArg (fun b => Ending.returned (.bool b)) ?_, (Fr.refl No w).alloc _⟩
            (first | (simp [fok, len_beq, toListE, int_beq, *]; done) | (simp [fok, len_beq, toListE, int_beq, *]; omega) | (simp [fok, len_beq, toListE, int_beq, *]; intros; omega))
        · have k3 : (k == 3) = false := by simp; exact h3
          by_cases h4 : k = 4
          · subst h4
            by_cases hr : 1 ≤ r
            · go_enter Try.func134, Try.ntmps134
              go_wp2
              all_goals
                go_ret
                refine ⟨congrArg (fun b => Ending.returned (.bool b)) ?_, (Fr.refl No w).alloc _⟩
                (first | (simp [fok, len_beq, toListE, int_beq, *]; done) | (simp [fok, len_beq, toListE, int_beq, *]; omega) | (simp [fok, len_beq, toListE, int_beq, *]; intros; omega))
            · go_enter Try.func134, Try.ntmps134
              go_wp2
              all_goals
                go_ret
                refine ⟨congrArg (fun b => Ending.returned (.bool b)) ?_, (Fr.refl No w).alloc _⟩
                (first | (simp [fok, len_beq, toListE, int_beq, *]; done) | (simp [fok, len_beq, toListE, int_beq, *]; omega) | (simp [fok, len_beq, toListE, int_beq, *]; intros; omega))
          · have k4 : (k == 4) = false := by simp; exact h4
            go_enter Try.func134, Try.ntmps134
            go_wp2
            all_goals
              go_ret
              refine ⟨congrArg (fun b => Ending.returned (.bool b)) ?_, (Fr.refl No w).alloc _⟩
              (first | (simp [fok, len_beq, toListE, int_beq, *]; done) | (simp [fok, len_beq, toListE, int_beq, *]; omega) | (simp [fok, len_beq, toListE, int_beq, *]; intros; omega))

theorem take_all_ok {l : List V} {j : Nat} (h : ∀ i (hi : i < l.length), i < j → l[i].ok = true) (hj : j = l.length) : l.all V.ok = true := by
  rw [List.all_eq_true]
  intro x hx
  obtain ⟨i, hi, rfl⟩ := List.mem_iff_getElem.1 hx
  exact h i hi (by omega)

set_option maxRecDepth 100000 in
set_option maxHeartbeats 2000000 in
theorem fields_any (t : T) : ∀ (w : World) (lo hi : Nat), t.In w lo hi → hi ≤ w.heap.size → Calls Try.prog 87 #[t.val] w fun e w' => e = .returned (.bool t.v.ok) ∧ Fr No w w' := by
  induction t using T.ind with
  | h k n s A cap l r ih =>
    intro w lo hi ht hh
    rw [T.val_mk]
    have fit := (T.in_mk.1 ht).1
    have hlen := fit.len1
    have hk0 := fit.k0
    have hk1 := fit.k1
    have hF := fun w' => field_any k n s A cap l.length r w' hk0 hk1
    have fr1 := (Fr.refl No w).alloc (.cells #[.int .u8 k, .int .i64 n, .string s, .slice A l.length cap, .int .i64 r] 27)
    go_enter Try.func87, Try.ntmps87
    go_wp2_with fail
    go_loopw [3] (fun i wr => ∃ j : Nat, j ≤ l.length ∧ i = .int .i64 j ∧ (∀ i (hi : i < l.length), i < j → l[i].v.ok = true) ∧ Fr No (w.alloc (.cells #[.int .u8 k, .int .i64 n, .string s, .slice A l.length cap, .int .i64 r] 27)) wr) (fun i _ => l.length - (intOf i).toNat)
    case atStart =>
      exact ⟨0, Nat.zero_le _, rfl, fun i h hi => absurd hi (by omega), Fr.refl _ _⟩
    case round =>
      obtain ⟨j, hj, rfl, hall, fr⟩ := hrel
      have hK := (Blk.new' w 27 #[.int .u8 k, .int .i64 n, .string s, .slice A l.length cap, .int .i64 r] rfl).fr fr (fun h => h)
      obtain ⟨c0, c1, c2, c3, c4, cf⟩ := hK.cells5
      have frw := fr1.trans fr
      have hszr := hK.lt
      have HA := hide hall
      clear hall
      by_cases hlt : j < l.length
      · obtain ⟨b, o, k1, n1, s1, A1, cap1, l1, r1, rfl, hb0, hb1, hx, hin, e0, e1, e2, e3, e4⟩ := T.elem (ht.no frw hh) hlt
        have IH := ih l[j] (List.getElem_mem hlt)
        rw [hx, T.val_mk] at IH
        have g0 : b < wr.heap.size := by have := frw.size; omega
        have HX := hide hx
        have HF := hide fr
        have HW := hide frw
        clear hx ih fr frw fr1 hF
        go_wp2_with fail
        refine (IH wr lo hi hin (by have := HW.out.size; omega)).mono ?_
        rintro e w2 ⟨rfl, fr2⟩
        have HF2 := hide fr2
        clear fr2
        cases hq : (T.mk k1 n1 s1 A1 cap1 l1 r1).v.ok with
        | false =>
          go_wp2
          go_ret
          refine ⟨?_, HW.out.trans HF2.out⟩
          rw [T.v_mk, V.ok_mk]
          have hz : (l.map T.v).all V.ok = false := by
            rw [List.all_eq_false]
            exact ⟨l[j].v, List.mem_map_of_mem (List.getElem_mem hlt), by rw [HX.out, hq]; simp⟩
          rw [hz]; simp
        | true =>
          have HQ := hide hq
          clear hq
          go_wp2
          go_roundw
          case rel =>
            refine ⟨j + 1, hlt, by go_num, fun i hi hij => ?_, HF.out.trans HF2.out⟩
            rcases Nat.lt_or_ge i j with h | h
            · exact HA.out i hi h
            · obtain rfl : i = j := by omega
              rw [HX.out]; exact HQ.out
          case measure => simp [intOf]; omega
      · obtain rfl : l.length = j := by omega
        have HW := hide frw
        clear ih
        go_wp2_with fail
        refine (hF wr).mono ?_
        rintro e w2 ⟨rfl, fr2⟩
        go_wp2
        go_ret
        refine ⟨?_, HW.out.trans fr2⟩
        rw [T.v_mk, V.ok_mk, take_all_ok (j := l.length) (fun i hi hij => by rw [List.getElem_map]; exact HA.out i (by simpa using hi) hij) (by simp)]
        simp

set_option maxRecDepth 100000 in
set_option maxHeartbeats 2000000 in
theorem rmay_any (t : T) (w : World) (lo hi : Nat) (ht : t.In w lo hi) (hh : hi ≤ w.heap.size) :
    Calls Try.prog 21 #[t.val] w fun e w' => e = .returned (.bool t.v.may) ∧ Fr No w w' := by
  have hP := fun w' h h' => rparts_any t w' 0 lo hi h h' (by omega)
  have hD := fun w' h h' => rdeep_any t w' lo hi h h'
  have hO := fun w' h h' => fields_any t w' lo hi h h'
  cases t with
  | mk k n s A cap l r =>
    rw [T.val_mk] at *
    generalize hv : (T.mk k n s A cap l r).v = u at *
    have HV := hide hv
    clear hv
    have fr1 := (Fr.refl No w).alloc (.cells #[.int .u8 k, .int .i64 n, .string s, .slice A l.length cap, .int .i64 r] 27)
    have hK : Blk (w.alloc (.cells #[.int .u8 k, .int .i64 n, .string s, .slice A l.length cap, .int .i64 r] 27)) w.heap.size 27 _ := Blk.new _ _ _
    go_enter Try.func21, Try.ntmps21
    go_wp2_with fail
    generalize World.alloc w _ = W0 at *
    have hs0 := fr1.size
    refine (hP W0 (ht.no fr1 hh) (by omega)).mono ?_
    rintro e w2 ⟨z, rfl, hz, fr2⟩
    have hm := may_iff hz
    have h3 := hz.2.2.1
    have hz2 := hz.2.1
    have hK2 := hK.fr fr2 (fun h => h)
    have fr12 := fr1.trans fr2
    have ht2 := ht.no fr12 hh
    have hs2 := fr12.size
    clear hz hP hK fr1 fr2
    by_cases h5 : z ≤ 512
    · have h5' : (z : Int) ≤ 512 := by omega
      obtain ⟨-, hht⟩ := h3 h5
      obtain ⟨c0, c1, c2, c3, c4, cf⟩ := hK2.cells5
      have hlt := hK2.lt
      have HM := hide hm
      have HF := hide fr12
      have HK := hide hK2
      clear hm fr12 hK2 h3
      go_wp2_with fail
      refine (hD w2 ht2 (by omega) (by omega)).mono ?_
      rintro e w3 ⟨rfl, fr3⟩
      have hdep := dep_le_ht u
      obtain ⟨d0, d1, d2, d3, d4, df⟩ := (HK.out.fr fr3 (fun h => h)).cells5
      have hlt3 := (HK.out.fr fr3 (fun h => h)).lt
      have ht3 := ht2.no fr3 (by omega)
      have hs3 := fr3.size
      have HF3 := hide (HF.out.trans fr3)
      clear fr3 c0 c1 c2 c3 c4 cf
      by_cases h16 : u.dep ≤ 16
      · have h16' : (u.dep : Int) ≤ 16 := by omega
        go_wp2_with fail
        refine (hO w3 ht3 (by omega)).mono ?_
        rintro e w4 ⟨rfl, fr4⟩
        have e1 : u.may = u.ok := by rw [HM.out]; simp [h5, h16]
        have E1 := hide e1
        clear e1
        go_wp2
        go_ret
        exact ⟨by rw [E1.out]; rfl, HF3.out.trans fr4⟩
      · have h16' : ¬ (u.dep : Int) ≤ 16 := by omega
        have e1 : u.may = false := by rw [HM.out]; simp [h16]
        have E1 := hide e1
        clear e1
        go_wp2
        go_ret
        exact ⟨by rw [E1.out]; rfl, HF3.out⟩
    · have h5' : ¬ (z : Int) ≤ 512 := by omega
      have e1 : u.may = false := by rw [hm]; simp [h5]
      have E1 := hide e1
      have HF := hide fr12
      clear e1 hm fr12
      go_wp2
      go_ret
      exact ⟨by rw [E1.out]; rfl, HF.out⟩

end Go.Proofs.Ytihjmipmjogpoaa

/- The document's answer: shape, Compare, Keys of values; brand.Keys. -/
namespace Go.Proofs.Ytihjmipmjogpoaa
open Go.RowKit

/-- shape's own number. -/
def rshape (k : Int) (len : Nat) : Int := if k = 3 ∧ len ≠ 2 then 5 else k

theorem shape_any (k n : Int) (s : ByteArray) (A : Option Addr) (cap len : Nat) (r : Int) (w : World) (hk0 : 0 ≤ k) (hk1 : k < 256) (hl : len * 64 ≤ 140737488351232) :
    Calls Try.prog 88 #[.agg #[.int .u8 k, .int .i64 n, .string s, .slice A len cap, .int .i64 r]] w fun e w' => e = .returned (.int .i64 (rshape k len)) ∧ Fr No w w' := by
  have HF := hide ((Fr.refl No w).alloc (.cells #[.int .u8 k, .int .i64 n, .string s, .slice A len cap, .int .i64 r] 27))
  by_cases h3 : k = 3
  · subst h3
    by_cases h2 : len = 2
    · subst h2
      have e : rshape 3 2 = 3 := by simp [rshape]
      rw [e]
      go_enter Try.func88, Try.ntmps88
      go_wp2
      go_ret
      exact ⟨rfl, HF.out⟩
    · have e : rshape 3 len = 5 := by simp [rshape, h2]
      have h2' : ((len : Int) != 2) = true := by simp; omega
      rw [e]
      go_enter Try.func88, Try.ntmps88
      go_wp2
      go_ret
      exact ⟨rfl, HF.out⟩
  · have e : rshape k len = k := by simp [rshape, h3]
    have h3' : (k == 3) = false := by simpa using h3
    rw [e]
    go_enter Try.func88, Try.ntmps88
    go_wp2
    go_ret
    exact ⟨by go_num, HF.out⟩

/-- The two shapes part just alike, of those that may be. -/
theorem rshape_iff {k k' : Int} {len len' : Nat} (hk : k = 0 ∨ k = 1 ∨ k = 2 ∨ k = 3 ∨ k = 4) (hk' : k' = 0 ∨ k' = 1 ∨ k' = 2 ∨ k' = 3 ∨ k' = 4) : rshape k len = rshape k' len' ↔ shp k len = shp k' len' := by
  unfold rshape shp
  by_cases h2 : len = 2 <;> by_cases h2' : len' = 2 <;> rcases hk with rfl | rfl | rfl | rfl | rfl <;> rcases hk' with rfl | rfl | rfl | rfl | rfl <;> simp [h2, h2']

theorem pairCmp_row {ps : List (V → Nat)} {l : List V} (h : ps.length ≠ 2) : pairCmp ps l = 2 := by
  unfold pairCmp
  split
  · simp at h
  · rfl

theorem rshape5 {k : Int} {len : Nat} (hk : k = 0 ∨ k = 1 ∨ k = 2 ∨ k = 3 ∨ k = 4) (h : rshape k len = 5) : k = 3 ∧ len ≠ 2 := by
  unfold rshape at h; split at h
  · assumption
  · omega

theorem rshape3 {k : Int} {len : Nat} (h : rshape k len = 3) : k = 3 ∧ len = 2 := by
  unfold rshape at h; split at h
  · omega
  · rename_i h'; subst h; exact ⟨rfl, by omega⟩

theorem rshape_leaf {k : Int} {len : Nat} {z : Int} (h : rshape k len = z) (h5 : z ≠ 5) (h3 : z ≠ 3) : k ≠ 3 ∧ z = k := by
  unfold rshape at h; split at h
  · omega
  · exact ⟨by omega, h.symm⟩

theorem leaf_same {k n : Int} {s : ByteArray} {r n' : Int} {s' : ByteArray} {r' : Int} {u v : V} {l l' : List V} (hu : u = .mk k n s l r) (hv : v = .mk k n' s' l' r') (ho : u.ok = true) (ho' : v.ok = true) (hk : k ≠ 3) : leafEq k n s r n' s' r' = true ↔ u = v := by
  have hc : u.cmp v = if leafEq k n s r n' s' r' = true then 1 else 0 := by
    rw [hu, hv, V.cmp_mk, cmpOf]
    rw [hu, V.ok_mk, Bool.and_eq_true] at ho
    rw [hv, V.ok_mk, Bool.and_eq_true] at ho'
    have e1 := fok_len hk ho.1
    have e2 := fok_len hk ho'.1
    simp [shp, hk, e1, e2]
  constructor
  · intro h
    rw [if_pos h] at hc
    exact cmp_eq u v ho ho' hc
  · intro h
    rw [hu, hv] at h
    injection h with h1 h2 h3 h4 h5
    subst h2 h3 h5
    simp [leafEq]

set_option maxRecDepth 100000 in
set_option maxHeartbeats 4000000 in
theorem rcompare_any (t : T) : ∀ (t' : T) (w : World) (lo hi lo' hi' : Nat), t.In w lo hi → hi ≤ w.heap.size → t'.In w lo' hi' → hi' ≤ w.heap.size → t.v.ok = true → t'.v.ok = true →
    Calls Try.prog 22 #[t.val, t'.val] w fun e w' => e = .returned (.int .i64 ((t.v.cmp t'.v : Nat) : Int)) ∧ Fr No w w' := by
  induction t using T.ind with
  | h k n s A cap l r ih =>
    intro t' w lo hi lo' hi' ht hh ht' hh' hok hok'
    have hS := fun w' lo hi lo' hi' h1 h2 h3 h4 => same_any (T.mk k n s A cap l r) t' w' lo hi lo' hi' h1 h2 h3 h4
    cases t' with
    | mk k' n' s' A' cap' l' r' =>
      rw [T.val_mk, T.val_mk] at *
      have fit := (T.in_mk.1 ht).1
      have fit' := (T.in_mk.1 ht').1
      have hA := fun w' => shape_any k n s A cap l.length r w' fit.k0 fit.k1 fit.len1
      have hB := fun w' => shape_any k' n' s' A' cap' l'.length r' w' fit'.k0 fit'.k1 fit'.len1
      have hok1 := hok
      have hok1' := hok'
      rw [T.v_mk, V.ok_mk, Bool.and_eq_true] at hok1 hok1'
      have hkk := fok_kind hok1.1
      have hkk' := fok_kind hok1'.1
      have hsh := rshape_iff (len := (l.map T.v).length) (len' := (l'.map T.v).length) hkk hkk'
      simp only [List.length_map] at hsh
      have fr2 := ((Fr.refl No w).alloc (.cells #[.int .u8 k, .int .i64 n, .string s, .slice A l.length cap, .int .i64 r] 27)).alloc (.cells #[.int .u8 k', .int .i64 n', .string s', .slice A' l'.length cap', .int .i64 r'] 27)
      have hK := ((Blk.new' w 27 #[.int .u8 k, .int .i64 n, .string s, .slice A l.length cap, .int .i64 r] rfl).alloc (.cells #[.int .u8 k', .int .i64 n', .string s', .slice A' l'.length cap', .int .i64 r'] 27))
      have hV := (Blk.new' (w.alloc (.cells #[.int .u8 k, .int .i64 n, .string s, .slice A l.length cap, .int .i64 r] 27)) 27 #[.int .u8 k', .int .i64 n', .string s', .slice A' l'.length cap', .int .i64 r'] (g := w.heap.size + 1) (by simp))
      have hcmp : (T.mk k n s A cap l r).v.cmp (T.mk k' n' s' A' cap' l' r').v = (if shp k l.length = shp k' l'.length then
          (if k = 3 then pairCmp (l.map fun x => x.v.cmp) (l'.map T.v) else if leafEq k n s r n' s' r' = true then 1 else 0) else 0) := by
        rw [T.v_mk, T.v_mk, V.cmp_mk, cmpOf]
        simp only [List.length_map, List.map_map]
        rfl
      have hmax : rshape k l.length ≤ 255 ∧ 0 ≤ rshape k l.length := by
        unfold rshape; have := fit.k0; have := fit.k1; split <;> omega
      generalize hsa : rshape k l.length = sa at *
      generalize hsb : rshape k' l'.length = sb at *
      have HC := hide hcmp
      have HSH := hide hsh
      have HSA := hide hsa
      have HSB := hide hsb
      have HOK := hide hok1
      have HOK' := hide hok1'
      have HO := hide hok
      have HO' := hide hok'
      clear hcmp hsh hsa hsb hok1 hok1' hkk hkk' hok hok'
      go_enter Try.func22, Try.ntmps22
      go_wp2_with fail
      generalize World.alloc _ (.cells #[.int .u8 k', .int .i64 n', .string s', .slice A' l'.length cap', .int .i64 r'] 27) = W0 at *
      have ht0 := ht.no fr2 hh
      have ht0' := ht'.no fr2 hh'
      have hh0 : hi ≤ W0.heap.size := Nat.le_trans hh fr2.size
      have hh0' : hi' ≤ W0.heap.size := Nat.le_trans hh' fr2.size
      obtain ⟨c0, c1, c2, c3, c4, cf⟩ := hK.cells5
      obtain ⟨d0, d1, d2, d3, d4, df⟩ := hV.cells5
      have q0 := hK.lt
      have q1 := hV.lt
      have HF := hide fr2
      have HIH := hide ih
      clear fr2 ih ht ht' hh hh'
      go_region_held3 (fun w' => (∀ c i, c < W0.heap.size → w'.cell? ⟨c, i, none⟩ = W0.cell? ⟨c, i, none⟩) ∧ Fr No W0 w')
        (first | exact ⟨fun _ _ _ => rfl, Fr.drew (Fr.refl No W0)⟩ | (have hq : Fr No W0 _ := (‹_ ∧ Fr No W0 _›).2.trans ‹Fr No _ _›; exact ⟨hq.cells, hq⟩))
        (first
          | (go_at_call 88; (with_reducible refine (hA _).mono ?_); rintro e wa ⟨rfl, fra⟩)
          | (go_at_call 88; (with_reducible refine (hB _).mono ?_); rintro e wb ⟨rfl, frb⟩))
      all_goals
        first
          | (have hfr : Fr No W0 wb := (‹_ ∧ Fr No W0 _›).2; clear fra frb; rename (_ ∧ Fr No W0 wb) => hheld; clear hheld; generalize wb = w3 at *; clear wa)
          | (have hfr : Fr No W0 wa := (‹_ ∧ Fr No W0 _›).2; clear fra frb; rename (_ ∧ Fr No W0 wa) => hheld; clear hheld; generalize wa = w3 at *; clear wb)
        have hK3 := hK.fr hfr (fun h => h)
        have hV3 := hV.fr hfr (fun h => h)
        have ht3 := ht0.no hfr hh0
        have ht3' := ht0'.no hfr hh0'
        have hh3 := Nat.le_trans hh0 hfr.size
        have hh3' := Nat.le_trans hh0' hfr.size
        have HFR := hide (HF.out.trans hfr)
        clear c0 c1 c2 c3 c4 cf d0 d1 d2 d3 d4 df hK hV ht0 ht0' hh0 hh0' q0 q1 hfr
        obtain ⟨c0, c1, c2, c3, c4, cf⟩ := hK3.cells5
        obtain ⟨d0, d1, d2, d3, d4, df⟩ := hV3.cells5
        have q0 := hK3.lt
        have q1 := hV3.lt
        by_cases hne : sa = sb
        case neg =>
          have hne' : (sa != sb) = true := by simpa using hne
          go_wp2
          go_ret
          refine ⟨?_, HFR.out⟩
          rw [HC.out, if_neg (fun h => hne (HSH.out.2 h))]; rfl
        have hsame := HSH.out.1 hne
        have HC2 := HC.out
        rw [if_pos hsame] at HC2
        have HC3 := hide HC2
        have HSM := hide hsame
        have hne' : (sa != sb) = false := by simpa using hne
        have HSAB := hide hne
        clear HC HSH HC2 hsame hne
        by_cases h5 : sa = 5
        · obtain ⟨hk3, hl2⟩ := rshape5 (fok_kind HOK.out.1) (by simpa using HSA.out.trans h5)
          have e2 : (T.mk k n s A cap l r).v.cmp (T.mk k' n' s' A' cap' l' r').v = 2 := by
            rw [HC3.out, if_pos hk3, pairCmp_row (by simpa using hl2)]
          have HE2 := hide e2
          have hs5 : (sa == 5) = true := by simpa using h5
          clear hk3 hl2 h5 e2
          go_wp2_with fail
          refine (hA w3).mono ?_
          rintro e w4 ⟨rfl, fr4⟩
          go_wp2
          go_ret
          exact ⟨by rw [HE2.out]; rfl, HFR.out.trans fr4⟩
        · have hs5 : (sa == 5) = false := by simpa using h5
          go_wp2_with fail
          refine (hA w3).mono ?_
          rintro e w4 ⟨rfl, fr4⟩
          obtain ⟨x0, x1, x2, x3, x4, xf⟩ := (hK3.fr fr4 (fun h => h)).cells5
          have qx := (hK3.fr fr4 (fun h => h)).lt
          go_wp2_with fail
          refine (hA w4).mono ?_
          rintro e w5 ⟨rfl, fr5⟩
          have fr45 := fr4.trans fr5
          have hK5 := hK3.fr fr45 (fun h => h)
          have hV5 := hV3.fr fr45 (fun h => h)
          have ht5 := ht3.no fr45 hh3
          have ht5' := ht3'.no fr45 hh3'
          have hh5 := Nat.le_trans hh3 fr45.size
          have hh5' := Nat.le_trans hh3' fr45.size
          have HF5 := hide (HFR.out.trans fr45)
          clear c0 c1 c2 c3 c4 cf d0 d1 d2 d3 d4 df x0 x1 x2 x3 x4 xf qx q0 q1 fr4 fr5 fr45 hK3 hV3 ht3 ht3' hh3 hh3'
          obtain ⟨c0, c1, c2, c3, c4, cf⟩ := hK5.cells5
          obtain ⟨d0, d1, d2, d3, d4, df⟩ := hV5.cells5
          have q0 := hK5.lt
          have q1 := hV5.lt
          by_cases h3 : sa = 3
          · obtain ⟨hk3, hl2⟩ := rshape3 (HSA.out.trans h3)
            obtain ⟨hk3', hl2'⟩ := rshape3 ((HSB.out.trans HSAB.out.symm).trans h3)
            have hs3 : (sa == 3) = true := by simpa using h3
            subst hk3
            subst hk3'
            obtain ⟨x1, x2, rfl⟩ := at2 hl2
            obtain ⟨y1, y2, rfl⟩ := at2 hl2'
            obtain ⟨b, o, k1, n1, s1, A1, cap1, l1, r1, rfl, hb0, hb1, rfl, hin, e0, e1, e2, e3, e4⟩ := T.elem ht5 (j := 0) (by simp)
            obtain ⟨b2, o2, k2, n2, s2, A2, cap2, l2, r2, hbb, hb20, hb21, rfl, hin2, f0, f1, f2, f3, f4⟩ := T.elem ht5 (j := 1) (by simp)
            obtain ⟨b', o', k1', n1', s1', A1', cap1', l1', r1', rfl, hb0', hb1', rfl, hin', e0', e1', e2', e3', e4'⟩ := T.elem ht5' (j := 0) (by simp)
            obtain ⟨b2', o2', k2', n2', s2', A2', cap2', l2', r2', hbb', hb20', hb21', rfl, hin2', f0', f1', f2', f3', f4'⟩ := T.elem ht5' (j := 1) (by simp)
            simp only [Option.some.injEq, Addr.mk.injEq, and_true] at hbb hbb'
            obtain ⟨rfl, rfl⟩ := hbb
            obtain ⟨rfl, rfl⟩ := hbb'
            simp only [Nat.zero_mul, Nat.add_zero, Nat.one_mul] at e0 e1 e2 e3 e4 f0 f1 f2 f3 f4 e0' e1' e2' e3' e4' f0' f1' f2' f3' f4'
            have hoka : (T.mk k1 n1 s1 A1 cap1 l1 r1).v.ok = true ∧ (T.mk k2 n2 s2 A2 cap2 l2 r2).v.ok = true := by simpa using HOK.out.2
            have hokb : (T.mk k1' n1' s1' A1' cap1' l1' r1').v.ok = true ∧ (T.mk k2' n2' s2' A2' cap2' l2' r2').v.ok = true := by simpa using HOK'.out.2
            have IH1 := fun w' h1 h2 h3 h4 => HIH.out (T.mk k1 n1 s1 A1 cap1 l1 r1) (by simp) (T.mk k1' n1' s1' A1' cap1' l1' r1') w' lo hi lo' hi' h1 h2 h3 h4 hoka.1 hokb.1
            have IH2 := fun w' h1 h2 h3 h4 => HIH.out (T.mk k2 n2 s2 A2 cap2 l2 r2) (by simp) (T.mk k2' n2' s2' A2' cap2' l2' r2') w' lo hi lo' hi' h1 h2 h3 h4 hoka.2 hokb.2
            have HC4 : (T.mk 3 n s (some ⟨b, o, none⟩) cap [T.mk k1 n1 s1 A1 cap1 l1 r1, T.mk k2 n2 s2 A2 cap2 l2 r2] r).v.cmp (T.mk 3 n' s' (some ⟨b', o', none⟩) cap' [T.mk k1' n1' s1' A1' cap1' l1' r1', T.mk k2' n2' s2' A2' cap2' l2' r2'] r').v =
                if (T.mk k1 n1 s1 A1 cap1 l1 r1).v.cmp (T.mk k1' n1' s1' A1' cap1' l1' r1').v = 1 then (T.mk k2 n2 s2 A2 cap2 l2 r2).v.cmp (T.mk k2' n2' s2' A2' cap2' l2' r2').v else (T.mk k1 n1 s1 A1 cap1 l1 r1).v.cmp (T.mk k1' n1' s1' A1' cap1' l1' r1').v := by
              rw [HC3.out, if_pos rfl]; rfl
            rw [T.val_mk, T.val_mk] at IH1 IH2
            generalize hz1 : (T.mk k1 n1 s1 A1 cap1 l1 r1).v.cmp (T.mk k1' n1' s1' A1' cap1' l1' r1').v = z1 at *
            generalize hz2 : (T.mk k2 n2 s2 A2 cap2 l2 r2).v.cmp (T.mk k2' n2' s2' A2' cap2' l2' r2').v = z2 at *
            have H4 := hide HC4
            have g0 : b < w5.heap.size := by omega
            have g1 : b' < w5.heap.size := by omega
            have HZ1 := hide hz1
            have HZ2 := hide hz2
            have HKK := hide hK5
            have HVV := hide hV5
            clear HC4 hz1 hz2 hoka hokb h3 hl2 hl2' HC3 HO HO' HSA HSB HSM HOK HOK' hS hK5 hV5 ht5 ht5' HIH
            go_wp2_with fail
            go_region_held3 (fun w' => (∀ c i, c < w5.heap.size → w'.cell? ⟨c, i, none⟩ = w5.cell? ⟨c, i, none⟩) ∧ Fr No w5 w')
              (first | exact ⟨fun _ _ _ => rfl, Fr.drew (Fr.refl No w5)⟩ | (have hq : Fr No w5 _ := (‹_ ∧ Fr No w5 _›).2.trans ‹Fr No _ _›; exact ⟨hq.cells, hq⟩))
              (first
                | (go_at_call 22; have hs0 := (‹_ ∧ Fr No w5 _›).2; ((with_reducible refine (IH1 _ ?_ ?_ ?_ ?_).mono ?_); (exact hin.no hs0 hh5); (exact Nat.le_trans hh5 hs0.size); (exact hin'.no hs0 hh5'); (exact Nat.le_trans hh5' hs0.size); rintro e w6 ⟨rfl, fr6⟩)))
            have hfr6 : Fr No w5 w6 := (‹_ ∧ Fr No w5 _›).2
            rename (_ ∧ Fr No w5 w6) => hheld
            clear hheld fr6
            by_cases hz : z1 = 1
            case neg =>
              have hzn : ((z1 : Int) != 1) = true := by simp; omega
              have e5 : (T.mk 3 n s (some ⟨b, o, none⟩) cap [T.mk k1 n1 s1 A1 cap1 l1 r1, T.mk k2 n2 s2 A2 cap2 l2 r2] r).v.cmp (T.mk 3 n' s' (some ⟨b', o', none⟩) cap' [T.mk k1' n1' s1' A1' cap1' l1' r1', T.mk k2' n2' s2' A2' cap2' l2' r2'] r').v = z1 := by
                rw [H4.out, if_neg hz]
              have E5 := hide e5
              clear e5
              go_wp2
              go_ret
              exact ⟨by rw [E5.out]; rfl, HF5.out.trans hfr6⟩
            have e5 : (T.mk 3 n s (some ⟨b, o, none⟩) cap [T.mk k1 n1 s1 A1 cap1 l1 r1, T.mk k2 n2 s2 A2 cap2 l2 r2] r).v.cmp (T.mk 3 n' s' (some ⟨b', o', none⟩) cap' [T.mk k1' n1' s1' A1' cap1' l1' r1', T.mk k2' n2' s2' A2' cap2' l2' r2'] r').v = z2 := by
              rw [H4.out, if_pos hz]
            have E5 := hide e5
            subst hz
            have HF6 := hide (HF5.out.trans hfr6)
            have hin6 := hin2.no hfr6 hh5
            have hin6' := hin2'.no hfr6 hh5'
            have hh6 := Nat.le_trans hh5 hfr6.size
            have hh6' := Nat.le_trans hh5' hfr6.size
            rw [← hfr6.cells _ _ g0] at e0 e1 e2 e3 e4 f0 f1 f2 f3 f4
            rw [← hfr6.cells _ _ g1] at e0' e1' e2' e3' e4' f0' f1' f2' f3' f4'
            have g2 : b < w6.heap.size := by omega
            have g3 : b' < w6.heap.size := by omega
            have hK6 := HKK.out.fr hfr6 (fun h => h)
            have hV6 := HVV.out.fr hfr6 (fun h => h)
            clear c0 c1 c2 c3 c4 cf d0 d1 d2 d3 d4 df q0 q1 e5 hfr6 g0 g1
            obtain ⟨c0, c1, c2, c3, c4, cf⟩ := hK6.cells5
            obtain ⟨d0, d1, d2, d3, d4, df⟩ := hV6.cells5
            have q0 := hK6.lt
            have q1 := hV6.lt
            clear hK6 hV6
            go_wp2_with fail
            go_region_held3 (fun w' => (∀ c i, c < w6.heap.size → w'.cell? ⟨c, i, none⟩ = w6.cell? ⟨c, i, none⟩) ∧ Fr No w6 w')
              (first | exact ⟨fun _ _ _ => rfl, Fr.drew (Fr.refl No w6)⟩ | (have hq : Fr No w6 _ := (‹_ ∧ Fr No w6 _›).2.trans ‹Fr No _ _›; exact ⟨hq.cells, hq⟩))
              (first
                | (go_at_call 22; have hs0 := (‹_ ∧ Fr No w6 _›).2; ((with_reducible refine (IH2 _ ?_ ?_ ?_ ?_).mono ?_); (exact hin6.no hs0 hh6); (exact Nat.le_trans hh6 hs0.size); (exact hin6'.no hs0 hh6'); (exact Nat.le_trans hh6' hs0.size); rintro e w7 ⟨rfl, fr7⟩)))
            go_wp2
            go_ret
            exact ⟨by rw [E5.out]; rfl, HF6.out.trans (‹_ ∧ Fr No w6 _›).2⟩
          · have hs3 : (sa == 3) = false := by simpa using h3
            obtain ⟨hk3, hka⟩ := rshape_leaf HSA.out h5 h3
            obtain ⟨-, hkb⟩ := rshape_leaf (HSB.out.trans HSAB.out.symm) h5 h3
            obtain rfl : k = k' := hka.symm.trans hkb
            have hls := leaf_same (T.v_mk k n s A cap l r) (T.v_mk k n' s' A' cap' l' r') HO.out HO'.out hk3
            have HLS := hide hls
            have HK3 := hide hk3
            clear hls hk3 hka hkb h3 h5
            go_wp2_with fail
            refine (hS w5 lo hi lo' hi' ht5 hh5 ht5' hh5').mono ?_
            rintro e w6 ⟨q, rfl, hq, fr6⟩
            cases q with
            | false =>
              have e2 : (T.mk k n s A cap l r).v.cmp (T.mk k n' s' A' cap' l' r').v = 0 := by
                rw [HC3.out, if_neg HK3.out, if_neg (fun h => absurd (hq.2 (HLS.out.1 h)) (by simp))]
              have HE2 := hide e2
              clear e2 hq
              go_wp2
              go_ret
              exact ⟨by rw [HE2.out]; rfl, HF5.out.trans fr6⟩
            | true =>
              have e2 : (T.mk k n s A cap l r).v.cmp (T.mk k n' s' A' cap' l' r').v = 1 := by
                rw [HC3.out, if_neg HK3.out, if_pos (HLS.out.2 (hq.1 rfl))]
              have HE2 := hide e2
              clear e2 hq
              go_wp2
              go_ret
              exact ⟨by rw [HE2.out]; rfl, HF5.out.trans fr6⟩

end Go.Proofs.Ytihjmipmjogpoaa

/- Keys: the document's answer; brand's. -/
namespace Go.Proofs.Ytihjmipmjogpoaa
open Go.RowKit

set_option maxRecDepth 100000 in
set_option maxHeartbeats 2000000 in
theorem rkeys_any (t : T) : ∀ (w : World) (lo hi : Nat), t.In w lo hi → hi ≤ w.heap.size → t.v.ok = true → Calls Try.prog 24 #[t.val] w fun e w' => e = .returned (.bool t.v.keys) ∧ Fr No w w' := by
  induction t using T.ind with
  | h k n s A cap l r ih =>
    intro w lo hi ht hh hok
    rw [T.val_mk]
    have fit := (T.in_mk.1 ht).1
    have hlen := fit.len1
    have hA := fun w' => shape_any k n s A cap l.length r w' fit.k0 fit.k1 fit.len1
    have hok1 := hok
    rw [T.v_mk, V.ok_mk, Bool.and_eq_true] at hok1
    have hkk := fok_kind hok1.1
    have hkeys : (T.mk k n s A cap l r).v.keys = if k = 3 then decide (l.length = 2) && (l.map T.v).all V.keys else true := by
      rw [T.v_mk, V.keys_mk, List.length_map]
    have fr1 := (Fr.refl No w).alloc (.cells #[.int .u8 k, .int .i64 n, .string s, .slice A l.length cap, .int .i64 r] 27)
    have hK0 := (Blk.new' w 27 #[.int .u8 k, .int .i64 n, .string s, .slice A l.length cap, .int .i64 r] rfl)
    have hmax : rshape k l.length ≤ 255 ∧ 0 ≤ rshape k l.length := by
      unfold rshape; have := fit.k0; have := fit.k1; split <;> omega
    generalize hsa : rshape k l.length = sa at *
    have HOK := hide hok1
    have HKE := hide hkeys
    have HSA := hide hsa
    clear hok hok1 hkeys hsa
    go_enter Try.func24, Try.ntmps24
    go_wp2_with fail
    generalize hW0 : World.alloc w _ = W0 at *
    clear hW0
    refine (hA W0).mono ?_
    rintro e w1 ⟨rfl, frs⟩
    have hK1 := hK0.fr frs (fun h => h)
    have frw1 := fr1.trans frs
    clear fr1 frs hK0
    obtain ⟨c0, c1, c2, c3, c4, cf⟩ := hK1.cells5
    have q0 := hK1.lt
    by_cases h5 : sa = 5
    · have h5' : (sa == 5) = true := by simpa using h5
      obtain ⟨hk3, hl2⟩ := rshape5 hkk (HSA.out.trans h5)
      have e1 : (T.mk k n s A cap l r).v.keys = false := by rw [HKE.out, if_pos hk3]; simp [hl2]
      have E1 := hide e1
      clear e1 hk3 hl2 h5 ih
      go_wp2
      go_ret
      exact ⟨by rw [E1.out]; rfl, frw1⟩
    · have h5' : (sa == 5) = false := by simpa using h5
      have hkeys : (T.mk k n s A cap l r).v.keys = (l.map T.v).all V.keys := by
        rw [HKE.out]
        by_cases hk3 : k = 3
        · have : l.length = 2 := by
            have h := HSA.out
            unfold rshape at h
            split at h
            · exact absurd h.symm h5
            · omega
          rw [if_pos hk3, this]; simp
        · rw [if_neg hk3]
          have := fok_len hk3 HOK.out.1
          simp only [List.length_map] at this
          rw [List.eq_nil_of_length_eq_zero this]; rfl
      have HKY := hide hkeys
      clear hkeys h5
      go_wp2_with fail
      go_loopw [3] (fun i wr => ∃ j : Nat, j ≤ l.length ∧ i = .int .i64 j ∧ (∀ i (hi : i < l.length), i < j → l[i].v.keys = true) ∧ Fr No w1 wr) (fun i _ => l.length - (intOf i).toNat)
      case atStart =>
        exact ⟨0, Nat.zero_le _, rfl, fun i h hi => absurd hi (by omega), Fr.refl _ _⟩
      case round =>
        obtain ⟨j, hj, rfl, hall, fr⟩ := hrel
        have hK := hK1.fr fr (fun h => h)
        clear c0 c1 c2 c3 c4 cf q0
        obtain ⟨c0, c1, c2, c3, c4, cf⟩ := hK.cells5
        have frw := frw1.trans fr
        have hszr := hK.lt
        have HA := hide hall
        clear hall
        by_cases hlt : j < l.length
        · obtain ⟨b, o, k1, n1, s1, A1, cap1, l1, r1, rfl, hb0, hb1, hx, hin, e0, e1, e2, e3, e4⟩ := T.elem (ht.no frw hh) hlt
          have hokx : l[j].v.ok = true := List.all_eq_true.1 HOK.out.2 _ (List.mem_map_of_mem (List.getElem_mem hlt))
          have IH := ih l[j] (List.getElem_mem hlt)
          rw [hx] at hokx
          rw [hx, T.val_mk] at IH
          have g0 : b < wr.heap.size := by have := frw.size; omega
          have HX := hide hx
          have HF := hide fr
          have HW := hide frw
          clear hx ih fr frw frw1
          go_wp2_with fail
          refine (IH wr lo hi hin (by have := HW.out.size; omega) hokx).mono ?_
          rintro e w2 ⟨rfl, fr2⟩
          have HF2 := hide fr2
          clear fr2
          cases hq : (T.mk k1 n1 s1 A1 cap1 l1 r1).v.keys with
          | false =>
            have e1 : (T.mk k n s (some ⟨b, o, none⟩) cap l r).v.keys = false := by
              rw [HKY.out, List.all_eq_false]
              exact ⟨l[j].v, List.mem_map_of_mem (List.getElem_mem hlt), by rw [HX.out, hq]; simp⟩
            have E1 := hide e1
            clear e1
            go_wp2
            go_ret
            exact ⟨by rw [E1.out]; rfl, HW.out.trans HF2.out⟩
          | true =>
            have HQ := hide hq
            clear hq
            go_wp2
            go_roundw
            case rel =>
              refine ⟨j + 1, hlt, by go_num, fun i hi hij => ?_, HF.out.trans HF2.out⟩
              rcases Nat.lt_or_ge i j with h | h
              · exact HA.out i hi h
              · obtain rfl : i = j := by omega
                rw [HX.out]; exact HQ.out
            case measure => simp [intOf]; omega
        · obtain rfl : l.length = j := by omega
          have e1 : (T.mk k n s A cap l r).v.keys = true := by
            rw [HKY.out, List.all_eq_true]
            intro x hx
            obtain ⟨y, hy, rfl⟩ := List.mem_map.1 hx
            obtain ⟨i, hi, rfl⟩ := List.mem_iff_getElem.1 hy
            exact HA.out i hi hi
          have E1 := hide e1
          have HW := hide frw
          clear e1 ih
          go_wp2
          go_ret
          exact ⟨by rw [E1.out]; rfl, HW.out⟩

set_option maxRecDepth 100000 in
set_option maxHeartbeats 2000000 in
theorem bkeys_any (t : T) (w : World) (lo hi : Nat) (ht : t.In w lo hi) (hh : hi ≤ w.heap.size) :
    Calls Try.prog 23 #[t.val] w fun e w' => e = .returned (.tuple #[.bool (t.v.may && t.v.keys), .int .i64 (if t.v.may = true then 0 else 2)]) ∧ Fr No w w' := by
  have hO := fun w' h h' => Of_any t w' lo hi h h'
  cases t with
  | mk k n s A cap l r =>
    rw [T.val_mk] at *
    generalize hv : (T.mk k n s A cap l r).v = u at *
    have fr1 := (Fr.refl No w).alloc (.cells #[.int .u8 k, .int .i64 n, .string s, .slice A l.length cap, .int .i64 r] 27)
    cases hm : u.may with
    | false =>
      go_enter Try.func23, Try.ntmps23
      go_wp2_with fail
      refine (hO _ (ht.no fr1 hh) (by simp; omega)).mono ?_
      rintro e w2 ⟨-, h⟩
      obtain ⟨rfl, fr2⟩ := h hm
      go_wp2
      refine bodyPost_ret (v := .tuple #[.bool false, .int .i64 2]) (by simp [results, Try.results23, go_sem, *]) rfl ?_
      exact ⟨rfl, fr1.trans fr2⟩
    | true =>
      have hd := may_dep hm
      have HM := hide hm
      go_enter Try.func23, Try.ntmps23
      go_wp2_with fail
      refine (hO _ (ht.no fr1 hh) (by simp; omega)).mono ?_
      rintro e w2 ⟨h, -⟩
      obtain ⟨m, rfl, hmk, fr2⟩ := h HM.out
      obtain ⟨ty, y, rfl⟩ := hmk.iface
      clear h hm
      go_wp2_with fail
      refine (key_any u ty y hmk hd w2).mono ?_
      rintro e w3 ⟨rfl, fr3⟩
      go_wp2
      refine bodyPost_ret (v := .tuple #[.bool u.keys, .int .i64 0]) (by simp [results, Try.results23, go_sem, *]) rfl ?_
      exact ⟨by simp, (fr1.trans fr2).trans fr3⟩

end Go.Proofs.Ytihjmipmjogpoaa

/- BrandTables: the law's wrong: the error of a key, and of a value. -/
namespace Go.Proofs.Ytihjmipmjogpoaa
open Go.RowKit

set_option maxRecDepth 100000 in
set_option maxHeartbeats 4000000 in
theorem wrong_any (a b : T) (w : World) (lo hi lo' hi' : Nat) (ha : a.In w lo hi) (hh : hi ≤ w.heap.size) (hb : b.In w lo' hi') (hh' : hi' ≤ w.heap.size) :
    Calls Try.prog 95 #[a.val, b.val] w fun e w' => e = .returned (.int .i64 (putErr a.v b.v)) ∧ Fr No w w' := by
  have hA := fun w' (f : Fr No w w') => rmay_any a w' lo hi (ha.no f hh) (Nat.le_trans hh f.size)
  have hB := fun w' (f : Fr No w w') => rmay_any b w' lo' hi' (hb.no f hh') (Nat.le_trans hh' f.size)
  have hK := fun w' (f : Fr No w w') (h : a.v.may = true) => rkeys_any a w' lo hi (ha.no f hh) (Nat.le_trans hh f.size) (may_ok h)
  obtain ⟨k, n, s, A, cap, l, r⟩ := a
  obtain ⟨k', n', s', A', cap', l', r'⟩ := b
  rw [T.val_mk] at *
  rw [T.val_mk] at *
  generalize hu : (T.mk k n s A cap l r).v = u at *
  generalize hv : (T.mk k' n' s' A' cap' l' r').v = v at *
  have f1 := ((Fr.refl No w).alloc (.cells #[.int .u8 k, .int .i64 n, .string s, .slice A l.length cap, .int .i64 r] 27)).alloc (.cells #[.int .u8 k', .int .i64 n', .string s', .slice A' l'.length cap', .int .i64 r'] 27)
  have ba : Blk ((w.alloc (.cells #[.int .u8 k, .int .i64 n, .string s, .slice A l.length cap, .int .i64 r] 27)).alloc (.cells #[.int .u8 k', .int .i64 n', .string s', .slice A' l'.length cap', .int .i64 r'] 27)) w.heap.size 27 #[.int .u8 k, .int .i64 n, .string s, .slice A l.length cap, .int .i64 r] := (Blk.new' w 27 _ rfl).alloc _
  have bb : Blk ((w.alloc (.cells #[.int .u8 k, .int .i64 n, .string s, .slice A l.length cap, .int .i64 r] 27)).alloc (.cells #[.int .u8 k', .int .i64 n', .string s', .slice A' l'.length cap', .int .i64 r'] 27)) (w.heap.size + 1) 27 #[.int .u8 k', .int .i64 n', .string s', .slice A' l'.length cap', .int .i64 r'] := Blk.new' (w.alloc _) 27 _ (by simp)
  have HA := hide hA
  have HB := hide hB
  have HK := hide hK
  have HF1 := hide f1
  have HBA := hide ba
  have HBB := hide bb
  have HP : Hid (∀ q, putErr u v = q → putErr u v = q) := hide fun _ h => h
  clear hA hB hK f1 ba bb ha hb hu hv
  go_enter Try.func95, Try.ntmps95
  go_wp2_with fail
  generalize World.alloc (World.alloc w _) _ = w1 at *
  refine (HA.out w1 HF1.out).mono ?_
  rintro e w2 ⟨rfl, f2⟩
  have F2 := hide (HF1.out.trans f2)
  have ba2 := HBA.out.fr f2 (fun h => h)
  have bb2 := HBB.out.fr f2 (fun h => h)
  obtain ⟨x0, x1, x2, x3, x4, xf⟩ := ba2.cells5
  obtain ⟨y0, y1, y2, y3, y4, yf⟩ := bb2.cells5
  have xl := ba2.lt
  have yl := bb2.lt
  have HBA2 := hide ba2
  clear f2 ba2 bb2 HBA HBB
  cases hm : u.may with
  | false =>
    have hp : putErr u v = 2 := by simp [putErr, hm]
    have HPE := hide hp
    clear hm hp
    go_wp2_with fail
    go_ret
    exact ⟨by rw [HPE.out]; rfl, F2.out⟩
  | true =>
    have HM := hide hm
    clear hm
    go_wp2_with fail
    refine (HB.out w2 F2.out).mono ?_
    rintro e w3 ⟨rfl, f3⟩
    have F3 := hide (F2.out.trans f3)
    have ba3 := HBA2.out.fr f3 (fun h => h)
    clear x0 x1 x2 x3 x4 xf xl y0 y1 y2 y3 y4 yf yl
    obtain ⟨x0, x1, x2, x3, x4, xf⟩ := ba3.cells5
    have xl := ba3.lt
    clear f3 ba3
    cases hm2 : v.may with
    | false =>
      have hp : putErr u v = 2 := by simp [putErr, hm2]
      have HPE := hide hp
      clear hm2 hp
      go_wp2_with fail
      go_ret
      exact ⟨by rw [HPE.out]; rfl, F3.out⟩
    | true =>
      have HM2 := hide hm2
      clear hm2
      go_wp2_with fail
      refine (HK.out w3 F3.out HM.out).mono ?_
      rintro e w4 ⟨rfl, f4⟩
      have F4 := hide (F3.out.trans f4)
      clear f4
      cases hk : u.keys with
      | false =>
        have hp : putErr u v = 40 := by simp [putErr, HM.out, HM2.out, hk]
        have HPE := hide hp
        clear hk hp
        go_wp2_with fail
        go_ret
        exact ⟨by rw [HPE.out]; rfl, F4.out⟩
      | true =>
        have hp : putErr u v = 0 := by simp [putErr, HM.out, HM2.out, hk]
        have HPE := hide hp
        clear hk hp
        go_wp2_with fail
        go_ret
        exact ⟨by rw [HPE.out]; rfl, F4.out⟩

end Go.Proofs.Ytihjmipmjogpoaa

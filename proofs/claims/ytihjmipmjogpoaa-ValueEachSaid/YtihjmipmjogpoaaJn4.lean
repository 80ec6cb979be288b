/- Texts joined: E7, E8, H3, P1. -/
import Derived.Test.YtihjmipmjogpoaaJn3
import Derived.Deep.RegionHeld3
import Derived.Deep.RegionLawGrows
import Derived.Deep.AppendLies
/- Chapter 2: the walk of a value's parts, whatever is done with each. -/
namespace Go.Proofs.Ytihjmipmjogpoaa
open Go.RowKit

def walkL : List (List Int → List (List Int × V)) → Nat → List Int → List (List Int × V)
  | [], _, _ => []
  | f :: fs, i, pl => f (pl ++ [(i : Int)]) ++ walkL fs (i + 1) pl

/-- The parts of a value that stands at a place, in the order of the walk. -/
def V.walk : V → List Int → List (List Int × V)
  | .mk k n s l r => fun pl => (pl, .mk k n s l r) :: walkL (l.map V.walk) 0 pl
termination_by v => v

theorem V.walk_mk (k n : Int) (s : ByteArray) (l : List V) (r : Int) (pl : List Int) : (V.mk k n s l r).walk pl = (pl, .mk k n s l r) :: walkL (l.map V.walk) 0 pl := by rw [V.walk]

theorem walkL_append (fs gs : List (List Int → List (List Int × V))) (i : Nat) (pl : List Int) : walkL (fs ++ gs) i pl = walkL fs i pl ++ walkL gs (i + fs.length) pl := by
  induction fs generalizing i with
  | nil => simp [walkL]
  | cons f fs ih => simp only [List.cons_append, walkL, ih, List.append_assoc, List.length_cons]; rw [show i + 1 + fs.length = i + (fs.length + 1) by omega]

theorem walkL_take (fs : List (List Int → List (List Int × V))) (pl : List Int) {j : Nat} (h : j < fs.length) : walkL (fs.take (j + 1)) 0 pl = walkL (fs.take j) 0 pl ++ fs[j] (pl ++ [(j : Int)]) := by
  rw [List.take_succ_eq_append_getElem h, walkL_append]
  simp [walkL, List.length_take, Nat.min_eq_left (Nat.le_of_lt h)]

theorem walkL_prefix (fs : List (List Int → List (List Int × V))) (pl : List Int) (j : Nat) : walkL (fs.take j) 0 pl <+: walkL fs 0 pl := by
  refine ⟨walkL (fs.drop j) (0 + (fs.take j).length) pl, ?_⟩
  rw [← walkL_append, List.take_append_drop]

theorem walkL_length (L : List V) : ∀ (i : Nat) (pl : List Int), (∀ v ∈ L, ∀ p, (v.walk p).length = v.size) → (walkL (L.map V.walk) i pl).length = (L.map V.size).sum := by
  induction L with
  | nil => intro i pl _; rfl
  | cons v L ih =>
    intro i pl h
    simp only [List.map_cons, walkL, List.length_append, List.sum_cons]
    rw [h v (by simp), ih (i + 1) pl fun u hu => h u (by simp [hu])]

theorem walk_length (v : V) : ∀ p, (v.walk p).length = v.size := by
  induction v using V.ind with
  | h k n s l r ih =>
    intro p
    rw [V.walk_mk, V.size_mk, List.length_cons, walkL_length l 0 p ih]
    omega

/-- What is done with each part: J holds between two parts, Jx where no more is wanted; M: the blocks that are its own. -/
structure Yields (N : Nat) (f : FuncId) (cp : Array Value) (J Jx : List (List Int × V) → (Nat → Prop) → World → Prop) : Prop where
  enters : ∀ (args : Array Value) (w : World), (callFunc f args).run Try.prog w = .ok (.enter f args) w
  call : ∀ (pre : List (List Int × V)) (M : Nat → Prop) (W : World) (x : T) (lo hi : Nat) (A : Option Addr) (cap : Nat) (p : List Int) (lo' hi' : Nat), pre.length < N → J pre M W → x.In W lo hi → hi ≤ W.heap.size → (∀ i, lo ≤ i → i < hi → ¬ M i) →
    Ints W lo' hi' A cap p → hi' ≤ W.heap.size → (∀ i, lo' ≤ i → i < hi' → ¬ M i) → Calls Try.prog f (#[.slice A p.length cap, x.val] ++ cp) W fun e W' => ∃ M' : Nat → Prop, Fr M W W' ∧ (∀ i, M' i → i < W.heap.size → M i) ∧
      ((e = .returned (.bool true) ∧ J (pre ++ [(p, x.v)]) M' W') ∨ (e = .returned (.bool false) ∧ Jx (pre ++ [(p, x.v)]) M' W'))
  stay : ∀ (pre : List (List Int × V)) (M : Nat → Prop) (W W' : World) (S : Nat → Prop), J pre M W → Fr S W W' → (∀ i, i < W.heap.size → S i → ¬ M i) → J pre M W'
  lt : ∀ (pre : List (List Int × V)) (M : Nat → Prop) (W : World), J pre M W → ∀ i, M i → i < W.heap.size

theorem Yields.no {N : Nat} {f : FuncId} {cp : Array Value} {J Jx : List (List Int × V) → (Nat → Prop) → World → Prop} (y : Yields N f cp J Jx) {pre : List (List Int × V)} {M : Nat → Prop} {W W' : World} (h : J pre M W) (hf : Fr No W W') : J pre M W' :=
  y.stay pre M W W' No h hf fun _ _ h => h.elim

/-- What the walk leaves. -/
def WalkP (J Jx : List (List Int × V) → (Nat → Prop) → World → Prop) (pre : List (List Int × V)) (M : Nat → Prop) (L : List (List Int × V)) (W : World) (e : Ending) (W' : World) : Prop :=
  ∃ M' : Nat → Prop, Fr M W W' ∧ (∀ i, M' i → i < W.heap.size → M i) ∧ ((e = .returned (.bool true) ∧ J (pre ++ L) M' W') ∨ (e = .returned (.bool false) ∧ ∃ q, q <+: L ∧ Jx (pre ++ q) M' W'))

theorem Clip_any (A : Option Addr) (n cap : Nat) (hn : n ≤ cap) (hc : n ≤ 9223372036854775807) (w : World) : Calls Try.prog 137 #[.slice A n cap] w fun e w' => e = .returned (.slice A n n) ∧ w' = w := by
  have h1 : (n : Int) ≤ (cap : Int) := by omega
  have h2 : (0 : Int) ≤ (n : Int) := by omega
  go_enter Try.func137, Try.ntmps137
  go_wp2
  go_ret
  exact ⟨by first | rfl | simp, rfl⟩

/-- The same, the answer as a Bool. -/
def WalkB (J Jx : List (List Int × V) → (Nat → Prop) → World → Prop) (pre : List (List Int × V)) (M : Nat → Prop) (L : List (List Int × V)) (W : World) (q : Bool) (W' : World) : Prop :=
  ∃ M' : Nat → Prop, Fr M W W' ∧ (∀ i, M' i → i < W.heap.size → M i) ∧ (q = true → J (pre ++ L) M' W') ∧ (q = false → ∃ q, q <+: L ∧ Jx (pre ++ q) M' W')

theorem WalkP.bool {J Jx : List (List Int × V) → (Nat → Prop) → World → Prop} {pre : List (List Int × V)} {M : Nat → Prop} {L : List (List Int × V)} {W : World} {e : Ending} {W' : World} (h : WalkP J Jx pre M L W e W') : ∃ q : Bool, e = .returned (.bool q) ∧ WalkB J Jx pre M L W q W' := by
  obtain ⟨M', h1, h2, ⟨rfl, h3⟩ | ⟨rfl, h3⟩⟩ := h
  · exact ⟨true, rfl, M', h1, h2, fun _ => h3, (fun h => by cases h)⟩
  · exact ⟨false, rfl, M', h1, h2, (fun h => by cases h), fun _ => h3⟩

theorem Ints.old {w : World} {lo hi : Nat} {A : Option Addr} {cap : Nat} {p : List Int} (h : Ints w lo hi A cap p) : ∀ b, A = some b → ∀ j u, (p.map fun x => Value.int .i64 x)[j]? = some u → w.cell? (b.add j) = some u := by
  intro b hb j u hu
  rw [List.getElem?_map] at hu
  cases hx : p[j]? with
  | none => rw [hx] at hu; cases hu
  | some x =>
    rw [hx] at hu
    simp at hu
    subst hu
    obtain ⟨b', o', hA, _, _, hc⟩ := h.at_ (by rintro rfl; simp at hx)
    rw [hA] at hb
    injection hb with hb
    subst hb
    have : (⟨b', o', none⟩ : Addr).add j = ⟨b', o' + j, none⟩ := by unfold Addr.add; split <;> simp_all
    rw [this]
    exact hc j x hx

theorem ints_of_owns {w : World} {base g cap : Nat} {p : List Int} (h : w.ownsRow base 3 1 (.slice (some ⟨g, 0, none⟩) p.length cap) p.length (p.map fun x => Value.int .i64 x)) (hl : p.length * 8 ≤ 140737488351232) (hr : ∀ x ∈ p, -9223372036854775808 ≤ x ∧ x ≤ 9223372036854775807) :
    Ints w g (g + 1) (some ⟨g, 0, none⟩) cap p := by
  rcases h.2 with ⟨hs, _⟩ | ⟨g', cap', cur, hs, hb, hg, hc, hm, hsz, hx⟩
  · cases hs
  · simp at hs
    obtain ⟨rfl, rfl⟩ := hs
    refine ⟨hl, hc, fun _ => ⟨g, 0, rfl, Nat.le_refl _, by omega, fun i x hi => ?_⟩, hr⟩
    have hcell : w.cell? ⟨g, 0 + i, none⟩ = cur[0 + i]? := cell_of_row w g _ cur 3 (0, 0) hg
    rw [hcell, Nat.zero_add]
    have h1 : (p.map fun x => Value.int .i64 x)[i]? = some (.int .i64 x) := by rw [List.getElem?_map, hi]; rfl
    rw [← hx, List.getElem?_take] at h1
    split at h1
    · simpa using h1
    · cases h1

theorem blk5 {w : World} {g : Nat} {t : TypeId} {a b c d e : Value} (h : Blk w g t #[a, b, c, d, e]) : w.cell? ⟨g, 0, none⟩ = some a ∧ w.cell? ⟨g, 1, none⟩ = some b ∧ w.cell? ⟨g, 2, none⟩ = some c ∧ w.cell? ⟨g, 3, none⟩ = some d ∧ w.cell? ⟨g, 4, none⟩ = some e :=
  ⟨h.cell 0, h.cell 1, h.cell 2, h.cell 3, h.cell 4⟩

/-- Where the walk's loop stands. -/
structure WInv (J : List (List Int × V) → (Nat → Prop) → World → Prop) (pre : List (List Int × V)) (M : Nat → Prop) (W : World) (X : Array Value) (wr : World) : Prop where
  fr : Fr M W wr
  box : Blk wr W.heap.size 27 X
  ex : ∃ M1 : Nat → Prop, J pre M1 wr ∧ (∀ i, M1 i → i < W.heap.size → M i) ∧ ¬ M1 W.heap.size

end Go.Proofs.Ytihjmipmjogpoaa

/- Chapter 2: value.walk. -/
namespace Go.Proofs.Ytihjmipmjogpoaa
open Go.RowKit

theorem int_info : (Try.prog.info? 3).map (fun i => (i.zero, i.size, i.bytes)) = some (some (.int .i64 0), 1, 8) := by kernel_rfl

theorem winv_step {J Jx : List (List Int × V) → (Nat → Prop) → World → Prop} {PRE L : List (List Int × V)} {M M1 : Nat → Prop} {W wr w4 w5 : World} {X : Array Value} {q : Bool} (fr : Fr M W wr) (hb : Blk wr W.heap.size 27 X) (hs1 : ∀ i, M1 i → i < W.heap.size → M i) (hn1 : ¬ M1 W.heap.size)
    (f4 : Fr No wr w4) (hq : WalkB J Jx PRE M1 L w4 q w5) : (q = true → WInv J (PRE ++ L) M W X w5) ∧ (q = false → ∃ M' : Nat → Prop, Fr M W w5 ∧ (∀ i, M' i → i < W.heap.size → M i) ∧ ∃ q', q' <+: L ∧ Jx (PRE ++ q') M' w5) := by
  obtain ⟨M5, f5, hs5, h1, h2⟩ := hq
  have hsz := fr.size
  have hsz4 := f4.size
  have hF : Fr M W w5 := (fr.thenNo f4).trans' f5 fun i hi h => hs1 i h hi
  have hM5 : ∀ i, M5 i → i < W.heap.size → M i := fun i h hi => hs1 i (hs5 i h (by omega)) hi
  refine ⟨fun hq => ⟨hF, (hb.fr f4 fun h => h).fr f5 hn1, M5, h1 hq, hM5, fun h => hn1 (hs5 _ h (by have := hb.lt; omega))⟩, fun hq => ?_⟩
  obtain ⟨q', hp, hx⟩ := h2 hq
  exact ⟨M5, hF, hM5, q', hp, hx⟩

theorem grown_no {W w w' : World} (h : Fr No W w) (hg : w.grownBy w' none) : Fr No W w' := h.grown hg fun k hk => by cases hk

theorem walkb_box {J Jx : List (List Int × V) → (Nat → Prop) → World → Prop} {PRE L : List (List Int × V)} {M1 : Nat → Prop} {w4 w5 : World} {q : Bool} {g : Nat} {X : Array Value} (hq : WalkB J Jx PRE M1 L w4 q w5) (hb : Blk w4 g 27 X) (hn : ¬ M1 g) : Blk w5 g 27 X := by
  obtain ⟨M5, f5, _⟩ := hq
  exact hb.fr f5 hn

theorem prefix_cons {α : Type} {x : α} {L a b c : List α} {q : List α} (h1 : L = x :: (a ++ (b ++ c))) (hq : q <+: b) : x :: (a ++ q) <+: L := by
  obtain ⟨d, rfl⟩ := hq
  exact ⟨d ++ c, by rw [h1]; simp⟩

set_option maxRecDepth 100000 in
set_option maxHeartbeats 4000000 in
theorem walk_any {N : Nat} {f : FuncId} {cp : Array Value} {J Jx : List (List Int × V) → (Nat → Prop) → World → Prop} (y : Yields N f cp J Jx) (t : T) : ∀ (pre : List (List Int × V)) (M : Nat → Prop) (W : World) (lo hi : Nat) (A : Option Addr) (cap : Nat) (p : List Int) (lo' hi' : Nat), J pre M W → t.In W lo hi → hi ≤ W.heap.size → (∀ i, lo ≤ i → i < hi → ¬ M i) →
    Ints W lo' hi' A cap p → hi' ≤ W.heap.size → (∀ i, lo' ≤ i → i < hi' → ¬ M i) → p.length + t.v.ht ≤ 1000 → pre.length + t.v.size ≤ N → Calls Try.prog 106 #[t.val, .slice A p.length cap, .func (.func f) #[] cp] W (WalkP J Jx pre M (t.v.walk p) W) := by
  induction t using T.ind with
  | h k n s A1 cap1 l r ih =>
    intro pre M W lo hi A cap p lo' hi' hJ ht hh hM hp hh' hM' hbnd hN
    have hY := y.call pre M (W.alloc (.cells #[.int .u8 k, .int .i64 n, .string s, .slice A1 l.length cap1, .int .i64 r] 27)) (T.mk k n s A1 cap1 l r) lo hi A cap p lo' hi' (by have := (T.mk k n s A1 cap1 l r).v.size_pos; omega) (y.no hJ ((Fr.refl No W).alloc _)) (ht.no ((Fr.refl No W).alloc _) hh) (by simp; omega) hM
      (hp.no ((Fr.refl No W).alloc _) hh') (by simp; omega) hM'
    rw [T.val_mk] at *
    have hK := Blk.new' W 27 #[.int .u8 k, .int .i64 n, .string s, .slice A1 l.length cap1, .int .i64 r] rfl
    have fr1 := (Fr.refl No W).alloc (.cells #[.int .u8 k, .int .i64 n, .string s, .slice A1 l.length cap1, .int .i64 r] 27)
    have hwk : (T.mk k n s A1 cap1 l r).v.walk p = (p, (T.mk k n s A1 cap1 l r).v) :: walkL ((l.map T.v).map V.walk) 0 p := by rw [T.v_mk, V.walk_mk]
    have hlt := y.lt pre M W hJ
    have heg := y.enters
    have HY := hide hY
    have HLT := hide hlt
    clear hlt
    clear hY
    go_enter Try.func106, Try.ntmps106
    go_wp2_with fail
    refine HY.out.mono ?_
    rintro e W2 ⟨M2, frM2, hsub2, ⟨rfl, hJ2⟩ | ⟨rfl, hJx2⟩⟩
    · have hM0 : ¬ M W.heap.size := fun h => by have := HLT.out _ h; omega
      have hM20 : ¬ M2 W.heap.size := fun h => hM0 (hsub2 _ h (by simp))
      have hst : WInv J (pre ++ (p, (T.mk k n s A1 cap1 l r).v) :: walkL (((l.map T.v).map V.walk).take 0) 0 p) M W #[.int .u8 k, .int .i64 n, .string s, .slice A1 l.length cap1, .int .i64 r] W2 :=
        ⟨(fr1.no (S := M)).trans frM2, hK.fr frM2 hM0, M2, by simpa [walkL] using hJ2, fun i h1 h2 => hsub2 i h1 (by simp; omega), hM20⟩
      have HST := hide hst
      obtain ⟨c0, c1, c2, c3, c4, cf⟩ := hst.box.cells5
      have hlen := (T.in_mk.1 ht).1.len1
      have q0 := hst.box.lt
      have HWK := hide hwk
      have HTT := hide ht
      clear hst hM20 hK hJ2 frM2 hsub2 fr1 hJ hwk ht
      go_wp2_with fail
      go_loopw [17] (fun i wr => ∃ j : Nat, j ≤ l.length ∧ i = .int .i64 j ∧ WInv J (pre ++ (p, (T.mk k n s A1 cap1 l r).v) :: walkL (((l.map T.v).map V.walk).take j) 0 p) M W #[.int .u8 k, .int .i64 n, .string s, .slice A1 l.length cap1, .int .i64 r] wr) (fun i _ => l.length - (intOf i).toNat)
      case atStart => exact ⟨0, Nat.zero_le _, rfl, HST.out⟩
      case round =>
        obtain ⟨j, hj, rfl, inv⟩ := hrel
        by_cases hlt : j < l.length
        · obtain ⟨fr, hb, M1, hJ1, hs1, hn1⟩ := inv
          obtain ⟨b, o, k1, n1, s1, A2, cap2, l1, r1, rfl, hb0, hb1, hx, hin, e0, e1, e2, e3, e4⟩ := T.elem (HTT.out.fr fr hh hM) hlt
          have hsz := fr.size
          have g0 : b < wr.heap.size := by omega
          have hlt1 := y.lt _ _ _ hJ1
          have hch : (T.mk k1 n1 s1 A2 cap2 l1 r1).v.ht + 1 ≤ (T.mk k n s (some ⟨b, o, none⟩) cap1 l r).v.ht := by
            rw [← hx, T.v_mk k n s]; exact ht_child (List.mem_map_of_mem (List.getElem_mem hlt))
          have hpl : p.length + 1 ≤ 1000 := by omega
          have hNN : (pre ++ (p, (T.mk k n s (some ⟨b, o, none⟩) cap1 l r).v) :: walkL (((l.map T.v).map V.walk).take j) 0 p).length + (T.mk k1 n1 s1 A2 cap2 l1 r1).v.size ≤ N := by
            have h1 : (walkL (((l.map T.v).map V.walk).take j) 0 p).length = (((l.map T.v).take j).map V.size).sum := by
              rw [← List.map_take]; exact walkL_length _ 0 p fun v _ => walk_length v
            have h2 := sum_take_succ ((l.map T.v).map V.size) j (by simpa using hlt)
            have h3 := sum_take_le ((l.map T.v).map V.size) (j + 1)
            rw [List.getElem_map, List.getElem_map, hx] at h2
            rw [List.map_take] at h1
            rw [T.v_mk k n s, V.size_mk] at hN
            rw [List.length_append, List.length_cons, h1]
            omega
          have hcapp := hp.cap
          have fr3 := (Fr.refl No wr).alloc (.cells #[.int .u8 k1, .int .i64 n1, .string s1, .slice A2 l1.length cap2, .int .i64 r1] 27)
          have hPW : ∀ w', Fr No (wr.alloc (.cells #[.int .u8 k1, .int .i64 n1, .string s1, .slice A2 l1.length cap2, .int .i64 r1] 27)) w' → Ints w' lo' hi' A p.length p := fun w' f => by
            have h := hp.fr (fr.thenNo (fr3.trans f)) hh' hM'
            exact ⟨h.len, Nat.le_refl _, h.at_, h.rng⟩
          have hnone : A = none → p.length = 0 ∧ p.length = 0 := fun hA => by
            rcases List.eq_nil_or_concat p with rfl | ⟨p', x, rfl⟩
            · simp
            · obtain ⟨b', o', h, _⟩ := hp.at_ (by simp)
              rw [hA] at h; cases h
          have hrec : ∀ (w4 : World) (g4 cap4 : Nat), Fr No (wr.alloc (.cells #[.int .u8 k1, .int .i64 n1, .string s1, .slice A2 l1.length cap2, .int .i64 r1] 27)) w4 → Ints w4 g4 (g4 + 1) (some ⟨g4, 0, none⟩) cap4 (p ++ [(j : Int)]) → wr.heap.size ≤ g4 → g4 < w4.heap.size →
              Calls Try.prog 106 #[.agg #[.int .u8 k1, .int .i64 n1, .string s1, .slice A2 l1.length cap2, .int .i64 r1], .slice (some ⟨g4, 0, none⟩) (p.length + 1) cap4, .func (.func f) #[] cp] w4 fun e w5 => ∃ q : Bool, e = .returned (.bool q) ∧
                WalkB J Jx (pre ++ (p, (T.mk k n s (some ⟨b, o, none⟩) cap1 l r).v) :: walkL (((l.map T.v).map V.walk).take j) 0 p) M1 ((T.mk k1 n1 s1 A2 cap2 l1 r1).v.walk (p ++ [(j : Int)])) w4 q w5 := by
            intro w4 g4 cap4 f4 hi4 h0 h1
            have f04 := fr3.trans f4
            have h := ih l[j] (List.getElem_mem hlt) (pre ++ (p, (T.mk k n s (some ⟨b, o, none⟩) cap1 l r).v) :: walkL (((l.map T.v).map V.walk).take j) 0 p) M1 w4 lo hi (some ⟨g4, 0, none⟩) cap4 (p ++ [(j : Int)]) g4 (g4 + 1) (y.no hJ1 f04)
              (by rw [hx]; exact hin.no f04 (by omega)) (by have := f04.size; omega) (fun i q0 q1 q2 => hM i q0 q1 (hs1 i q2 (by omega))) hi4 (by omega) (fun i q0 q1 q2 => by have := hlt1 i q2; omega) (by rw [List.length_append, hx]; simp; omega) (by rw [hx]; exact hNN)
            rw [hx, T.val_mk, List.length_append] at h
            exact h.mono fun e w5 hw => hw.bool
          have hbx := Blk.new wr 27 #[.int .u8 k1, .int .i64 n1, .string s1, .slice A2 l1.length cap2, .int .i64 r1]
          obtain ⟨i0, hi0, hz0, hz1, hz2⟩ := info_parts int_info
          have hrng : ∀ x ∈ p ++ [(j : Int)], -9223372036854775808 ≤ x ∧ x ≤ 9223372036854775807 := fun x hx => by
            rcases List.mem_append.1 hx with hx | hx
            · exact hp.rng x hx
            · simp at hx; omega
          have HREC := hide hrec
          have HPW := hide hPW
          have HBX := hide hbx
          have HNONE := hide hnone
          have HFR := hide fr
          have HB := hide hb
          have HS1 := hide hs1
          have HN1 := hide hn1
          have HF3 := hide fr3
          have HRNG := hide hrng
          have HX := hide hx
          have HLT1 := hide (fun h => by have := hlt1 wr.heap.size h; omega : ¬ M1 wr.heap.size)
          have hcl := fun w' => Clip_any A p.length cap hcapp (by omega) w'
          clear hrec hPW hbx hnone fr hb hs1 hn1 fr3 hin hx hJ1 hlt1 ih hch hrng
          go_wp2_with fail
          go_region_held3 (fun w' => w'.cell? ⟨wr.heap.size, 0, none⟩ = some (.int .u8 k1) ∧ w'.cell? ⟨wr.heap.size, 1, none⟩ = some (.int .i64 n1) ∧ w'.cell? ⟨wr.heap.size, 2, none⟩ = some (.string s1) ∧ w'.cell? ⟨wr.heap.size, 3, none⟩ = some (.slice A2 l1.length cap2) ∧ w'.cell? ⟨wr.heap.size, 4, none⟩ = some (.int .i64 r1))
            (first | with_reducible exact blk5 (Blk.drew HBX.out) | with_reducible exact blk5 (Blk.drew (Blk.alloc HBX.out _)) | with_reducible exact HS5.out | with_reducible exact HS4.out)
            (first
              | ((refine step_append_grows rfl _ _ _ (by rfl) 3 i0 _ 1 8 Try.underlying77 hi0 hz0 hz1 hz2 rfl (by omega) A p.length p.length (p.map fun x => Value.int .i64 x) (by rfl) HNONE.out (by simp) (Ints.old (HPW.out _ (by repeat (first | with_reducible exact Fr.refl No _ | with_reducible refine Fr.drew ?_ | with_reducible refine Fr.alloc ?_ _)))) ⟨wr.heap.size + 1, 0, none⟩ 1 1 [.int .i64 (j : Int)] (by rfl) (by rfl) (World.news_of_block (Blk.new' _ 3 #[.int .i64 (j : Int)] (by simp))) (by simp [Value.oneCell']) (by omega) (by unfold maxLen; omega) (by omega) ?_); intro v4 w4 hown hgrow; obtain ⟨g4, cap4, rfl, hg0, hg1⟩ := hown.form (by omega); have FR4 := hide (grown_no (W := wr.alloc (.cells #[.int .u8 k1, .int .i64 n1, .string s1, .slice A2 l1.length cap2, .int .i64 r1] 27)) (by repeat (first | with_reducible exact Fr.refl No _ | with_reducible refine Fr.drew ?_ | with_reducible refine Fr.alloc ?_ _)) hgrow); have INT4 := hide (ints_of_owns (p := p ++ [(j : Int)]) (by simpa using hown) (by simp; omega) HRNG.out); have hg0' : wr.heap.size ≤ g4 := (by simp at hg0; omega); have HG0 := hide hg0'; have HS4 := hide (blk5 (Blk.fr HBX.out FR4.out fun h => h)); clear hown hgrow hg0 hg0')
              | (go_at_call 106; ((with_reducible refine (HREC.out w4 g4 cap4 FR4.out INT4.out HG0.out hg1).mono ?_); rintro e w5 ⟨q, rfl, hq⟩; have HW := hide (winv_step HFR.out HB.out HS1.out HN1.out (HF3.out.trans FR4.out) hq); have HS5 := hide (blk5 (walkb_box hq (Blk.fr HBX.out FR4.out fun h => h) HLT1.out)); clear hq))
              | (go_at_call 137; (with_reducible refine (hcl _).mono ?_); rintro e wc ⟨rfl, rfl⟩))
          all_goals
            have hW := HW.out
            cases q with
            | true =>
              have HW2 := hide (hW.1 rfl)
              clear hW
              go_wp2
              go_roundw
              case rel =>
                refine ⟨j + 1, hlt, by go_num, ?_⟩
                have h := HW2.out
                have hx' := HX.out
                rw [walkL_take _ _ (by simpa using hlt), ← List.cons_append, ← List.append_assoc, List.getElem_map, List.getElem_map, hx']
                exact h
              case measure => simp [intOf]; omega
            | false =>
              have hpost : WalkP J Jx pre M ((T.mk k n s (some ⟨b, o, none⟩) cap1 l r).v.walk p) W (.returned (.bool false)) w5 := by
                obtain ⟨M', f, hs, q', hp', hx2⟩ := hW.2 rfl
                have hx' := HX.out
                refine ⟨M', f, hs, .inr ⟨rfl, (p, (T.mk k n s (some ⟨b, o, none⟩) cap1 l r).v) :: (walkL (((l.map T.v).map V.walk).take j) 0 p ++ q'), ?_, by simpa using hx2⟩⟩
                refine prefix_cons (b := (T.mk k1 n1 s1 A2 cap2 l1 r1).v.walk (p ++ [(j : Int)])) (c := walkL (((l.map T.v).map V.walk).drop (j + 1)) (0 + (((l.map T.v).map V.walk).take (j + 1)).length) p) ?_ hp'
                rw [HWK.out]
                congr 1
                have h1 := walkL_take ((l.map T.v).map V.walk) p (j := j) (by simpa using hlt)
                rw [List.getElem_map, List.getElem_map, hx'] at h1
                rw [← List.append_assoc, ← h1, ← walkL_append, List.take_append_drop]
              have HP := hide hpost
              clear hpost hW
              go_wp2
              go_ret
              exact HP.out
        · obtain rfl : j = l.length := by omega
          have hpost : WalkP J Jx pre M ((T.mk k n s A1 cap1 l r).v.walk p) W (.returned (.bool true)) wr := by
            obtain ⟨fr, hb, M1, hJ1, hs1, _⟩ := inv
            rw [List.take_of_length_le (by simp)] at hJ1
            exact ⟨M1, fr, hs1, .inl ⟨rfl, by rw [HWK.out]; exact hJ1⟩⟩
          have HP := hide hpost
          clear hpost inv ih
          go_wp2
          go_ret
          exact HP.out
    · have hpost : WalkP J Jx pre M ((T.mk k n s A1 cap1 l r).v.walk p) W (.returned (.bool false)) W2 :=
        ⟨M2, (fr1.no (S := M)).trans frM2, fun i h1 h2 => hsub2 i h1 (by simp; omega), .inr ⟨rfl, [(p, (T.mk k n s A1 cap1 l r).v)], ⟨walkL ((l.map T.v).map V.walk) 0 p, by rw [hwk]; rfl⟩, hJx2⟩⟩
      have HP := hide hpost
      clear hpost hJx2 frM2 hsub2 ih hwk
      go_wp2
      go_ret
      exact HP.out

end Go.Proofs.Ytihjmipmjogpoaa

/- Chapter 2: the walk of a value's parts, where what holds between two parts needs stay in the same blocks alone. -/
namespace Go.Proofs.Ytihjmipmjogpoaa
open Go.RowKit

theorem walk_hd (v : V) (p : List Int) : ∃ r, v.walk p = (p, v) :: r := by
  cases v
  rw [V.walk_mk]
  exact ⟨_, rfl⟩

theorem pre_one {pre XS : List (List Int × V)} {v : V} {p : List Int} (h : pre ++ v.walk p <+: XS) : pre ++ [(p, v)] <+: XS := by
  obtain ⟨r, hr⟩ := walk_hd v p
  obtain ⟨s, hs⟩ := h
  exact ⟨r ++ s, by rw [← hs, hr]; simp⟩

/-- What is done with each part. -/
structure YieldsN (XS : List (List Int × V)) (f : FuncId) (cp : Array Value) (J Jx : List (List Int × V) → (Nat → Prop) → World → Prop) : Prop where
  enters : ∀ (args : Array Value) (w : World), (callFunc f args).run Try.prog w = .ok (.enter f args) w
  call : ∀ (pre : List (List Int × V)) (M : Nat → Prop) (W : World) (x : T) (lo hi : Nat) (A : Option Addr) (cap : Nat) (p : List Int) (lo' hi' : Nat), pre ++ [(p, x.v)] <+: XS → J pre M W → x.In W lo hi → hi ≤ W.heap.size → (∀ i, lo ≤ i → i < hi → ¬ M i) →
    Ints W lo' hi' A cap p → hi' ≤ W.heap.size → (∀ i, lo' ≤ i → i < hi' → ¬ M i) → Calls Try.prog f (#[.slice A p.length cap, x.val] ++ cp) W fun e W' => ∃ M' : Nat → Prop, Fr M W W' ∧ (∀ i, M' i → i < W.heap.size → M i) ∧
      ((e = .returned (.bool true) ∧ J (pre ++ [(p, x.v)]) M' W') ∨ (e = .returned (.bool false) ∧ Jx (pre ++ [(p, x.v)]) M' W'))
  no : ∀ {pre : List (List Int × V)} {M : Nat → Prop} {W W' : World}, J pre M W → Fr No W W' → J pre M W'
  lt : ∀ (pre : List (List Int × V)) (M : Nat → Prop) (W : World), J pre M W → ∀ i, M i → i < W.heap.size

set_option maxRecDepth 100000 in
set_option maxHeartbeats 4000000 in
theorem walkN_any {XS : List (List Int × V)} {f : FuncId} {cp : Array Value} {J Jx : List (List Int × V) → (Nat → Prop) → World → Prop} (y : YieldsN XS f cp J Jx) (t : T) : ∀ (pre : List (List Int × V)) (M : Nat → Prop) (W : World) (lo hi : Nat) (A : Option Addr) (cap : Nat) (p : List Int) (lo' hi' : Nat), J pre M W → t.In W lo hi → hi ≤ W.heap.size → (∀ i, lo ≤ i → i < hi → ¬ M i) →
    Ints W lo' hi' A cap p → hi' ≤ W.heap.size → (∀ i, lo' ≤ i → i < hi' → ¬ M i) → p.length + t.v.ht ≤ 1000 → pre ++ t.v.walk p <+: XS → Calls Try.prog 106 #[t.val, .slice A p.length cap, .func (.func f) #[] cp] W (WalkP J Jx pre M (t.v.walk p) W) := by
  induction t using T.ind with
  | h k n s A1 cap1 l r ih =>
    intro pre M W lo hi A cap p lo' hi' hJ ht hh hM hp hh' hM' hbnd hN
    have hY := y.call pre M (W.alloc (.cells #[.int .u8 k, .int .i64 n, .string s, .slice A1 l.length cap1, .int .i64 r] 27)) (T.mk k n s A1 cap1 l r) lo hi A cap p lo' hi' (pre_one hN) (y.no hJ ((Fr.refl No W).alloc _)) (ht.no ((Fr.refl No W).alloc _) hh) (by simp; omega) hM
      (hp.no ((Fr.refl No W).alloc _) hh') (by simp; omega) hM'
    rw [T.val_mk] at *
    have hK := Blk.new' W 27 #[.int .u8 k, .int .i64 n, .string s, .slice A1 l.length cap1, .int .i64 r] rfl
    have fr1 := (Fr.refl No W).alloc (.cells #[.int .u8 k, .int .i64 n, .string s, .slice A1 l.length cap1, .int .i64 r] 27)
    have hwk : (T.mk k n s A1 cap1 l r).v.walk p = (p, (T.mk k n s A1 cap1 l r).v) :: walkL ((l.map T.v).map V.walk) 0 p := by rw [T.v_mk, V.walk_mk]
    have hlt := y.lt pre M W hJ
    have heg := y.enters
    have HY := hide hY
    have HLT := hide hlt
    clear hlt
    clear hY
    go_enter Try.func106, Try.ntmps106
    go_wp2_with fail
    refine HY.out.mono ?_
    rintro e W2 ⟨M2, frM2, hsub2, ⟨rfl, hJ2⟩ | ⟨rfl, hJx2⟩⟩
    · have hM0 : ¬ M W.heap.size := fun h => by have := HLT.out _ h; omega
      have hM20 : ¬ M2 W.heap.size := fun h => hM0 (hsub2 _ h (by simp))
      have hst : WInv J (pre ++ (p, (T.mk k n s A1 cap1 l r).v) :: walkL (((l.map T.v).map V.walk).take 0) 0 p) M W #[.int .u8 k, .int .i64 n, .string s, .slice A1 l.length cap1, .int .i64 r] W2 :=
        ⟨(fr1.no (S := M)).trans frM2, hK.fr frM2 hM0, M2, by simpa [walkL] using hJ2, fun i h1 h2 => hsub2 i h1 (by simp; omega), hM20⟩
      have HST := hide hst
      obtain ⟨c0, c1, c2, c3, c4, cf⟩ := hst.box.cells5
      have hlen := (T.in_mk.1 ht).1.len1
      have q0 := hst.box.lt
      have HWK := hide hwk
      have HTT := hide ht
      clear hst hM20 hK hJ2 frM2 hsub2 fr1 hJ hwk ht
      go_wp2_with fail
      go_loopw [17] (fun i wr => ∃ j : Nat, j ≤ l.length ∧ i = .int .i64 j ∧ WInv J (pre ++ (p, (T.mk k n s A1 cap1 l r).v) :: walkL (((l.map T.v).map V.walk).take j) 0 p) M W #[.int .u8 k, .int .i64 n, .string s, .slice A1 l.length cap1, .int .i64 r] wr) (fun i _ => l.length - (intOf i).toNat)
      case atStart => exact ⟨0, Nat.zero_le _, rfl, HST.out⟩
      case round =>
        obtain ⟨j, hj, rfl, inv⟩ := hrel
        by_cases hlt : j < l.length
        · obtain ⟨fr, hb, M1, hJ1, hs1, hn1⟩ := inv
          obtain ⟨b, o, k1, n1, s1, A2, cap2, l1, r1, rfl, hb0, hb1, hx, hin, e0, e1, e2, e3, e4⟩ := T.elem (HTT.out.fr fr hh hM) hlt
          have hsz := fr.size
          have g0 : b < wr.heap.size := by omega
          have hlt1 := y.lt _ _ _ hJ1
          have hch : (T.mk k1 n1 s1 A2 cap2 l1 r1).v.ht + 1 ≤ (T.mk k n s (some ⟨b, o, none⟩) cap1 l r).v.ht := by
            rw [← hx, T.v_mk k n s]; exact ht_child (List.mem_map_of_mem (List.getElem_mem hlt))
          have hpl : p.length + 1 ≤ 1000 := by omega
          have hNN : (pre ++ (p, (T.mk k n s (some ⟨b, o, none⟩) cap1 l r).v) :: walkL (((l.map T.v).map V.walk).take j) 0 p) ++ (T.mk k1 n1 s1 A2 cap2 l1 r1).v.walk (p ++ [(j : Int)]) <+: XS := by
            obtain ⟨s', hs'⟩ := hN
            have h1 := walkL_take ((l.map T.v).map V.walk) p (j := j) (by simpa using hlt)
            rw [List.getElem_map, List.getElem_map, hx] at h1
            have h2 : walkL ((l.map T.v).map V.walk) 0 p = walkL (((l.map T.v).map V.walk).take (j + 1)) 0 p ++ walkL (((l.map T.v).map V.walk).drop (j + 1)) (0 + (((l.map T.v).map V.walk).take (j + 1)).length) p := by
              rw [← walkL_append, List.take_append_drop]
            refine ⟨walkL (((l.map T.v).map V.walk).drop (j + 1)) (0 + (((l.map T.v).map V.walk).take (j + 1)).length) p ++ s', ?_⟩
            rw [← hs', HWK.out, h2, h1]
            simp only [List.append_assoc, List.cons_append]
          have hcapp := hp.cap
          have fr3 := (Fr.refl No wr).alloc (.cells #[.int .u8 k1, .int .i64 n1, .string s1, .slice A2 l1.length cap2, .int .i64 r1] 27)
          have hPW : ∀ w', Fr No (wr.alloc (.cells #[.int .u8 k1, .int .i64 n1, .string s1, .slice A2 l1.length cap2, .int .i64 r1] 27)) w' → Ints w' lo' hi' A p.length p := fun w' f => by
            have h := hp.fr (fr.thenNo (fr3.trans f)) hh' hM'
            exact ⟨h.len, Nat.le_refl _, h.at_, h.rng⟩
          have hnone : A = none → p.length = 0 ∧ p.length = 0 := fun hA => by
            rcases List.eq_nil_or_concat p with rfl | ⟨p', x, rfl⟩
            · simp
            · obtain ⟨b', o', h, _⟩ := hp.at_ (by simp)
              rw [hA] at h; cases h
          have hrec : ∀ (w4 : World) (g4 cap4 : Nat), Fr No (wr.alloc (.cells #[.int .u8 k1, .int .i64 n1, .string s1, .slice A2 l1.length cap2, .int .i64 r1] 27)) w4 → Ints w4 g4 (g4 + 1) (some ⟨g4, 0, none⟩) cap4 (p ++ [(j : Int)]) → wr.heap.size ≤ g4 → g4 < w4.heap.size →
              Calls Try.prog 106 #[.agg #[.int .u8 k1, .int .i64 n1, .string s1, .slice A2 l1.length cap2, .int .i64 r1], .slice (some ⟨g4, 0, none⟩) (p.length + 1) cap4, .func (.func f) #[] cp] w4 fun e w5 => ∃ q : Bool, e = .returned (.bool q) ∧
                WalkB J Jx (pre ++ (p, (T.mk k n s (some ⟨b, o, none⟩) cap1 l r).v) :: walkL (((l.map T.v).map V.walk).take j) 0 p) M1 ((T.mk k1 n1 s1 A2 cap2 l1 r1).v.walk (p ++ [(j : Int)])) w4 q w5 := by
            intro w4 g4 cap4 f4 hi4 h0 h1
            have f04 := fr3.trans f4
            have h := ih l[j] (List.getElem_mem hlt) (pre ++ (p, (T.mk k n s (some ⟨b, o, none⟩) cap1 l r).v) :: walkL (((l.map T.v).map V.walk).take j) 0 p) M1 w4 lo hi (some ⟨g4, 0, none⟩) cap4 (p ++ [(j : Int)]) g4 (g4 + 1) (y.no hJ1 f04)
              (by rw [hx]; exact hin.no f04 (by omega)) (by have := f04.size; omega) (fun i q0 q1 q2 => hM i q0 q1 (hs1 i q2 (by omega))) hi4 (by omega) (fun i q0 q1 q2 => by have := hlt1 i q2; omega) (by rw [List.length_append, hx]; simp; omega) (by rw [hx]; exact hNN)
            rw [hx, T.val_mk, List.length_append] at h
            exact h.mono fun e w5 hw => hw.bool
          have hbx := Blk.new wr 27 #[.int .u8 k1, .int .i64 n1, .string s1, .slice A2 l1.length cap2, .int .i64 r1]
          obtain ⟨i0, hi0, hz0, hz1, hz2⟩ := info_parts int_info
          have hrng : ∀ x ∈ p ++ [(j : Int)], -9223372036854775808 ≤ x ∧ x ≤ 9223372036854775807 := fun x hx => by
            rcases List.mem_append.1 hx with hx | hx
            · exact hp.rng x hx
            · simp at hx; omega
          have HREC := hide hrec
          have HPW := hide hPW
          have HBX := hide hbx
          have HNONE := hide hnone
          have HFR := hide fr
          have HB := hide hb
          have HS1 := hide hs1
          have HN1 := hide hn1
          have HF3 := hide fr3
          have HRNG := hide hrng
          have HX := hide hx
          have HLT1 := hide (fun h => by have := hlt1 wr.heap.size h; omega : ¬ M1 wr.heap.size)
          have hcl := fun w' => Clip_any A p.length cap hcapp (by omega) w'
          clear hrec hPW hbx hnone fr hb hs1 hn1 fr3 hin hx hJ1 hlt1 ih hch hrng
          go_wp2_with fail
          go_region_held3 (fun w' => w'.cell? ⟨wr.heap.size, 0, none⟩ = some (.int .u8 k1) ∧ w'.cell? ⟨wr.heap.size, 1, none⟩ = some (.int .i64 n1) ∧ w'.cell? ⟨wr.heap.size, 2, none⟩ = some (.string s1) ∧ w'.cell? ⟨wr.heap.size, 3, none⟩ = some (.slice A2 l1.length cap2) ∧ w'.cell? ⟨wr.heap.size, 4, none⟩ = some (.int .i64 r1))
            (first | with_reducible exact blk5 (Blk.drew HBX.out) | with_reducible exact blk5 (Blk.drew (Blk.alloc HBX.out _)) | with_reducible exact HS5.out | with_reducible exact HS4.out)
            (first
              | ((refine step_append_grows rfl _ _ _ (by rfl) 3 i0 _ 1 8 Try.underlying77 hi0 hz0 hz1 hz2 rfl (by omega) A p.length p.length (p.map fun x => Value.int .i64 x) (by rfl) HNONE.out (by simp) (Ints.old (HPW.out _ (by repeat (first | with_reducible exact Fr.refl No _ | with_reducible refine Fr.drew ?_ | with_reducible refine Fr.alloc ?_ _)))) ⟨wr.heap.size + 1, 0, none⟩ 1 1 [.int .i64 (j : Int)] (by rfl) (by rfl) (World.news_of_block (Blk.new' _ 3 #[.int .i64 (j : Int)] (by simp))) (by simp [Value.oneCell']) (by omega) (by unfold maxLen; omega) (by omega) ?_); intro v4 w4 hown hgrow; obtain ⟨g4, cap4, rfl, hg0, hg1⟩ := hown.form (by omega); have FR4 := hide (grown_no (W := wr.alloc (.cells #[.int .u8 k1, .int .i64 n1, .string s1, .slice A2 l1.length cap2, .int .i64 r1] 27)) (by repeat (first | with_reducible exact Fr.refl No _ | with_reducible refine Fr.drew ?_ | with_reducible refine Fr.alloc ?_ _)) hgrow); have INT4 := hide (ints_of_owns (p := p ++ [(j : Int)]) (by simpa using hown) (by simp; omega) HRNG.out); have hg0' : wr.heap.size ≤ g4 := (by simp at hg0; omega); have HG0 := hide hg0'; have HS4 := hide (blk5 (Blk.fr HBX.out FR4.out fun h => h)); clear hown hgrow hg0 hg0')
              | (go_at_call 106; ((with_reducible refine (HREC.out w4 g4 cap4 FR4.out INT4.out HG0.out hg1).mono ?_); rintro e w5 ⟨q, rfl, hq⟩; have HW := hide (winv_step HFR.out HB.out HS1.out HN1.out (HF3.out.trans FR4.out) hq); have HS5 := hide (blk5 (walkb_box hq (Blk.fr HBX.out FR4.out fun h => h) HLT1.out)); clear hq))
              | (go_at_call 137; (with_reducible refine (hcl _).mono ?_); rintro e wc ⟨rfl, rfl⟩))
          all_goals
            have hW := HW.out
            cases q with
            | true =>
              have HW2 := hide (hW.1 rfl)
              clear hW
              go_wp2
              go_roundw
              case rel =>
                refine ⟨j + 1, hlt, by go_num, ?_⟩
                have h := HW2.out
                have hx' := HX.out
                rw [walkL_take _ _ (by simpa using hlt), ← List.cons_append, ← List.append_assoc, List.getElem_map, List.getElem_map, hx']
                exact h
              case measure => simp [intOf]; omega
            | false =>
              have hpost : WalkP J Jx pre M ((T.mk k n s (some ⟨b, o, none⟩) cap1 l r).v.walk p) W (.returned (.bool false)) w5 := by
                obtain ⟨M', f, hs, q', hp', hx2⟩ := hW.2 rfl
                have hx' := HX.out
                refine ⟨M', f, hs, .inr ⟨rfl, (p, (T.mk k n s (some ⟨b, o, none⟩) cap1 l r).v) :: (walkL (((l.map T.v).map V.walk).take j) 0 p ++ q'), ?_, by simpa using hx2⟩⟩
                refine prefix_cons (b := (T.mk k1 n1 s1 A2 cap2 l1 r1).v.walk (p ++ [(j : Int)])) (c := walkL (((l.map T.v).map V.walk).drop (j + 1)) (0 + (((l.map T.v).map V.walk).take (j + 1)).length) p) ?_ hp'
                rw [HWK.out]
                congr 1
                have h1 := walkL_take ((l.map T.v).map V.walk) p (j := j) (by simpa using hlt)
                rw [List.getElem_map, List.getElem_map, hx'] at h1
                rw [← List.append_assoc, ← h1, ← walkL_append, List.take_append_drop]
              have HP := hide hpost
              clear hpost hW
              go_wp2
              go_ret
              exact HP.out
        · obtain rfl : j = l.length := by omega
          have hpost : WalkP J Jx pre M ((T.mk k n s A1 cap1 l r).v.walk p) W (.returned (.bool true)) wr := by
            obtain ⟨fr, hb, M1, hJ1, hs1, _⟩ := inv
            rw [List.take_of_length_le (by simp)] at hJ1
            exact ⟨M1, fr, hs1, .inl ⟨rfl, by rw [HWK.out]; exact hJ1⟩⟩
          have HP := hide hpost
          clear hpost inv ih
          go_wp2
          go_ret
          exact HP.out
    · have hpost : WalkP J Jx pre M ((T.mk k n s A1 cap1 l r).v.walk p) W (.returned (.bool false)) W2 :=
        ⟨M2, (fr1.no (S := M)).trans frM2, fun i h1 h2 => hsub2 i h1 (by simp; omega), .inr ⟨rfl, [(p, (T.mk k n s A1 cap1 l r).v)], ⟨walkL ((l.map T.v).map V.walk) 0 p, by rw [hwk]; rfl⟩, hJx2⟩⟩
      have HP := hide hpost
      clear hpost hJx2 frM2 hsub2 ih hwk
      go_wp2
      go_ret
      exact HP.out

end Go.Proofs.Ytihjmipmjogpoaa

/- Chapter 2: a value whose lists lie in rows of their own; value.own's are such. -/
namespace Go.Proofs.Ytihjmipmjogpoaa
open Go.RowKit

/-- Each list of a tree lies in a row of its own, alone; where there is none, nothing is kept. -/
def T.Sp (w : World) (lo hi : Nat) : T → Prop
  | .mk k n s A cap l r => Fit k n s l.length cap r ∧ (l = [] → A = none ∧ cap = 0) ∧ (l ≠ [] → w.ownsRow lo 27 5 (.slice A l.length cap) l.length (rowCells l) ∧ ∃ g, A = some ⟨g, 0, none⟩ ∧ g < hi) ∧ ∀ x ∈ l, T.Sp w lo hi x
termination_by t => t

theorem T.sp_mk {w : World} {lo hi : Nat} {k n : Int} {s : ByteArray} {A : Option Addr} {cap : Nat} {l : List T} {r : Int} :
    (T.mk k n s A cap l r).Sp w lo hi ↔ Fit k n s l.length cap r ∧ (l = [] → A = none ∧ cap = 0) ∧ (l ≠ [] → w.ownsRow lo 27 5 (.slice A l.length cap) l.length (rowCells l) ∧ ∃ g, A = some ⟨g, 0, none⟩ ∧ g < hi) ∧ ∀ x ∈ l, x.Sp w lo hi := by
  rw [T.Sp]

theorem owns_mono {w : World} {base base' : Nat} {e : TypeId} {size : Nat} {v : Value} {n : Nat} {xs : List Value} (h : w.ownsRow base e size v n xs) (hb : base' ≤ base) : w.ownsRow base' e size v n xs := by
  refine ⟨h.1, ?_⟩
  rcases h.2 with h | ⟨g, cap, cur, h1, h2, h3⟩
  · exact .inl h
  · exact .inr ⟨g, cap, cur, h1, by omega, h3⟩

theorem T.Sp.inn {w : World} {lo hi : Nat} (t : T) : t.Sp w lo hi → t.In w lo hi := by
  induction t using T.ind with
  | h k n s A cap l r ih =>
    rw [T.sp_mk, T.in_mk]
    rintro ⟨h1, _, h3, h4⟩
    refine ⟨h1, fun hl => ?_, fun x hx => ih x hx (h4 x hx)⟩
    obtain ⟨ho, g, rfl, hg⟩ := h3 hl
    have hb := owns_lt ho g rfl
    refine ⟨g, 0, rfl, hb.1, hg, fun i x hx j u hu => ?_⟩
    have := World.ownsRow.cells ho (g := g) rfl _ _ (rowCells_get l i j x u hx hu)
    rw [add_at, ← Nat.add_assoc] at this
    exact this

theorem T.Sp.fr {S : Nat → Prop} {w w' : World} {lo hi : Nat} (hf : Fr S w w') (t : T) : (∀ b ∈ t.blocks, ¬ S b) → t.Sp w lo hi → t.Sp w' lo hi := by
  induction t using T.ind with
  | h k n s A cap l r ih =>
    intro hs
    rw [T.blocks_mk] at hs
    rw [T.sp_mk, T.sp_mk]
    rintro ⟨h1, h2, h3, h4⟩
    refine ⟨h1, h2, fun hl => ?_, fun x hx => ih x hx (fun b hb => hs b (List.mem_append_right _ (List.mem_flatten.2 ⟨_, List.mem_map_of_mem hx, hb⟩))) (h4 x hx)⟩
    obtain ⟨ho, g, rfl, hg⟩ := h3 hl
    refine ⟨owns_fr ho hf (fun g' hg' => ?_), g, rfl, hg⟩
    simp [Value.ownBlock] at hg'
    subst hg'
    refine hs g (List.mem_append_left _ ?_)
    cases l with
    | nil => exact absurd rfl hl
    | cons x l => simp

theorem T.Sp.more {w : World} {lo hi lo' hi' : Nat} (hl : lo' ≤ lo) (hh : hi ≤ hi') (t : T) : t.Sp w lo hi → t.Sp w lo' hi' := by
  induction t using T.ind with
  | h k n s A cap l r ih =>
    rw [T.sp_mk, T.sp_mk]
    rintro ⟨h1, h2, h3, h4⟩
    refine ⟨h1, h2, fun hl' => ?_, fun x hx => ih x hx (h4 x hx)⟩
    obtain ⟨ho, g, hA, hg⟩ := h3 hl'
    exact ⟨owns_mono ho hl, g, hA, by omega⟩

/-- .. and no two of them lie in one. -/
structure T.Sh (w : World) (lo hi : Nat) (t : T) : Prop where
  sp : t.Sp w lo hi
  nodup : t.blocks.Nodup

theorem T.Sh.inn {w : World} {lo hi : Nat} {t : T} (h : t.Sh w lo hi) : t.In w lo hi := T.Sp.inn t h.sp
theorem T.Sh.fr {S : Nat → Prop} {w w' : World} {lo hi : Nat} {t : T} (h : t.Sh w lo hi) (hf : Fr S w w') (hs : ∀ b ∈ t.blocks, ¬ S b) : t.Sh w' lo hi := ⟨T.Sp.fr hf t hs h.sp, h.nodup⟩
theorem T.Sh.fr' {S : Nat → Prop} {w w' : World} {lo hi : Nat} {t : T} (h : t.Sh w lo hi) (hf : Fr S w w') (hs : ∀ i, lo ≤ i → i < hi → ¬ S i) : t.Sh w' lo hi :=
  h.fr hf fun b hb => hs b (T.In.blocks t h.inn b hb).1 (T.In.blocks t h.inn b hb).2
theorem T.Sh.no {w w' : World} {lo hi : Nat} {t : T} (h : t.Sh w lo hi) (hf : Fr No w w') : t.Sh w' lo hi := h.fr hf fun _ _ h => h
theorem T.Sh.more {w : World} {lo hi lo' hi' : Nat} {t : T} (h : t.Sh w lo hi) (hl : lo' ≤ lo) (hh : hi ≤ hi') : t.Sh w lo' hi' := ⟨T.Sp.more hl hh t h.sp, h.nodup⟩

theorem T.sh_leaf {w : World} {lo hi : Nat} {k n : Int} {s : ByteArray} {r : Int} (h : Fit k n s 0 0 r) : (T.mk k n s none 0 [] r).Sh w lo hi :=
  ⟨T.sp_mk.2 ⟨h, fun _ => ⟨rfl, rfl⟩, fun h => absurd rfl h, by simp⟩, by rw [T.blocks_mk]; simp⟩

theorem row_list {cs : Array Value} {l : List T} (hs : cs.size = l.length * 5) (hr : RowIs cs 0 l) : cs.toList = rowCells l := by
  refine List.ext_getElem (by rw [Array.length_toList, rowCells_length, hs]) fun i h1 h2 => ?_
  rw [Array.length_toList] at h1
  have hi : i / 5 < l.length := by omega
  have hx : l[i / 5]? = some l[i / 5] := List.getElem?_eq_getElem hi
  have hc : i % 5 < l[i / 5].cells.length := by rw [T.cells_length]; omega
  have hu : l[i / 5].cells[i % 5]? = some l[i / 5].cells[i % 5] := List.getElem?_eq_getElem hc
  have e1 := hr (i / 5) _ hx (i % 5) _ hu
  have e2 := rowCells_get l (i / 5) (i % 5) _ _ hx hu
  have e3 : i / 5 * 5 + i % 5 = i := by omega
  rw [Nat.zero_add, e3] at e1
  rw [e3] at e2
  rw [List.getElem?_eq_getElem h2] at e2
  rw [Array.getElem?_eq_getElem h1] at e1
  rw [Array.getElem_toList]
  exact (Option.some.inj e1).trans (Option.some.inj e2).symm

/-- A row of so many values in a block known whole is its own. -/
theorem owns_blk {w : World} {g lo : Nat} {cs : Array Value} {l : List T} (h : Blk w g 27 cs) (hs : cs.size = l.length * 5) (hr : RowIs cs 0 l) (h0 : lo ≤ g) (hm : l.length ≤ maxLen) : w.ownsRow lo 27 5 (.slice (some ⟨g, 0, none⟩) l.length l.length) l.length (rowCells l) :=
  ⟨rowCells_length l, .inr ⟨g, l.length, cs, rfl, h0, h, Nat.le_refl _, hm, hs, by rw [row_list hs hr, List.take_of_length_le (by rw [rowCells_length]; omega)]⟩⟩

/-- A value of the same data in memory of its own. -/
def OwnP2 (v : V) (w : World) (e : Ending) (w' : World) : Prop :=
  ∃ t' : T, e = .returned t'.val ∧ t'.v = v ∧ t'.Sh w' w.heap.size w'.heap.size ∧ Fr No w w'

/-- Rows of one's own are no frozen ones. -/
theorem T.Sp.free {w : World} {lo hi : Nat} (t : T) : t.Sp w lo hi → ∀ b ∈ t.blocks, ∀ o, w.frozen? ⟨b, o, none⟩ = false := by
  induction t using T.ind with
  | h k n s A cap l r ih =>
    rw [T.sp_mk, T.blocks_mk]
    rintro ⟨h1, _, h3, h4⟩ b hb o
    rcases List.mem_append.1 hb with hb | hb
    · cases l with
      | nil => simp at hb
      | cons x l =>
        obtain ⟨ho, g, rfl, hg⟩ := h3 (by simp)
        simp at hb
        subst hb
        rcases ho.2 with ⟨h, _⟩ | ⟨g, cap, cur, h, _, hh, _⟩
        · cases h
        · simp at h
          obtain ⟨rfl, -⟩ := h
          exact Blk.frozen hh o
    · obtain ⟨bs, hbs, hb⟩ := List.mem_flatten.1 hb
      obtain ⟨x, hx, rfl⟩ := List.mem_map.1 hbs
      exact ih x hx (h4 x hx) b hb o

theorem T.Sh.ow {w : World} {lo hi : Nat} {t : T} (h : t.Sh w lo hi) : t.Ow w lo hi := ⟨h.inn, h.nodup, T.Sp.free t h.sp⟩

/-- Where the loop of 'own' stands. -/
structure OwnInv2 (w : World) (X Z : Array Value) (l : List T) (j : Nat) (l' : List T) (wr : World) : Prop where
  len : l'.length = j
  vs : l'.map T.v = (l.take j).map T.v
  fr : Fr No w wr
  b0 : Blk wr w.heap.size 27 X
  b1 : Blk wr (w.heap.size + 1) 27 Z
  row : ∃ cs, Blk wr (w.heap.size + 1 + 1) 27 cs ∧ cs.size = l.length * 5 ∧ RowIs cs 0 l'
  forest : Forest wr (w.heap.size + 3) wr.heap.size l'
  big : w.heap.size + 3 ≤ wr.heap.size
  sp : ∀ x ∈ l', x.Sp wr (w.heap.size + 3) wr.heap.size

set_option maxHeartbeats 4000000 in
theorem own2_any (t : T) : ∀ (w : World) (lo hi : Nat), t.In w lo hi → hi ≤ w.heap.size → Calls Try.prog 104 #[t.val] w (OwnP2 t.v w) := by
  induction t using T.ind with
  | h k n s A cap l r ih =>
    intro w lo hi ht hh
    rw [T.val_mk]
    have fit := (T.in_mk.1 ht).1
    have hlen := fit.len1
    obtain ⟨i0, hi0, hz0, hz1, hz2⟩ := info_parts value_info
    have hmk := fun W => run_make_rowN (P := Try.prog) 24 27 i0 _ Try.underlying24 hi0 hz0 .i64 .i64 l.length l.length (Nat.le_refl _) (by rw [hz2]; omega) (by omega) W
    rw [hz1] at hmk
    clear hi0 hz0 hz1 hz2
    by_cases hl : l.length = 0
    · have hl0 : ((l.length : Int) == 0) = true := by simp [hl]
      obtain rfl : l = [] := List.eq_nil_of_length_eq_zero hl
      clear hmk
      go_enter Try.func104, Try.ntmps104
      go_wp2
      refine bodyPost_ret (v := .agg #[.int .u8 k, .int .i64 n, .string s, .slice none 0 0, .int .i64 r]) (by simp [results, Try.results104, go_sem]) rfl ?_
      refine ⟨T.mk k n s none 0 [] r, rfl, by simp [T.v_mk], T.sh_leaf ⟨fit.k0, fit.k1, fit.n0, fit.n1, fit.s1, by simp, Nat.le_refl _, fit.r0, fit.r1⟩, ?_⟩
      exact ((Fr.refl No w).alloc _).alloc _
    · have hl0 : ((l.length : Int) == 0) = false := by simp; intro h; subst h; simp at hl
      have hl1 : (0 : Int) < (l.length : Int) := by omega
      go_enter Try.func104, Try.ntmps104
      go_wp2_with fail
      go_loopw [19] (fun i wr => ∃ (j : Nat) (l' : List T), j ≤ l.length ∧ i = .int .i64 j ∧
          OwnInv2 w #[.int .u8 k, .int .i64 n, .string s, .slice A l.length cap, .int .i64 r] #[.int .u8 0, .int .i64 0, .string ⟨#[]⟩, .slice none 0 0, .int .i64 0] l j l' wr)
        (fun i _ => l.length - (intOf i).toNat)
      case atStart =>
        refine ⟨0, [], Nat.zero_le _, rfl, rfl, by simp, (((Fr.refl No w).alloc _).alloc _).alloc _, ((Blk.new' w 27 _ rfl).alloc _).alloc _, (Blk.new' (w.alloc _) 27 _ (by simp)).alloc _,
          ⟨_, Blk.new' ((w.alloc _).alloc _) 27 _ (by simp), size_madeCells _ _, RowIs.nil _ _⟩, Forest.nil _ _ _, by simp, by simp⟩
      case round =>
        obtain ⟨j, l', hj, rfl, inv⟩ := hrel
        have fr := inv.fr
        have big := inv.big
        by_cases hlt : j < l.length
        · obtain ⟨b, o, k1, n1, s1, A1, cap1, l1, r1, rfl, hb0, hb1, hx, hin, e0, e1, e2, e3, e4⟩ := T.elem (ht.no fr hh) hlt
          have IH := ih l[j] (List.getElem_mem hlt)
          rw [hx] at IH
          have HX := hide hx
          have hle := Nat.le_of_lt hlt
          have HI := hide inv
          clear hx ih inv hmk
          go_wp2_with fail
          refine (IH _ lo hi (hin.no ((Fr.refl No wr).alloc _) (by omega)) (by simp; omega)).mono ?_
          rintro e w2 ⟨t', rfl, hv, sh, fr2⟩
          have HV := hide hv
          clear hv
          simp only [World.size_alloc] at sh
          have ow := sh.ow
          cases t' with
          | mk k2 n2 s2 A2 cap2 l2 r2 =>
            rw [T.val_mk]
            obtain ⟨cs, hb, hcs, hrow⟩ := HI.out.row
            have blk2 := (hb.alloc (.cells #[.int .u8 k1, .int .i64 n1, .string s1, .slice A1 l1.length cap1, .int .i64 r1] 27)).fr fr2 (fun h => h)
            obtain ⟨y0, x0⟩ : ∃ y, w2.cell? ⟨w.heap.size + 1 + 1, j * 5, none⟩ = some y := ⟨cs[j * 5]'(by omega), by rw [blk2.cell]; exact Array.getElem?_eq_getElem _⟩
            obtain ⟨y1, x1⟩ : ∃ y, w2.cell? ⟨w.heap.size + 1 + 1, j * 5 + 1, none⟩ = some y := ⟨cs[j * 5 + 1]'(by omega), by rw [blk2.cell]; exact Array.getElem?_eq_getElem _⟩
            obtain ⟨y2, x2⟩ : ∃ y, w2.cell? ⟨w.heap.size + 1 + 1, j * 5 + 2, none⟩ = some y := ⟨cs[j * 5 + 2]'(by omega), by rw [blk2.cell]; exact Array.getElem?_eq_getElem _⟩
            obtain ⟨y3, x3⟩ : ∃ y, w2.cell? ⟨w.heap.size + 1 + 1, j * 5 + 3, none⟩ = some y := ⟨cs[j * 5 + 3]'(by omega), by rw [blk2.cell]; exact Array.getElem?_eq_getElem _⟩
            obtain ⟨y4, x4⟩ : ∃ y, w2.cell? ⟨w.heap.size + 1 + 1, j * 5 + 4, none⟩ = some y := ⟨cs[j * 5 + 4]'(by omega), by rw [blk2.cell]; exact Array.getElem?_eq_getElem _⟩
            have xf := blk2.frozen
            have HB := hide blk2
            have HR := hide hrow
            have HC := hide hcs
            have HO := hide ow
            have HSH := hide sh
            clear sh
            clear blk2 hb hrow hcs ow
            go_wp2
            go_roundw
            case rel =>
              have inv := HI.out
              have hcs := HC.out
              have hsz2 := fr2.size
              simp only [World.size_alloc] at hsz2
              have hfar : ∀ {g : Nat} {X : Array Value}, g < w.heap.size + 2 → Blk wr g 27 X → Blk (((((w2.setCell ⟨w.heap.size + 1 + 1, j * 5, none⟩ (.int .u8 k2)).setCell ⟨w.heap.size + 1 + 1, j * 5 + 1, none⟩ (.int .i64 n2)).setCell ⟨w.heap.size + 1 + 1, j * 5 + 2, none⟩ (.string s2)).setCell
                  ⟨w.heap.size + 1 + 1, j * 5 + 3, none⟩ (.slice A2 l2.length cap2)).setCell ⟨w.heap.size + 1 + 1, j * 5 + 4, none⟩ (.int .i64 r2)) g 27 X := fun {g X} hg hX =>
                (((((((hX.alloc _).fr fr2 (fun h => h)).far (by simp; omega) _).far (by simp; omega) _).far (by simp; omega) _).far (by simp; omega) _).far (by simp; omega) _)
              have hst : Fr (· = w.heap.size + 1 + 1) w2 (((((w2.setCell ⟨w.heap.size + 1 + 1, j * 5, none⟩ (.int .u8 k2)).setCell ⟨w.heap.size + 1 + 1, j * 5 + 1, none⟩ (.int .i64 n2)).setCell ⟨w.heap.size + 1 + 1, j * 5 + 2, none⟩ (.string s2)).setCell
                  ⟨w.heap.size + 1 + 1, j * 5 + 3, none⟩ (.slice A2 l2.length cap2)).setCell ⟨w.heap.size + 1 + 1, j * 5 + 4, none⟩ (.int .i64 r2)) := (Fr.refl (fun i => i = w.heap.size + 1 + 1) w2).five (fun _ => rfl) _ _ _ _ _ _
              refine ⟨j + 1, l' ++ [T.mk k2 n2 s2 A2 cap2 l2 r2], hlt, by go_num, by simp [inv.len], ?_, ?_, hfar (by omega) inv.b0, hfar (by omega) inv.b1, ⟨_, HB.out.five _ _ _ _ _ _, ?_, ?_⟩, ?_, ?_, ?_⟩
              · rw [List.map_append, inv.vs, List.take_succ_eq_append_getElem hlt, List.map_append, List.map_singleton, List.map_singleton, HV.out, HX.out]
              · exact (((fr.alloc _).thenNo fr2).five (by omega) _ _ _ _ _ _)
              · simpa using hcs
              · have := HR.out.five (k := k2) (n := n2) (s := s2) (A := A2) (cap := cap2) (l1 := l2) (r := r2) (by rw [inv.len, hcs]; omega)
                simpa [inv.len] using this
              · have h1 : Forest w2 (w.heap.size + 3) (wr.heap.size + 1) l' := ((inv.forest.no ((Fr.refl No wr).alloc _) (Nat.le_refl _)).no fr2 (by simp)).more (Nat.le_refl _) (by omega)
                have h2 := h1.snoc HO.out (by omega) hsz2
                simpa using h2.fr hst (Nat.le_refl _) (fun i hi _ e => by omega)
              · simp; omega
              · intro x hx
                have hbl : ∀ (y : T) (lo hi : Nat), y.In w2 lo hi → w.heap.size + 3 ≤ lo → ∀ b ∈ y.blocks, ¬ b = w.heap.size + 1 + 1 := fun y lo hi hy hl b hb e => by
                  have := T.In.blocks y hy b hb; omega
                rcases List.mem_append.1 hx with hx | hx
                · have h1 := inv.sp x hx
                  have h2 := T.Sp.fr fr2 x (fun _ _ h => h) (T.Sp.fr ((Fr.refl No wr).alloc (.cells #[.int .u8 k1, .int .i64 n1, .string s1, .slice A1 l1.length cap1, .int .i64 r1] 27)) x (fun _ _ h => h) h1)
                  have h3 := T.Sp.fr hst x (hbl x _ _ (T.Sp.inn x h2) (Nat.le_refl _)) h2
                  exact T.Sp.more (Nat.le_refl _) (by simp; omega) x h3
                · simp at hx; subst hx
                  have h3 := T.Sp.fr hst _ (hbl _ _ _ HSH.out.inn (by omega)) HSH.out.sp
                  exact T.Sp.more (by omega) (by simp) _ h3
            case measure => simp [intOf]; omega
        · obtain rfl : l.length = j := by omega
          have c0 : wr.cell? ⟨w.heap.size, 0, none⟩ = some (.int .u8 k) := inv.b0.cell 0
          have c1 : wr.cell? ⟨w.heap.size, 1, none⟩ = some (.int .i64 n) := inv.b0.cell 1
          have c2 : wr.cell? ⟨w.heap.size, 2, none⟩ = some (.string s) := inv.b0.cell 2
          have c3 : wr.cell? ⟨w.heap.size, 3, none⟩ = some (.slice A l.length cap) := inv.b0.cell 3
          have c4 : wr.cell? ⟨w.heap.size, 4, none⟩ = some (.int .i64 r) := inv.b0.cell 4
          have cf := inv.b0.frozen 3
          have d0 : wr.cell? ⟨w.heap.size + 1, 0, none⟩ = some (.int .u8 0) := inv.b1.cell 0
          have d1 : wr.cell? ⟨w.heap.size + 1, 1, none⟩ = some (.int .i64 0) := inv.b1.cell 1
          have d2 : wr.cell? ⟨w.heap.size + 1, 2, none⟩ = some (.string ⟨#[]⟩) := inv.b1.cell 2
          have d3 : wr.cell? ⟨w.heap.size + 1, 3, none⟩ = some (.slice none 0 0) := inv.b1.cell 3
          have d4 : wr.cell? ⟨w.heap.size + 1, 4, none⟩ = some (.int .i64 0) := inv.b1.cell 4
          have df := inv.b1.frozen
          have HI := hide inv
          clear inv hmk ih
          go_wp2
          have inv := HI.out
          refine bodyPost_ret (v := .agg #[.int .u8 k, .int .i64 n, .string s, .slice (some ⟨w.heap.size + 1 + 1, 0, none⟩) l.length l.length, .int .i64 r]) (by simp [results, Try.results104, go_sem, *]) rfl ?_
          generalize hW : World.setCell _ _ _ = W
          have hfr : Fr (fun i => i = w.heap.size ∨ i = w.heap.size + 1) wr W := by
            rw [← hW]
            repeat (first | with_reducible exact Fr.refl _ wr | with_reducible refine Fr.set ?_ (by simp) _)
          obtain ⟨cs, hb, hcs, hrow⟩ := inv.row
          have hl' := inv.len
          have hb' : Blk W (w.heap.size + 1 + 1) 27 cs := hb.fr hfr (by omega)
          have hF : Forest W (w.heap.size + 3) wr.heap.size l' := inv.forest.fr hfr (Nat.le_refl _) (fun i h0 h1 h2 => by omega)
          have hsz := hfr.size
          refine ⟨T.mk k n s (some ⟨w.heap.size + 1 + 1, 0, none⟩) l.length l' r, by rw [T.val_mk, hl'], ?_, ?_, inv.fr.trans' hfr (fun i hi h => by omega)⟩
          · rw [T.v_mk, T.v_mk, inv.vs, List.take_of_length_le (Nat.le_refl _)]
          · have how : (T.mk k n s (some ⟨w.heap.size + 1 + 1, 0, none⟩) l.length l' r).Ow W w.heap.size W.heap.size := by
             refine T.ow_mk ⟨fit.k0, fit.k1, fit.n0, fit.n1, fit.s1, by omega, by omega, fit.r0, fit.r1⟩ (hF.more (by omega) hsz) hb' hrow (by omega) (by omega) (fun hm => ?_)
             have := hF.blocks _ hm
             omega
            refine ⟨T.sp_mk.2 ⟨(T.in_mk.1 how.inn).1, fun h => by subst h; simp at hl'; omega, fun _ => ⟨?_, _, rfl, by omega⟩, fun x hx => ?_⟩, how.nodup⟩
            · have := owns_blk (lo := w.heap.size) hb' (by rw [hcs, hl']) hrow (by omega) (by rw [hl']; unfold maxLen; omega)
              rwa [hl'] at this ⊢
            · have h1 := inv.sp x hx
              have h2 := T.Sp.fr hfr x (fun b hb h => by
                have := T.In.blocks x (T.Sp.inn x h1) b hb
                have h' : b = w.heap.size ∨ b = w.heap.size + 1 := h
                omega) h1
              exact T.Sp.more (by omega) hsz x h2

end Go.Proofs.Ytihjmipmjogpoaa

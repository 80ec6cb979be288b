/- Texts joined: E5, E7, E8, E9, W3, Y1, Y2, Y3. -/
import Derived.Test.YtihjmipmjogpoaaJn8
import Derived.Deep.RegionHeld3
import Derived.Deep.RegionLawGrows
import Derived.Deep.AppendLies
import Derived.Laws.BytesArg
import Derived.Lib.ConvBytes
import Derived.Lib.SmallJoins
/- Chapter 2: places; find, At. -/
namespace Go.Proofs.Ytihjmipmjogpoaa
open Go.RowKit

theorem sets5v (w : World) (a : Nat) (t : TypeId) (x0 x1 x2 x3 x4 v0 v1 v2 v3 v4 : Value) (h : Blk w a t #[x0, x1, x2, x3, x4]) :
    Blk (((((w.setCell ⟨a, 0, none⟩ v0).setCell ⟨a, 1, none⟩ v1).setCell ⟨a, 2, none⟩ v2).setCell ⟨a, 3, none⟩ v3).setCell ⟨a, 4, none⟩ v4) a t #[v0, v1, v2, v3, v4] ∧
    Fr (fun i => i = a) w (((((w.setCell ⟨a, 0, none⟩ v0).setCell ⟨a, 1, none⟩ v1).setCell ⟨a, 2, none⟩ v2).setCell ⟨a, 3, none⟩ v3).setCell ⟨a, 4, none⟩ v4) :=
  ⟨(by simpa only [List.setIfInBounds_toArray, List.set_cons_zero, List.set_cons_succ] using ((((h.set_ 0 v0).set_ 1 v1).set_ 2 v2).set_ 3 v3).set_ 4 v4),
   (((((Fr.refl (fun i => i = a) w).set (fun _ => rfl) v0).set (fun _ => rfl) v1).set (fun _ => rfl) v2).set (fun _ => rfl) v3).set (fun _ => rfl) v4⟩

/-- Some numbers that lie one behind the other. -/
structure Ints (w : World) (lo hi : Nat) (A : Option Addr) (cap : Nat) (p : List Int) : Prop where
  len : p.length * 8 ≤ 140737488351232
  cap : p.length ≤ cap
  at_ : p ≠ [] → ∃ b o, A = some ⟨b, o, none⟩ ∧ lo ≤ b ∧ b < hi ∧ ∀ i x, p[i]? = some x → w.cell? ⟨b, o + i, none⟩ = some (.int .i64 x)
  rng : ∀ x ∈ p, -9223372036854775808 ≤ x ∧ x ≤ 9223372036854775807

theorem Ints.keep {w w' : World} {lo hi : Nat} {A : Option Addr} {cap : Nat} {p : List Int} (h : Ints w lo hi A cap p) (hk : ∀ b o, lo ≤ b → b < hi → w'.cell? ⟨b, o, none⟩ = w.cell? ⟨b, o, none⟩) : Ints w' lo hi A cap p :=
  ⟨h.len, h.cap, fun hne => by
    obtain ⟨b, o, hA, h0, h1, hc⟩ := h.at_ hne
    exact ⟨b, o, hA, h0, h1, fun i x hx => (hk b _ h0 h1).trans (hc i x hx)⟩, h.rng⟩

theorem Ints.fr {S : Nat → Prop} {w w' : World} {lo hi : Nat} {A : Option Addr} {cap : Nat} {p : List Int} (h : Ints w lo hi A cap p) (hf : Fr S w w') (hh : hi ≤ w.heap.size) (hs : ∀ i, lo ≤ i → i < hi → ¬ S i) : Ints w' lo hi A cap p :=
  h.keep fun b _ h0 h1 => hf.cell (by omega) (hs b h0 h1)

theorem Ints.no {w w' : World} {lo hi : Nat} {A : Option Addr} {cap : Nat} {p : List Int} (h : Ints w lo hi A cap p) (hf : Fr No w w') (hh : hi ≤ w.heap.size) : Ints w' lo hi A cap p := h.fr hf hh fun _ _ _ h => h

theorem Ints.elem {w : World} {lo hi : Nat} {A : Option Addr} {cap : Nat} {p : List Int} (h : Ints w lo hi A cap p) {j : Nat} (hj : j < p.length) : ∃ b o, A = some ⟨b, o, none⟩ ∧ lo ≤ b ∧ b < hi ∧ w.cell? ⟨b, o + j, none⟩ = some (.int .i64 p[j]) := by
  obtain ⟨b, o, hA, h0, h1, hc⟩ := h.at_ (by rintro rfl; simp at hj)
  exact ⟨b, o, hA, h0, h1, hc j _ (List.getElem?_eq_getElem hj)⟩

def V.list : V → List V
  | .mk _ _ _ l _ => l

/-- What stands at a place. -/
def vAt : List Int → V → Option V
  | [], v => some v
  | i :: p, v => if i < 0 then none else (v.list[i.toNat]?).bind (vAt p)

theorem vAt_cons (i : Int) (p : List Int) (v : V) : vAt (i :: p) v = if i < 0 then none else (v.list[i.toNat]?).bind (vAt p) := rfl

/-- What find answers. -/
def FindV (v : V) (p : List Int) (lo hi : Nat) (w : World) (e : Ending) (w' : World) : Prop :=
  Fr No w w' ∧ ((∃ t' : T, e = .returned (.tuple #[t'.val, .bool true]) ∧ vAt p v = some t'.v ∧ t'.In w' lo hi) ∨ (e = .returned (.tuple #[.agg #[.int .u8 0, .int .i64 0, .string ⟨#[]⟩, .slice none 0 0, .int .i64 0], .bool false]) ∧ vAt p v = none))

/-- Where find's loop stands. -/
structure FInv (v : V) (p : List Int) (lo hi : Nat) (w : World) (g : Nat) (j : Nat) (wr : World) : Prop where
  fr : Fr No w wr
  z : Blk wr (g + 1) 27 #[.int .u8 0, .int .i64 0, .string ⟨#[]⟩, .slice none 0 0, .int .i64 0]
  ex : ∃ k n s A cap l r, Blk wr g 27 #[.int .u8 k, .int .i64 n, .string s, .slice A (l : List T).length cap, .int .i64 r] ∧ (T.mk k n s A cap l r).In wr lo hi ∧ vAt p v = vAt (p.drop j) (T.mk k n s A cap l r).v

theorem T.v_list (k n : Int) (s : ByteArray) (A : Option Addr) (cap : Nat) (l : List T) (r : Int) : (T.mk k n s A cap l r).v.list = l.map T.v := by rw [T.v_mk]; rfl

set_option maxRecDepth 100000 in
set_option maxHeartbeats 4000000 in
theorem find2_any (t : T) (w : World) (lo hi : Nat) (ht : t.In w lo hi) (hh : hi ≤ w.heap.size) (A : Option Addr) (cap : Nat) (p : List Int) (lo' hi' : Nat) (hp : Ints w lo' hi' A cap p) (hh' : hi' ≤ w.heap.size) :
    Calls Try.prog 126 #[t.val, .slice A p.length cap] w (FindV t.v p lo hi w) := by
  cases t with
  | mk k n s A1 cap1 l r =>
    rw [T.val_mk]
    generalize hv : (T.mk k n s A1 cap1 l r).v = v at *
    have hplen := hp.len
    have W0 := ((Fr.refl No w).alloc (.cells #[.int .u8 k, .int .i64 n, .string s, .slice A1 l.length cap1, .int .i64 r] 27)).alloc (.cells #[.int .u8 0, .int .i64 0, .string ⟨#[]⟩, .slice none 0 0, .int .i64 0] 27)
    have hst : FInv v p lo hi w w.heap.size 0 ((w.alloc (.cells #[.int .u8 k, .int .i64 n, .string s, .slice A1 l.length cap1, .int .i64 r] 27)).alloc (.cells #[.int .u8 0, .int .i64 0, .string ⟨#[]⟩, .slice none 0 0, .int .i64 0] 27)) :=
      ⟨W0, Blk.new' (w.alloc _) 27 _ (by simp), k, n, s, A1, cap1, l, r, (Blk.new' w 27 _ rfl).alloc _, ht.no W0 hh, by rw [hv]; rfl⟩
    have HST := hide hst
    have HT := hide ht
    clear hst W0 hv ht
    go_enter Try.func126, Try.ntmps126
    go_wp2_with fail
    go_loopw [10] (fun i wr => ∃ j : Nat, j ≤ p.length ∧ i = .int .i64 j ∧ FInv v p lo hi w w.heap.size j wr) (fun i _ => p.length - (intOf i).toNat)
    case atStart => exact ⟨0, Nat.zero_le _, rfl, HST.out⟩
    case round =>
      obtain ⟨j, hj, rfl, inv⟩ := hrel
      obtain ⟨fr, hz, ck, cn, cs, cA, ccap, cl, cr, hb, hin, hat⟩ := inv
      obtain ⟨c0, c1, c2, c3, c4, cf⟩ := hb.cells5
      obtain ⟨d0, d1, d2, d3, d4, df⟩ := hz.cells5
      have q0 := hz.lt
      have clen := (T.in_mk.1 hin).1.len1
      by_cases hlt : j < p.length
      · obtain ⟨b, o, rfl, hb0, hb1, hc⟩ := (hp.no fr hh').elem hlt
        have hrg := hp.rng p[j] (List.getElem_mem hlt)
        have g0 : b < wr.heap.size := by have := fr.size; omega
        have hdrop : p.drop j = p[j] :: p.drop (j + 1) := List.drop_eq_getElem_cons hlt
        rw [hdrop] at hat
        generalize p[j] = x at *
        have HAT := hide hat
        have HF := hide fr
        clear hat hdrop fr
        by_cases hx : x < 0
        · have hn : vAt p v = none := by rw [HAT.out, vAt_cons, if_pos hx]
          have HN := hide hn
          clear hn
          have HZ := hide hz
          clear hb hz hin
          go_wp2_with fail
          refine bodyPost_ret (v := .tuple #[.agg #[.int .u8 0, .int .i64 0, .string ⟨#[]⟩, .slice none 0 0, .int .i64 0], .bool false]) (by simp [results, Try.results126, go_sem, *]) rfl ?_
          have hF2 := HF.out
          refine ⟨?_, .inr ⟨rfl, HN.out⟩⟩
          repeat (first | with_reducible exact hF2 | with_reducible refine Fr.setNew ?_ (by first | (simp; done) | (simp; omega)) _)
        · obtain ⟨i, rfl⟩ : ∃ i : Nat, x = i := ⟨x.toNat, by omega⟩
          by_cases hi2 : i < cl.length
          · obtain ⟨bm, om, k6, n6, s6, A6, cap6, l6, r6, rfl, hm0, hm1, hxm, him, e0, e1, e2, e3, e4⟩ := T.elem hin hi2
            have g1 : bm < wr.heap.size := by have := HF.out.size; omega
            have hn : vAt p v = vAt (p.drop (j + 1)) (T.mk k6 n6 s6 A6 cap6 l6 r6).v := by
              rw [HAT.out, vAt_cons, if_neg (by omega), T.v_list, Int.toNat_natCast, List.getElem?_map, List.getElem?_eq_getElem hi2, hxm]
              rfl
            have hge : ¬ cl.length ≤ i := by omega
            have hx' : ¬ (i : Int) < 0 := by omega
            have HN := hide hn
            have HB := hide hb
            have HZ := hide hz
            have HIM := hide him
            clear hn hb hz hin him hxm hx
            go_wp2_with fail
            go_roundw
            case rel =>
              obtain ⟨s1, f1⟩ := sets5v wr w.heap.size 27 _ _ _ _ _ (.int .u8 k6) (.int .i64 n6) (.string s6) (.slice A6 l6.length cap6) (.int .i64 r6) HB.out
              refine ⟨j + 1, hlt, by go_num, HF.out.trans' f1 (fun i hi h => by have h' : i = w.heap.size := h; omega), HZ.out.fr f1 (by omega), k6, n6, s6, A6, cap6, l6, r6, s1, HIM.out.fr f1 (by have := HF.out.size; omega) (fun i h0 h1 h2 => by have h' : i = w.heap.size := h2; omega), HN.out⟩
            case measure => simp [intOf]; omega
          · have hge : cl.length ≤ i := by omega
            have hx' : ¬ (i : Int) < 0 := by omega
            have hn : vAt p v = none := by
              rw [HAT.out, vAt_cons, if_neg (by omega), T.v_list, Int.toNat_natCast, List.getElem?_map, List.getElem?_eq_none (by omega)]
              rfl
            have HN := hide hn
            clear hn hx
            have HZ := hide hz
            clear hb hz hin
            go_wp2_with fail
            refine bodyPost_ret (v := .tuple #[.agg #[.int .u8 0, .int .i64 0, .string ⟨#[]⟩, .slice none 0 0, .int .i64 0], .bool false]) (by simp [results, Try.results126, go_sem, *]) rfl ?_
            have hF2 := HF.out
            refine ⟨?_, .inr ⟨rfl, HN.out⟩⟩
            repeat (first | with_reducible exact hF2 | with_reducible refine Fr.setNew ?_ (by first | (simp; done) | (simp; omega)) _)
      · obtain rfl : j = p.length := by omega
        have hn : vAt p v = some (T.mk ck cn cs cA ccap cl cr).v := by rw [hat, List.drop_length]; rfl
        have HN := hide hn
        have HIN := hide hin
        have HF := hide fr
        clear hn hat hb hz fr hin
        go_wp2_with fail
        refine bodyPost_ret (v := .tuple #[.agg #[.int .u8 ck, .int .i64 cn, .string cs, .slice cA cl.length ccap, .int .i64 cr], .bool true]) (by simp [results, Try.results126, go_sem, *]) rfl ?_
        have hF2 := HF.out
        have hI2 := HIN.out
        refine ⟨?_, .inl ⟨T.mk ck cn cs cA ccap cl cr, rfl, HN.out, hI2.fr (S := (· = w.heap.size + 1)) ?_ (by have := hF2.size; omega) (fun i h0 h1 h2 => by have h' : i = w.heap.size + 1 := h2; omega)⟩⟩
        · repeat (first | with_reducible exact hF2 | with_reducible refine Fr.setNew ?_ (by first | (simp; done) | (simp; omega)) _)
        · repeat (first | with_reducible exact Fr.refl _ wr | with_reducible refine Fr.set ?_ (by simp) _)

end Go.Proofs.Ytihjmipmjogpoaa

/- Chapter 2: the walk of a value's parts, whatever is done with each. -/
namespace Go.Proofs.Ytihjmipmjogpoaa
open Go.RowKit

def walkL : List (List Int → List (List Int × V)) → Nat → List Int → List (List Int × V)
  | [], _, _ => []
  | f :: fs, i, pl => f (pl ++ [(i : Int)]) ++ walkL fs (i + 1) pl

/-- The parts of a value that stands at a place, in the order of the walk. -/
def V.walk : V → List Int → List (List Int × V)
  | .mk k n s l r => fun pl => (pl, .mk k n s l r) :: walkL (l.map V.walk) 0 pl
termination_by v => v

theorem V.walk_mk (k n : Int) (s : ByteArray) (l : List V) (r : Int) (pl : List Int) : (V.mk k n s l r).walk pl = (pl, .mk k n s l r) :: walkL (l.map V.walk) 0 pl := by rw [V.walk]

theorem walkL_append (fs gs : List (List Int → List (List Int × V))) (i : Nat) (pl : List Int) : walkL (fs ++ gs) i pl = walkL fs i pl ++ walkL gs (i + fs.length) pl := by
  induction fs generalizing i with
  | nil => simp [walkL]
  | cons f fs ih => simp only [List.cons_append, walkL, ih, List.append_assoc, List.length_cons]; rw [show i + 1 + fs.length = i + (fs.length + 1) by omega]

theorem walkL_take (fs : List (List Int → List (List Int × V))) (pl : List Int) {j : Nat} (h : j < fs.length) : walkL (fs.take (j + 1)) 0 pl = walkL (fs.take j) 0 pl ++ fs[j] (pl ++ [(j : Int)]) := by
  rw [List.take_succ_eq_append_getElem h, walkL_append]
  simp [walkL, List.length_take, Nat.min_eq_left (Nat.le_of_lt h)]

theorem walkL_prefix (fs : List (List Int → List (List Int × V))) (pl : List Int) (j : Nat) : walkL (fs.take j) 0 pl <+: walkL fs 0 pl := by
  refine ⟨walkL (fs.drop j) (0 + (fs.take j).length) pl, ?_⟩
  rw [← walkL_append, List.take_append_drop]

theorem walkL_length (L : List V) : ∀ (i : Nat) (pl : List Int), (∀ v ∈ L, ∀ p, (v.walk p).length = v.size) → (walkL (L.map V.walk) i pl).length = (L.map V.size).sum := by
  induction L with
  | nil => intro i pl _; rfl
  | cons v L ih =>
    intro i pl h
    simp only [List.map_cons, walkL, List.length_append, List.sum_cons]
    rw [h v (by simp), ih (i + 1) pl fun u hu => h u (by simp [hu])]

theorem walk_length (v : V) : ∀ p, (v.walk p).length = v.size := by
  induction v using V.ind with
  | h k n s l r ih =>
    intro p
    rw [V.walk_mk, V.size_mk, List.length_cons, walkL_length l 0 p ih]
    omega

/-- What is done with each part: J holds between two parts, Jx where no more is wanted; M: the blocks that are its own. -/
structure Yields (N : Nat) (f : FuncId) (cp : Array Value) (J Jx : List (List Int × V) → (Nat → Prop) → World → Prop) : Prop where
  enters : ∀ (args : Array Value) (w : World), (callFunc f args).run Try.prog w = .ok (.enter f args) w
  call : ∀ (pre : List (List Int × V)) (M : Nat → Prop) (W : World) (x : T) (lo hi : Nat) (A : Option Addr) (cap : Nat) (p : List Int) (lo' hi' : Nat), pre.length < N → J pre M W → x.In W lo hi → hi ≤ W.heap.size → (∀ i, lo ≤ i → i < hi → ¬ M i) →
    Ints W lo' hi' A cap p → hi' ≤ W.heap.size → (∀ i, lo' ≤ i → i < hi' → ¬ M i) → Calls Try.prog f (#[.slice A p.length cap, x.val] ++ cp) W fun e W' => ∃ M' : Nat → Prop, Fr M W W' ∧ (∀ i, M' i → i < W.heap.size → M i) ∧
      ((e = .returned (.bool true) ∧ J (pre ++ [(p, x.v)]) M' W') ∨ (e = .returned (.bool false) ∧ Jx (pre ++ [(p, x.v)]) M' W'))
  stay : ∀ (pre : List (List Int × V)) (M : Nat → Prop) (W W' : World) (S : Nat → Prop), J pre M W → Fr S W W' → (∀ i, i < W.heap.size → S i → ¬ M i) → J pre M W'
  lt : ∀ (pre : List (List Int × V)) (M : Nat → Prop) (W : World), J pre M W → ∀ i, M i → i < W.heap.size

theorem Yields.no {N : Nat} {f : FuncId} {cp : Array Value} {J Jx : List (List Int × V) → (Nat → Prop) → World → Prop} (y : Yields N f cp J Jx) {pre : List (List Int × V)} {M : Nat → Prop} {W W' : World} (h : J pre M W) (hf : Fr No W W') : J pre M W' :=
  y.stay pre M W W' No h hf fun _ _ h => h.elim

/-- What the walk leaves. -/
def WalkP (J Jx : List (List Int × V) → (Nat → Prop) → World → Prop) (pre : List (List Int × V)) (M : Nat → Prop) (L : List (List Int × V)) (W : World) (e : Ending) (W' : World) : Prop :=
  ∃ M' : Nat → Prop, Fr M W W' ∧ (∀ i, M' i → i < W.heap.size → M i) ∧ ((e = .returned (.bool true) ∧ J (pre ++ L) M' W') ∨ (e = .returned (.bool false) ∧ ∃ q, q <+: L ∧ Jx (pre ++ q) M' W'))

theorem Clip_any (A : Option Addr) (n cap : Nat) (hn : n ≤ cap) (hc : n ≤ 9223372036854775807) (w : World) : Calls Try.prog 137 #[.slice A n cap] w fun e w' => e = .returned (.slice A n n) ∧ w' = w := by
  have h1 : (n : Int) ≤ (cap : Int) := by omega
  have h2 : (0 : Int) ≤ (n : Int) := by omega
  go_enter Try.func137, Try.ntmps137
  go_wp2
  go_ret
  exact ⟨by first | rfl | simp, rfl⟩

/-- The same, the answer as a Bool. -/
def WalkB (J Jx : List (List Int × V) → (Nat → Prop) → World → Prop) (pre : List (List Int × V)) (M : Nat → Prop) (L : List (List Int × V)) (W : World) (q : Bool) (W' : World) : Prop :=
  ∃ M' : Nat → Prop, Fr M W W' ∧ (∀ i, M' i → i < W.heap.size → M i) ∧ (q = true → J (pre ++ L) M' W') ∧ (q = false → ∃ q, q <+: L ∧ Jx (pre ++ q) M' W')

theorem WalkP.bool {J Jx : List (List Int × V) → (Nat → Prop) → World → Prop} {pre : List (List Int × V)} {M : Nat → Prop} {L : List (List Int × V)} {W : World} {e : Ending} {W' : World} (h : WalkP J Jx pre M L W e W') : ∃ q : Bool, e = .returned (.bool q) ∧ WalkB J Jx pre M L W q W' := by
  obtain ⟨M', h1, h2, ⟨rfl, h3⟩ | ⟨rfl, h3⟩⟩ := h
  · exact ⟨true, rfl, M', h1, h2, fun _ => h3, (fun h => by cases h)⟩
  · exact ⟨false, rfl, M', h1, h2, (fun h => by cases h), fun _ => h3⟩

theorem Ints.old {w : World} {lo hi : Nat} {A : Option Addr} {cap : Nat} {p : List Int} (h : Ints w lo hi A cap p) : ∀ b, A = some b → ∀ j u, (p.map fun x => Value.int .i64 x)[j]? = some u → w.cell? (b.add j) = some u := by
  intro b hb j u hu
  rw [List.getElem?_map] at hu
  cases hx : p[j]? with
  | none => rw [hx] at hu; cases hu
  | some x =>
    rw [hx] at hu
    simp at hu
    subst hu
    obtain ⟨b', o', hA, _, _, hc⟩ := h.at_ (by rintro rfl; simp at hx)
    rw [hA] at hb
    injection hb with hb
    subst hb
    have : (⟨b', o', none⟩ : Addr).add j = ⟨b', o' + j, none⟩ := by unfold Addr.add; split <;> simp_all
    rw [this]
    exact hc j x hx

theorem ints_of_owns {w : World} {base g cap : Nat} {p : List Int} (h : w.ownsRow base 3 1 (.slice (some ⟨g, 0, none⟩) p.length cap) p.length (p.map fun x => Value.int .i64 x)) (hl : p.length * 8 ≤ 140737488351232) (hr : ∀ x ∈ p, -9223372036854775808 ≤ x ∧ x ≤ 9223372036854775807) :
    Ints w g (g + 1) (some ⟨g, 0, none⟩) cap p := by
  rcases h.2 with ⟨hs, _⟩ | ⟨g', cap', cur, hs, hb, hg, hc, hm, hsz, hx⟩
  · cases hs
  · simp at hs
    obtain ⟨rfl, rfl⟩ := hs
    refine ⟨hl, hc, fun _ => ⟨g, 0, rfl, Nat.le_refl _, by omega, fun i x hi => ?_⟩, hr⟩
    have hcell : w.cell? ⟨g, 0 + i, none⟩ = cur[0 + i]? := cell_of_row w g _ cur 3 (0, 0) hg
    rw [hcell, Nat.zero_add]
    have h1 : (p.map fun x => Value.int .i64 x)[i]? = some (.int .i64 x) := by rw [List.getElem?_map, hi]; rfl
    rw [← hx, List.getElem?_take] at h1
    split at h1
    · simpa using h1
    · cases h1

theorem blk5 {w : World} {g : Nat} {t : TypeId} {a b c d e : Value} (h : Blk w g t #[a, b, c, d, e]) : w.cell? ⟨g, 0, none⟩ = some a ∧ w.cell? ⟨g, 1, none⟩ = some b ∧ w.cell? ⟨g, 2, none⟩ = some c ∧ w.cell? ⟨g, 3, none⟩ = some d ∧ w.cell? ⟨g, 4, none⟩ = some e :=
  ⟨h.cell 0, h.cell 1, h.cell 2, h.cell 3, h.cell 4⟩

/-- Where the walk's loop stands. -/
structure WInv (J : List (List Int × V) → (Nat → Prop) → World → Prop) (pre : List (List Int × V)) (M : Nat → Prop) (W : World) (X : Array Value) (wr : World) : Prop where
  fr : Fr M W wr
  box : Blk wr W.heap.size 27 X
  ex : ∃ M1 : Nat → Prop, J pre M1 wr ∧ (∀ i, M1 i → i < W.heap.size → M i) ∧ ¬ M1 W.heap.size

end Go.Proofs.Ytihjmipmjogpoaa

/- Chapter 2: value.walk. -/
namespace Go.Proofs.Ytihjmipmjogpoaa
open Go.RowKit

theorem int_info : (Try.prog.info? 3).map (fun i => (i.zero, i.size, i.bytes)) = some (some (.int .i64 0), 1, 8) := by kernel_rfl

theorem winv_step {J Jx : List (List Int × V) → (Nat → Prop) → World → Prop} {PRE L : List (List Int × V)} {M M1 : Nat → Prop} {W wr w4 w5 : World} {X : Array Value} {q : Bool} (fr : Fr M W wr) (hb : Blk wr W.heap.size 27 X) (hs1 : ∀ i, M1 i → i < W.heap.size → M i) (hn1 : ¬ M1 W.heap.size)
    (f4 : Fr No wr w4) (hq : WalkB J Jx PRE M1 L w4 q w5) : (q = true → WInv J (PRE ++ L) M W X w5) ∧ (q = false → ∃ M' : Nat → Prop, Fr M W w5 ∧ (∀ i, M' i → i < W.heap.size → M i) ∧ ∃ q', q' <+: L ∧ Jx (PRE ++ q') M' w5) := by
  obtain ⟨M5, f5, hs5, h1, h2⟩ := hq
  have hsz := fr.size
  have hsz4 := f4.size
  have hF : Fr M W w5 := (fr.thenNo f4).trans' f5 fun i hi h => hs1 i h hi
  have hM5 : ∀ i, M5 i → i < W.heap.size → M i := fun i h hi => hs1 i (hs5 i h (by omega)) hi
  refine ⟨fun hq => ⟨hF, (hb.fr f4 fun h => h).fr f5 hn1, M5, h1 hq, hM5, fun h => hn1 (hs5 _ h (by have := hb.lt; omega))⟩, fun hq => ?_⟩
  obtain ⟨q', hp, hx⟩ := h2 hq
  exact ⟨M5, hF, hM5, q', hp, hx⟩

theorem grown_no {W w w' : World} (h : Fr No W w) (hg : w.grownBy w' none) : Fr No W w' := h.grown hg fun k hk => by cases hk

theorem walkb_box {J Jx : List (List Int × V) → (Nat → Prop) → World → Prop} {PRE L : List (List Int × V)} {M1 : Nat → Prop} {w4 w5 : World} {q : Bool} {g : Nat} {X : Array Value} (hq : WalkB J Jx PRE M1 L w4 q w5) (hb : Blk w4 g 27 X) (hn : ¬ M1 g) : Blk w5 g 27 X := by
  obtain ⟨M5, f5, _⟩ := hq
  exact hb.fr f5 hn

theorem prefix_cons {α : Type} {x : α} {L a b c : List α} {q : List α} (h1 : L = x :: (a ++ (b ++ c))) (hq : q <+: b) : x :: (a ++ q) <+: L := by
  obtain ⟨d, rfl⟩ := hq
  exact ⟨d ++ c, by rw [h1]; simp⟩

set_option maxRecDepth 100000 in
set_option maxHeartbeats 4000000 in
theorem walk_any {N : Nat} {f : FuncId} {cp : Array Value} {J Jx : List (List Int × V) → (Nat → Prop) → World → Prop} (y : Yields N f cp J Jx) (t : T) : ∀ (pre : List (List Int × V)) (M : Nat → Prop) (W : World) (lo hi : Nat) (A : Option Addr) (cap : Nat) (p : List Int) (lo' hi' : Nat), J pre M W → t.In W lo hi → hi ≤ W.heap.size → (∀ i, lo ≤ i → i < hi → ¬ M i) →
    Ints W lo' hi' A cap p → hi' ≤ W.heap.size → (∀ i, lo' ≤ i → i < hi' → ¬ M i) → p.length + t.v.ht ≤ 1000 → pre.length + t.v.size ≤ N → Calls Try.prog 106 #[t.val, .slice A p.length cap, .func (.func f) #[] cp] W (WalkP J Jx pre M (t.v.walk p) W) := by
  induction t using T.ind with
  | h k n s A1 cap1 l r ih =>
    intro pre M W lo hi A cap p lo' hi' hJ ht hh hM hp hh' hM' hbnd hN
    have hY := y.call pre M (W.alloc (.cells #[.int .u8 k, .int .i64 n, .string s, .slice A1 l.length cap1, .int .i64 r] 27)) (T.mk k n s A1 cap1 l r) lo hi A cap p lo' hi' (by have := (T.mk k n s A1 cap1 l r).v.size_pos; omega) (y.no hJ ((Fr.refl No W).alloc _)) (ht.no ((Fr.refl No W).alloc _) hh) (by simp; omega) hM
      (hp.no ((Fr.refl No W).alloc _) hh') (by simp; omega) hM'
    rw [T.val_mk] at *
    have hK := Blk.new' W 27 #[.int .u8 k, .int .i64 n, .string s, .slice A1 l.length cap1, .int .i64 r] rfl
    have fr1 := (Fr.refl No W).alloc (.cells #[.int .u8 k, .int .i64 n, .string s, .slice A1 l.length cap1, .int .i64 r] 27)
    have hwk : (T.mk k n s A1 cap1 l r).v.walk p = (p, (T.mk k n s A1 cap1 l r).v) :: walkL ((l.map T.v).map V.walk) 0 p := by rw [T.v_mk, V.walk_mk]
    have hlt := y.lt pre M W hJ
    have heg := y.enters
    have HY := hide hY
    have HLT := hide hlt
    clear hlt
    clear hY
    go_enter Try.func106, Try.ntmps106
    go_wp2_with fail
    refine HY.out.mono ?_
    rintro e W2 ⟨M2, frM2, hsub2, ⟨rfl, hJ2⟩ | ⟨rfl, hJx2⟩⟩
    · have hM0 : ¬ M W.heap.size := fun h => by have := HLT.out _ h; omega
      have hM20 : ¬ M2 W.heap.size := fun h => hM0 (hsub2 _ h (by simp))
      have hst : WInv J (pre ++ (p, (T.mk k n s A1 cap1 l r).v) :: walkL (((l.map T.v).map V.walk).take 0) 0 p) M W #[.int .u8 k, .int .i64 n, .string s, .slice A1 l.length cap1, .int .i64 r] W2 :=
        ⟨(fr1.no (S := M)).trans frM2, hK.fr frM2 hM0, M2, by simpa [walkL] using hJ2, fun i h1 h2 => hsub2 i h1 (by simp; omega), hM20⟩
      have HST := hide hst
      obtain ⟨c0, c1, c2, c3, c4, cf⟩ := hst.box.cells5
      have hlen := (T.in_mk.1 ht).1.len1
      have q0 := hst.box.lt
      have HWK := hide hwk
      have HTT := hide ht
      clear hst hM20 hK hJ2 frM2 hsub2 fr1 hJ hwk ht
      go_wp2_with fail
      go_loopw [17] (fun i wr => ∃ j : Nat, j ≤ l.length ∧ i = .int .i64 j ∧ WInv J (pre ++ (p, (T.mk k n s A1 cap1 l r).v) :: walkL (((l.map T.v).map V.walk).take j) 0 p) M W #[.int .u8 k, .int .i64 n, .string s, .slice A1 l.length cap1, .int .i64 r] wr) (fun i _ => l.length - (intOf i).toNat)
      case atStart => exact ⟨0, Nat.zero_le _, rfl, HST.out⟩
      case round =>
        obtain ⟨j, hj, rfl, inv⟩ := hrel
        by_cases hlt : j < l.length
        · obtain ⟨fr, hb, M1, hJ1, hs1, hn1⟩ := inv
          obtain ⟨b, o, k1, n1, s1, A2, cap2, l1, r1, rfl, hb0, hb1, hx, hin, e0, e1, e2, e3, e4⟩ := T.elem (HTT.out.fr fr hh hM) hlt
          have hsz := fr.size
          have g0 : b < wr.heap.size := by omega
          have hlt1 := y.lt _ _ _ hJ1
          have hch : (T.mk k1 n1 s1 A2 cap2 l1 r1).v.ht + 1 ≤ (T.mk k n s (some ⟨b, o, none⟩) cap1 l r).v.ht := by
            rw [← hx, T.v_mk k n s]; exact ht_child (List.mem_map_of_mem (List.getElem_mem hlt))
          have hpl : p.length + 1 ≤ 1000 := by omega
          have hNN : (pre ++ (p, (T.mk k n s (some ⟨b, o, none⟩) cap1 l r).v) :: walkL (((l.map T.v).map V.walk).take j) 0 p).length + (T.mk k1 n1 s1 A2 cap2 l1 r1).v.size ≤ N := by
            have h1 : (walkL (((l.map T.v).map V.walk).take j) 0 p).length = (((l.map T.v).take j).map V.size).sum := by
              rw [← List.map_take]; exact walkL_length _ 0 p fun v _ => walk_length v
            have h2 := sum_take_succ ((l.map T.v).map V.size) j (by simpa using hlt)
            have h3 := sum_take_le ((l.map T.v).map V.size) (j + 1)
            rw [List.getElem_map, List.getElem_map, hx] at h2
            rw [List.map_take] at h1
            rw [T.v_mk k n s, V.size_mk] at hN
            rw [List.length_append, List.length_cons, h1]
            omega
          have hcapp := hp.cap
          have fr3 := (Fr.refl No wr).alloc (.cells #[.int .u8 k1, .int .i64 n1, .string s1, .slice A2 l1.length cap2, .int .i64 r1] 27)
          have hPW : ∀ w', Fr No (wr.alloc (.cells #[.int .u8 k1, .int .i64 n1, .string s1, .slice A2 l1.length cap2, .int .i64 r1] 27)) w' → Ints w' lo' hi' A p.length p := fun w' f => by
            have h := hp.fr (fr.thenNo (fr3.trans f)) hh' hM'
            exact ⟨h.len, Nat.le_refl _, h.at_, h.rng⟩
          have hnone : A = none → p.length = 0 ∧ p.length = 0 := fun hA => by
            rcases List.eq_nil_or_concat p with rfl | ⟨p', x, rfl⟩
            · simp
            · obtain ⟨b', o', h, _⟩ := hp.at_ (by simp)
              rw [hA] at h; cases h
          have hrec : ∀ (w4 : World) (g4 cap4 : Nat), Fr No (wr.alloc (.cells #[.int .u8 k1, .int .i64 n1, .string s1, .slice A2 l1.length cap2, .int .i64 r1] 27)) w4 → Ints w4 g4 (g4 + 1) (some ⟨g4, 0, none⟩) cap4 (p ++ [(j : Int)]) → wr.heap.size ≤ g4 → g4 < w4.heap.size →
              Calls Try.prog 106 #[.agg #[.int .u8 k1, .int .i64 n1, .string s1, .slice A2 l1.length cap2, .int .i64 r1], .slice (some ⟨g4, 0, none⟩) (p.length + 1) cap4, .func (.func f) #[] cp] w4 fun e w5 => ∃ q : Bool, e = .returned (.bool q) ∧
                WalkB J Jx (pre ++ (p, (T.mk k n s (some ⟨b, o, none⟩) cap1 l r).v) :: walkL (((l.map T.v).map V.walk).take j) 0 p) M1 ((T.mk k1 n1 s1 A2 cap2 l1 r1).v.walk (p ++ [(j : Int)])) w4 q w5 := by
            intro w4 g4 cap4 f4 hi4 h0 h1
            have f04 := fr3.trans f4
            have h := ih l[j] (List.getElem_mem hlt) (pre ++ (p, (T.mk k n s (some ⟨b, o, none⟩) cap1 l r).v) :: walkL (((l.map T.v).map V.walk).take j) 0 p) M1 w4 lo hi (some ⟨g4, 0, none⟩) cap4 (p ++ [(j : Int)]) g4 (g4 + 1) (y.no hJ1 f04)
              (by rw [hx]; exact hin.no f04 (by omega)) (by have := f04.size; omega) (fun i q0 q1 q2 => hM i q0 q1 (hs1 i q2 (by omega))) hi4 (by omega) (fun i q0 q1 q2 => by have := hlt1 i q2; omega) (by rw [List.length_append, hx]; simp; omega) (by rw [hx]; exact hNN)
            rw [hx, T.val_mk, List.length_append] at h
            exact h.mono fun e w5 hw => hw.bool
          have hbx := Blk.new wr 27 #[.int .u8 k1, .int .i64 n1, .string s1, .slice A2 l1.length cap2, .int .i64 r1]
          obtain ⟨i0, hi0, hz0, hz1, hz2⟩ := info_parts int_info
          have hrng : ∀ x ∈ p ++ [(j : Int)], -9223372036854775808 ≤ x ∧ x ≤ 9223372036854775807 := fun x hx => by
            rcases List.mem_append.1 hx with hx | hx
            · exact hp.rng x hx
            · simp at hx; omega
          have HREC := hide hrec
          have HPW := hide hPW
          have HBX := hide hbx
          have HNONE := hide hnone
          have HFR := hide fr
          have HB := hide hb
          have HS1 := hide hs1
          have HN1 := hide hn1
          have HF3 := hide fr3
          have HRNG := hide hrng
          have HX := hide hx
          have HLT1 := hide (fun h => by have := hlt1 wr.heap.size h; omega : ¬ M1 wr.heap.size)
          have hcl := fun w' => Clip_any A p.length cap hcapp (by omega) w'
          clear hrec hPW hbx hnone fr hb hs1 hn1 fr3 hin hx hJ1 hlt1 ih hch hrng
          go_wp2_with fail
          go_region_held3 (fun w' => w'.cell? ⟨wr.heap.size, 0, none⟩ = some (.int .u8 k1) ∧ w'.cell? ⟨wr.heap.size, 1, none⟩ = some (.int .i64 n1) ∧ w'.cell? ⟨wr.heap.size, 2, none⟩ = some (.string s1) ∧ w'.cell? ⟨wr.heap.size, 3, none⟩ = some (.slice A2 l1.length cap2) ∧ w'.cell? ⟨wr.heap.size, 4, none⟩ = some (.int .i64 r1))
            (first | with_reducible exact blk5 (Blk.drew HBX.out) | with_reducible exact blk5 (Blk.drew (Blk.alloc HBX.out _)) | with_reducible exact HS5.out | with_reducible exact HS4.out)
            (first
              | ((refine step_append_grows rfl _ _ _ (by rfl) 3 i0 _ 1 8 Try.underlying77 hi0 hz0 hz1 hz2 rfl (by omega) A p.length p.length (p.map fun x => Value.int .i64 x) (by rfl) HNONE.out (by simp) (Ints.old (HPW.out _ (by repeat (first | with_reducible exact Fr.refl No _ | with_reducible refine Fr.drew ?_ | with_reducible refine Fr.alloc ?_ _)))) ⟨wr.heap.size + 1, 0, none⟩ 1 1 [.int .i64 (j : Int)] (by rfl) (by rfl) (World.news_of_block (Blk.new' _ 3 #[.int .i64 (j : Int)] (by simp))) (by simp [Value.oneCell']) (by omega) (by unfold maxLen; omega) (by omega) ?_); intro v4 w4 hown hgrow; obtain ⟨g4, cap4, rfl, hg0, hg1⟩ := hown.form (by omega); have FR4 := hide (grown_no (W := wr.alloc (.cells #[.int .u8 k1, .int .i64 n1, .string s1, .slice A2 l1.length cap2, .int .i64 r1] 27)) (by repeat (first | with_reducible exact Fr.refl No _ | with_reducible refine Fr.drew ?_ | with_reducible refine Fr.alloc ?_ _)) hgrow); have INT4 := hide (ints_of_owns (p := p ++ [(j : Int)]) (by simpa using hown) (by simp; omega) HRNG.out); have hg0' : wr.heap.size ≤ g4 := (by simp at hg0; omega); have HG0 := hide hg0'; have HS4 := hide (blk5 (Blk.fr HBX.out FR4.out fun h => h)); clear hown hgrow hg0 hg0')
              | (go_at_call 106; ((with_reducible refine (HREC.out w4 g4 cap4 FR4.out INT4.out HG0.out hg1).mono ?_); rintro e w5 ⟨q, rfl, hq⟩; have HW := hide (winv_step HFR.out HB.out HS1.out HN1.out (HF3.out.trans FR4.out) hq); have HS5 := hide (blk5 (walkb_box hq (Blk.fr HBX.out FR4.out fun h => h) HLT1.out)); clear hq))
              | (go_at_call 137; (with_reducible refine (hcl _).mono ?_); rintro e wc ⟨rfl, rfl⟩))
          all_goals
            have hW := HW.out
            cases q with
            | true =>
              have HW2 := hide (hW.1 rfl)
              clear hW
              go_wp2
              go_roundw
              case rel =>
                refine ⟨j + 1, hlt, by go_num, ?_⟩
                have h := HW2.out
                have hx' := HX.out
                rw [walkL_take _ _ (by simpa using hlt), ← List.cons_append, ← List.append_assoc, List.getElem_map, List.getElem_map, hx']
                exact h
              case measure => simp [intOf]; omega
            | false =>
              have hpost : WalkP J Jx pre M ((T.mk k n s (some ⟨b, o, none⟩) cap1 l r).v.walk p) W (.returned (.bool false)) w5 := by
                obtain ⟨M', f, hs, q', hp', hx2⟩ := hW.2 rfl
                have hx' := HX.out
                refine ⟨M', f, hs, .inr ⟨rfl, (p, (T.mk k n s (some ⟨b, o, none⟩) cap1 l r).v) :: (walkL (((l.map T.v).map V.walk).take j) 0 p ++ q'), ?_, by simpa using hx2⟩⟩
                refine prefix_cons (b := (T.mk k1 n1 s1 A2 cap2 l1 r1).v.walk (p ++ [(j : Int)])) (c := walkL (((l.map T.v).map V.walk).drop (j + 1)) (0 + (((l.map T.v).map V.walk).take (j + 1)).length) p) ?_ hp'
                rw [HWK.out]
                congr 1
                have h1 := walkL_take ((l.map T.v).map V.walk) p (j := j) (by simpa using hlt)
                rw [List.getElem_map, List.getElem_map, hx'] at h1
                rw [← List.append_assoc, ← h1, ← walkL_append, List.take_append_drop]
              have HP := hide hpost
              clear hpost hW
              go_wp2
              go_ret
              exact HP.out
        · obtain rfl : j = l.length := by omega
          have hpost : WalkP J Jx pre M ((T.mk k n s A1 cap1 l r).v.walk p) W (.returned (.bool true)) wr := by
            obtain ⟨fr, hb, M1, hJ1, hs1, _⟩ := inv
            rw [List.take_of_length_le (by simp)] at hJ1
            exact ⟨M1, fr, hs1, .inl ⟨rfl, by rw [HWK.out]; exact hJ1⟩⟩
          have HP := hide hpost
          clear hpost inv ih
          go_wp2
          go_ret
          exact HP.out
    · have hpost : WalkP J Jx pre M ((T.mk k n s A1 cap1 l r).v.walk p) W (.returned (.bool false)) W2 :=
        ⟨M2, (fr1.no (S := M)).trans frM2, fun i h1 h2 => hsub2 i h1 (by simp; omega), .inr ⟨rfl, [(p, (T.mk k n s A1 cap1 l r).v)], ⟨walkL ((l.map T.v).map V.walk) 0 p, by rw [hwk]; rfl⟩, hJx2⟩⟩
      have HP := hide hpost
      clear hpost hJx2 frM2 hsub2 ih hwk
      go_wp2
      go_ret
      exact HP.out

end Go.Proofs.Ytihjmipmjogpoaa

/- Chapter 2: Refs. -/
namespace Go.Proofs.Ytihjmipmjogpoaa
open Go.RowKit

/-- The references among some parts. -/
def refsOf : List (List Int × V) → List Int
  | [] => []
  | (_, .mk k _ _ _ r) :: l => if k = 4 then r :: refsOf l else refsOf l

theorem refsOf_append (a b : List (List Int × V)) : refsOf (a ++ b) = refsOf a ++ refsOf b := by
  induction a with
  | nil => rfl
  | cons x a ih =>
    obtain ⟨p, k, n, s, l, r⟩ := x
    simp only [List.cons_append, refsOf]
    split <;> simp [ih]

theorem refsOf_length (a : List (List Int × V)) : (refsOf a).length ≤ a.length := by
  induction a with
  | nil => simp [refsOf]
  | cons x a ih =>
    obtain ⟨p, k, n, s, l, r⟩ := x
    simp only [refsOf]
    split <;> simp <;> omega

theorem ref_info : (Try.prog.info? 25).map (fun i => (i.zero, i.size, i.bytes)) = some (some (.int .i64 0), 1, 8) := by kernel_rfl

/-- What has been collected. -/
def RefsJ (g base : Nat) (pre : List (List Int × V)) (M : Nat → Prop) (W : World) : Prop :=
  g < base ∧ base ≤ W.heap.size ∧ ∃ v, Blk W g 100 #[v] ∧ W.ownsRow base 25 1 v (refsOf pre).length ((refsOf pre).map fun r => Value.int .i64 r) ∧ ∀ i, M i ↔ (i = g ∨ v.ownBlock = some i)

theorem refs_stay {g base : Nat} {pre : List (List Int × V)} {M : Nat → Prop} {W W' : World} {S : Nat → Prop} (h : RefsJ g base pre M W) (hf : Fr S W W') (hs : ∀ i, i < W.heap.size → S i → ¬ M i) : RefsJ g base pre M W' := by
  obtain ⟨h0, h1, v, hb, ho, hM⟩ := h
  exact ⟨h0, Nat.le_trans h1 hf.size, v, hb.fr hf (fun h => hs g hb.lt h ((hM g).2 (.inl rfl))), owns_fr ho hf (fun i hi h => hs i (owns_lt ho i hi).2 h ((hM i).2 (.inr hi))), hM⟩

set_option maxRecDepth 100000 in
set_option maxHeartbeats 2000000 in
theorem refs1_any (g base : Nat) (pre : List (List Int × V)) (M : Nat → Prop) (W : World) (x : T) (A : Option Addr) (n cap : Nat) (p : List Int) (hJ : RefsJ g base pre M W) (hp : pre.length < 1000000) :
    Calls Try.prog 121 #[.slice A n cap, x.val, .pointer (some ⟨g, 0, none⟩)] W fun e W' => e = .returned (.bool true) ∧ ∃ M' : Nat → Prop, Fr M W W' ∧ (∀ i, M' i → i < W.heap.size → M i) ∧ RefsJ g base (pre ++ [(p, x.v)]) M' W' := by
  obtain ⟨h0, h1, v, hb, ho, hM⟩ := hJ
  have hlen := refsOf_length pre
  cases x with
  | mk k nn s A1 cap1 l r =>
    rw [T.val_mk]
    have fr1 := (Fr.refl No W).alloc (.cells #[.int .u8 k, .int .i64 nn, .string s, .slice A1 l.length cap1, .int .i64 r] 27)
    have hb1 := hb.alloc (.cells #[.int .u8 k, .int .i64 nn, .string s, .slice A1 l.length cap1, .int .i64 r] 27)
    have hbx := Blk.new W 27 #[.int .u8 k, .int .i64 nn, .string s, .slice A1 l.length cap1, .int .i64 r]
    have ho1 := ho.alloc (.cells #[.int .u8 k, .int .i64 nn, .string s, .slice A1 l.length cap1, .int .i64 r] 27)
    have q0 := hb.lt
    by_cases hk : k = 4
    · subst hk
      have hr : refsOf (pre ++ [(p, (T.mk 4 nn s A1 cap1 l r).v)]) = refsOf pre ++ [r] := by rw [refsOf_append, T.v_mk]; rfl
      obtain ⟨i0, hi0, hz0, hz1, hz2⟩ := info_parts ref_info
      have hol := owns_lt ho
      have HR := hide hr
      have HOL := hide hol
      have HM := hide hM
      have HO := hide ho1
      have HB := hide hb
      have HF := hide fr1
      have c0 := hb1.cell 0
      have f0 := hb1.frozen 0
      simp only [List.getElem?_toArray, List.getElem?_cons_zero] at c0
      obtain ⟨x0, x1, x2, x3, x4, xf⟩ := hbx.cells5
      have q1 := hbx.lt
      have q2 := hb1.lt
      generalize hL : refsOf pre = L at *
      have HL := hide hL
      have hownA := ho1.alloc (.cells #[.int .i64 r] 25)
      have hBW : ∀ w1, ((W.alloc (.cells #[.int .u8 4, .int .i64 nn, .string s, .slice A1 l.length cap1, .int .i64 r] 27)).alloc (.cells #[.int .i64 r] 25)).grownBy w1 v.ownBlock → Blk w1 g 100 #[v] := fun w1 hg =>
        (hg.block g (by simp; omega) (fun h => by have := hol g h.symm; omega)).trans (hb1.alloc (.cells #[.int .i64 r] 25))
      have HBW := hide hBW
      clear hr hol hM ho1 hb fr1 hb1 hbx ho hL hBW
      go_enter Try.func121, Try.ntmps121
      go_wp2_with (at_builtin; refine wpList_append_lies _ (by rfl) _ _ _ (by rfl) base 25 i0 _ 1 8 Try.underlying100 hi0 hz0 hz1 hz2 (by rfl) (by omega) v L.length (L.map fun r => Value.int .i64 r) (by rfl) hownA ⟨W.heap.size + 1, 0, none⟩ 1 1 [.int .i64 r] (by rfl) (by rfl) (World.news_of_block (Blk.new' _ 25 #[.int .i64 r] (by simp))) (by simp [Value.oneCell']) (by omega) (by unfold maxLen; omega) (by omega) (by simp; omega) (W.heap.size + 1 + 1) (by simp) ?_; intro g2 cap2 w1 hown1 hgrow hat hlt1; have hbw := HBW.out w1 hgrow; have c1 := hbw.cell 0; have f1 := hbw.frozen 0; have q5 := hbw.lt; have HBW1 := hide hbw; simp only [List.getElem?_toArray, List.getElem?_cons_zero] at c1; clear hbw)
      go_ret
      have fA : Fr M W ((W.alloc (.cells #[.int .u8 4, .int .i64 nn, .string s, .slice A1 l.length cap1, .int .i64 r] 27)).alloc (.cells #[.int .i64 r] 25)) := (HF.out.alloc _).no
      have fB : Fr M W w1 := fA.grown hgrow fun i hi hlt => (HM.out i).2 (.inr hi)
      have fC : Fr M W (w1.setCell ⟨g, 0, none⟩ (.slice (some ⟨g2, 0, none⟩) (L.length + 1) cap2)) := fB.set (fun _ => (HM.out g).2 (.inl rfl)) _
      have hg2 : base ≤ g2 := (owns_lt hown1 g2 rfl).1
      refine ⟨rfl, fun i => i = g ∨ i = g2, fC, fun i hi hlt => ?_, h0, Nat.le_trans h1 fC.size, .slice (some ⟨g2, 0, none⟩) (L.length + 1) cap2, HBW1.out.set_ 0 _, ?_, fun i => ?_⟩
      · rcases hi with rfl | rfl
        · exact (HM.out _).2 (.inl rfl)
        · rcases hat with h | h
          · exact (HM.out _).2 (.inr h)
          · omega
      · rw [HR.out, List.length_append, List.map_append]
        exact owns_fr hown1 ((Fr.refl (fun i => i = g) w1).set (fun _ => rfl) _) (fun i hi h => by simp [Value.ownBlock] at hi; have h' : i = g := h; omega)
      · simp [Value.ownBlock, eq_comm]
    · have hk' : (k == 4) = false := by simpa using hk
      have hr : refsOf (pre ++ [(p, (T.mk k nn s A1 cap1 l r).v)]) = refsOf pre := by rw [refsOf_append, T.v_mk]; simp [refsOf, hk]
      have hpost : ∃ M' : Nat → Prop, Fr M W (W.alloc (.cells #[.int .u8 k, .int .i64 nn, .string s, .slice A1 l.length cap1, .int .i64 r] 27)) ∧ (∀ i, M' i → i < W.heap.size → M i) ∧ RefsJ g base (pre ++ [(p, (T.mk k nn s A1 cap1 l r).v)]) M' (W.alloc (.cells #[.int .u8 k, .int .i64 nn, .string s, .slice A1 l.length cap1, .int .i64 r] 27)) := by
        refine ⟨M, fr1.no, fun i h _ => h, h0, Nat.le_trans h1 fr1.size, v, hb1, ?_, hM⟩
        rw [hr]; exact ho1
      have HP := hide hpost
      clear hpost hr hb hb1 hbx ho ho1 hM fr1
      go_enter Try.func121, Try.ntmps121
      go_wp2
      go_ret
      exact ⟨rfl, HP.out⟩

theorem enters_fn2 {P : Program} {f : FuncId} {fn : Func} {c : Code} (hf : P.funcs[f]? = some fn) (hname : (fn.name == "runtime.NumGoroutine") = false) (hb : fn.body = some c) : ∀ args w, (callFunc f args).run P w = .ok (.enter f args) w := by
  intro args w
  have h1 : fn.name ≠ "runtime.NumGoroutine" := by simpa using hname
  simp [callFunc, hf, h1, hb, mark]

theorem refs_yields (g base : Nat) : Yields 1000000 121 #[.pointer (some ⟨g, 0, none⟩)] (RefsJ g base) (fun _ _ _ => False) where
  enters := enters_fn2 Try.func121 (by kernel_rfl) rfl
  call := fun pre M W x lo hi A cap p lo' hi' hl hJ _ _ _ _ _ _ => (refs1_any g base pre M W x A p.length cap p hJ hl).mono fun e W' ⟨he, M', h1, h2, h3⟩ => ⟨M', h1, h2, .inl ⟨he, h3⟩⟩
  stay := fun pre M W W' S h hf hs => refs_stay h hf hs
  lt := fun pre M W h i hi => by
    obtain ⟨h0, h1, v, hb, ho, hM⟩ := h
    rcases (hM i).1 hi with rfl | h
    · exact hb.lt
    · exact (owns_lt ho i h).2

/-- The references of a value, in the order of the walk. -/
def V.refs (v : V) : List Int := if v.may = true then refsOf (v.walk []) else []

def RefsP (L : List Int) (w : World) (e : Ending) (w' : World) : Prop := ∃ v, e = .returned v ∧ w'.ownsRow w.heap.size 25 1 v L.length (L.map fun r => Value.int .i64 r) ∧ Fr No w w'

theorem ints_nil (w : World) : Ints w 0 0 none 0 [] := ⟨by simp, Nat.le_refl _, fun h => absurd rfl h, by simp⟩

set_option maxRecDepth 100000 in
set_option maxHeartbeats 4000000 in
theorem Refs_any (t : T) (w : World) (lo hi : Nat) (ht : t.In w lo hi) (hh : hi ≤ w.heap.size) : Calls Try.prog 59 #[t.val] w (RefsP t.v.refs w) := by
  have hM := fun w' h h' => may_any t w' lo hi h h'
  have hW := fun pre M W hJ h h' h2 h3 => walk_any (refs_yields (w.heap.size + 1) (w.heap.size + 1 + 1)) t pre M W lo hi none 0 [] 0 0 hJ h h' h2 (ints_nil W) (Nat.zero_le _) (fun i h0 h1 => by omega) h3
  have hst : RefsJ (w.heap.size + 1) (w.heap.size + 1 + 1) [] (fun i => i = w.heap.size + 1) ((w.alloc (.cells #[.int .u8 0] 27)).alloc (.cells #[.slice none 0 0] 100)) := ⟨by omega, by simp, .slice none 0 0, Blk.new' (w.alloc _) 100 _ (by simp), World.ownsRow_nil _ _ _ _, fun i => by simp [Value.ownBlock]⟩
  clear hst
  cases t with
  | mk k n s A cap l r =>
    rw [T.val_mk] at *
    have hst : RefsJ (w.heap.size + 1) (w.heap.size + 1 + 1) [] (fun i => i = w.heap.size + 1) ((w.alloc (.cells #[.int .u8 k, .int .i64 n, .string s, .slice A l.length cap, .int .i64 r] 27)).alloc (.cells #[.slice none 0 0] 100)) := ⟨by omega, by simp, .slice none 0 0, Blk.new' (w.alloc _) 100 _ (by simp), World.ownsRow_nil _ _ _ _, fun i => by simp [Value.ownBlock]⟩
    have fr1 : Fr No w ((w.alloc (.cells #[.int .u8 k, .int .i64 n, .string s, .slice A l.length cap, .int .i64 r] 27)).alloc (.cells #[.slice none 0 0] 100)) := ((Fr.refl No w).alloc _).alloc _
    have hK : Blk ((w.alloc (.cells #[.int .u8 k, .int .i64 n, .string s, .slice A l.length cap, .int .i64 r] 27)).alloc (.cells #[.slice none 0 0] 100)) w.heap.size 27 #[.int .u8 k, .int .i64 n, .string s, .slice A l.length cap, .int .i64 r] := (Blk.new' w 27 _ rfl).alloc _
    have hs1 : w.heap.size + 1 + 1 ≤ ((w.alloc (.cells #[.int .u8 k, .int .i64 n, .string s, .slice A l.length cap, .int .i64 r] 27)).alloc (.cells #[.slice none 0 0] 100)).heap.size := by simp
    have ht1 := ht.no fr1 hh
    generalize hu : (T.mk k n s A cap l r).v = u at *
    have HU := hide hu
    clear hu ht
    cases hm : u.may with
    | false =>
      have e1 : u.refs = [] := by simp [V.refs, hm]
      rw [e1]
      rw [hm] at hM
      clear hm e1 hW
      go_enter Try.func59, Try.ntmps59
      go_wp2_with fail
      generalize World.alloc _ (.cells #[.slice none 0 0] 100) = W0 at *
      refine (hM _ ht1 (by omega)).mono ?_
      rintro e w2 ⟨rfl, fr2⟩
      obtain ⟨h0, h1, v, hb, ho, hMM⟩ := refs_stay hst fr2 (fun _ _ h => h.elim)
      have c0 := hb.cell 0
      simp only [List.getElem?_toArray, List.getElem?_cons_zero] at c0
      have q0 := hb.lt
      have HO := hide ho
      have HF := hide (fr1.trans fr2)
      clear hst hK hM hb ho hMM fr1 fr2
      go_wp2
      go_ret
      refine ⟨v, rfl, ?_, HF.out⟩
      have h := HO.out
      exact ⟨h.1, h.2.imp id fun ⟨g, cp, cur, a, b, c⟩ => ⟨g, cp, cur, a, by omega, c⟩⟩
    | true =>
      have e1 : u.refs = refsOf (u.walk []) := by simp [V.refs, hm]
      have hsz : u.size ≤ 512 := by simp [V.may, V.fits] at hm; omega
      have hht : u.ht ≤ 16 := by
        have := ht_le_dep u (may_ok hm)
        simp [V.may, V.fits] at hm; omega
      rw [e1]
      rw [hm] at hM
      clear hm e1
      go_enter Try.func59, Try.ntmps59
      go_wp2_with fail
      generalize World.alloc _ (.cells #[.slice none 0 0] 100) = W0 at *
      refine (hM _ ht1 (by omega)).mono ?_
      rintro e w2 ⟨rfl, fr2⟩
      have hst2 := refs_stay hst fr2 (fun _ _ h => h.elim)
      obtain ⟨k0, k1, k2, k3, k4, -⟩ := (hK.fr fr2 fun h => h).cells5
      have q1 := (hK.fr fr2 fun h => h).lt
      have hs2 := fr2.size
      have hw := hW [] _ w2 hst2 (ht1.no fr2 (by omega)) (by omega) (fun i h0 h1 h2 => by have h' : i = w.heap.size + 1 := h2; omega) (by simp; omega) (by simp; omega)
      have HW := hide hw
      have HF := hide (fr1.trans fr2)
      clear hst hst2 hK hM hW hw fr1 fr2
      go_wp2_with fail
      refine HW.out.mono ?_
      rintro e w3 hq
      obtain ⟨M', f3, hs3, rfl, hJ⟩ : ∃ M' : Nat → Prop, Fr (fun i => i = w.heap.size + 1) w2 w3 ∧ (∀ i, M' i → i < w2.heap.size → i = w.heap.size + 1) ∧ e = .returned (.bool true) ∧ RefsJ (w.heap.size + 1) (w.heap.size + 1 + 1) (u.walk []) M' w3 := by
        obtain ⟨M', h1, h2, ⟨h3, h4⟩ | ⟨_, q, _, h⟩⟩ := hq
        · exact ⟨M', h1, h2, h3, by simpa using h4⟩
        · exact h.elim
      obtain ⟨h0, h1, v, hb, ho, hMM⟩ := hJ
      have c0 := hb.cell 0
      simp only [List.getElem?_toArray, List.getElem?_cons_zero] at c0
      have q0 := hb.lt
      have HO := hide ho
      have HF3 := hide (HF.out.trans' f3 (fun i hi h => by have h' : i = w.heap.size + 1 := h; omega))
      clear hb ho hMM f3 hs3 hq k0 k1 k2 k3 k4
      go_wp2
      go_ret
      refine ⟨v, rfl, ?_, HF3.out⟩
      have h := HO.out
      exact ⟨h.1, h.2.imp id fun ⟨g, cp, cur, a, b, c⟩ => ⟨g, cp, cur, a, by omega, c⟩⟩

end Go.Proofs.Ytihjmipmjogpoaa

/- Chapter 2: Bytes. -/
namespace Go.Proofs.Ytihjmipmjogpoaa
open Go.RowKit

/-- The cells of a row that the call owns. -/
theorem owns_cells {α : Type} {f : α → Value} {w : World} {base : Nat} {e : TypeId} {A : Option Addr} {cap : Nat} {L : List α} (h : w.ownsRow base e 1 (.slice A L.length cap) L.length (L.map f)) (hne : 0 < L.length) :
    ∃ g, A = some ⟨g, 0, none⟩ ∧ g < w.heap.size ∧ ∀ i x, L[i]? = some x → w.cell? ⟨g, i, none⟩ = some (f x) := by
  rcases h.2 with ⟨_, h0⟩ | ⟨g, cap', cur, hs, hb, hg, hc, hm, hsz, hx⟩
  · omega
  · simp at hs
    obtain ⟨rfl, rfl⟩ := hs
    refine ⟨g, rfl, ?_, fun i x hi => ?_⟩
    · rcases Nat.lt_or_ge g w.heap.size with hlt | hge
      · exact hlt
      · rw [Array.getElem?_eq_none hge] at hg; cases hg
    · have hcell : w.cell? ⟨g, i, none⟩ = cur[i]? := cell_of_row w g _ cur e (0, 0) hg
      rw [hcell]
      have h1 : (L.map f)[i]? = some (f x) := by rw [List.getElem?_map, hi]; rfl
      rw [← hx, List.getElem?_take] at h1
      split at h1
      · simpa using h1
      · cases h1

theorem big1_any (r : Int) (w : World) : Calls Try.prog 112 #[.int .i64 r] w fun e w' => e = .returned (.bool (decide (4294967295 < r))) ∧ w' = w := by
  go_enter Try.func112, Try.ntmps112
  go_wp2
  go_ret
  exact ⟨rfl, rfl⟩

set_option maxRecDepth 100000 in
set_option maxHeartbeats 2000000 in
theorem index_any (A : Option Addr) (cap : Nat) (L : List Int) (base : Nat) (w : World) (hL : L.length ≤ 1000000) (h : w.ownsRow base 25 1 (.slice A L.length cap) L.length (L.map fun r => Value.int .i64 r)) :
    Calls Try.prog 138 #[.slice A L.length cap, .func (.func 112) #[] #[]] w fun e w' => (∃ z : Int, e = .returned (.int .i64 z) ∧ ((0 ≤ z ∧ ∃ r ∈ L, 4294967295 < r) ∨ (z = -1 ∧ ∀ r ∈ L, r ≤ 4294967295))) ∧ Fr No w w' := by
  have hB := big1_any
  go_enter Try.func138, Try.ntmps138
  go_wp2_with fail
  go_loopw [8] (fun i wr => ∃ j : Nat, j ≤ L.length ∧ i = .int .i64 j ∧ Fr No w wr ∧ ∀ r ∈ L.take j, r ≤ 4294967295) (fun i _ => L.length - (intOf i).toNat)
  case atStart => exact ⟨0, Nat.zero_le _, rfl, Fr.refl _ _, by simp⟩
  case round =>
    obtain ⟨j, hj, rfl, fr, hall⟩ := hrel
    have HA := hide hall
    clear hall
    by_cases hlt : j < L.length
    · obtain ⟨g, rfl, hg, hc⟩ := owns_cells (owns_fr h fr fun _ _ h => h) (by omega)
      have hcj := hc j L[j] (List.getElem?_eq_getElem hlt)
      have hmem := List.getElem_mem hlt
      have htk : L.take (j + 1) = L.take j ++ [L[j]] := List.take_succ_eq_append_getElem hlt
      generalize L[j] = x at *
      have HM := hide hmem
      have HT := hide htk
      have HF := hide fr
      clear hc hmem htk fr
      by_cases hx : 4294967295 < x
      · have hd : decide ((4294967295 : Int) < x) = true := by simpa using hx
        have hB1 := hB x wr
        rw [hd] at hB1
        clear hd hB h
        go_wp2_with fail
        refine hB1.mono ?_
        rintro e w' ⟨rfl, rfl⟩
        go_wp2
        go_ret
        exact ⟨⟨_, rfl, .inl ⟨by omega, x, HM.out, hx⟩⟩, HF.out⟩
      · have hd : decide ((4294967295 : Int) < x) = false := by simpa using hx
        have hB1 := hB x wr
        rw [hd] at hB1
        clear hd hB h
        go_wp2_with fail
        refine hB1.mono ?_
        rintro e w' ⟨rfl, rfl⟩
        go_wp2
        go_roundw
        case rel =>
          refine ⟨j + 1, hlt, by go_num, HF.out, fun r hr => ?_⟩
          rw [HT.out] at hr
          rcases List.mem_append.1 hr with hr | hr
          · exact HA.out r hr
          · simp at hr; subst hr; omega
        case measure => simp [intOf]; omega
    · obtain rfl : j = L.length := by omega
      have HF := hide fr
      clear fr h
      go_wp2
      go_ret
      exact ⟨⟨-1, rfl, .inr ⟨rfl, by simpa using HA.out⟩⟩, HF.out⟩

theorem contains_any (A : Option Addr) (cap : Nat) (L : List Int) (base : Nat) (w : World) (hL : L.length ≤ 1000000) (h : w.ownsRow base 25 1 (.slice A L.length cap) L.length (L.map fun r => Value.int .i64 r)) :
    Calls Try.prog 111 #[.slice A L.length cap, .func (.func 112) #[] #[]] w fun e w' => (∃ q : Bool, e = .returned (.bool q) ∧ (q = true ↔ ∃ r ∈ L, 4294967295 < r)) ∧ Fr No w w' := by
  have hI := index_any A cap L base w hL h
  clear h
  go_enter Try.func111, Try.ntmps111
  go_wp2_with fail
  refine hI.mono ?_
  rintro e w2 ⟨⟨z, rfl, hz⟩, fr2⟩
  rcases hz with ⟨h0, hr⟩ | ⟨rfl, hr⟩
  · have h1 : decide ((0 : Int) ≤ z) = true := by simpa using h0
    have HR := hide hr
    clear hr
    go_wp2
    go_ret
    exact ⟨⟨true, rfl, by simpa using HR.out⟩, fr2⟩
  · have HR := hide hr
    clear hr
    go_wp2
    go_ret
    refine ⟨⟨false, rfl, ?_⟩, fr2⟩
    simp
    exact fun r h => HR.out r h

/-- Whether a value has bytes. -/
def V.hasBytes (v : V) : Prop := v.may = true ∧ ∀ r ∈ v.refs, r ≤ 4294967295

/-- Its bytes, as a string. -/
def V.encS (v : V) : ByteArray := strOfNums (v.enc.map fun (x : Nat) => (x : Int))

def BytesP (v : V) (w : World) (e : Ending) (w' : World) : Prop :=
  Fr No w w' ∧ (v.hasBytes → e = .returned (.tuple #[.string v.encS, .int .i64 0])) ∧ (¬ v.hasBytes → e = .returned (.tuple #[.string ⟨#[]⟩, .int .i64 2]))

end Go.Proofs.Ytihjmipmjogpoaa

/- Chapter 2: the reader of bytes: what is made, what it takes. -/
namespace Go.Proofs.Ytihjmipmjogpoaa
open Go.RowKit

/-- A reader at r over the box at b: so many bytes ahead, so many parts and levels left. -/
structure Rdr (w : World) (b r : Nat) (s : ByteArray) (n d : Int) : Prop where
  box : Blk w b 9 #[.string s]
  st : Blk w r 162 #[.func (.func 141) #[] #[.pointer (some ⟨b, 0, none⟩)], .func (.func 142) #[] #[.pointer (some ⟨b, 0, none⟩)], .int .i64 n, .int .i64 d]

theorem Rdr.fr {w w' : World} {b r : Nat} {s : ByteArray} {n d : Int} {S : Nat → Prop} (h : Rdr w b r s n d) (f : Fr S w w') (hb : ¬ S b) (hr : ¬ S r) : Rdr w' b r s n d := ⟨h.box.fr f hb, h.st.fr f hr⟩

theorem Rdr.ne {w : World} {b r : Nat} {s : ByteArray} {n d : Int} (h : Rdr w b r s n d) : b ≠ r := h.box.ne_ h.st (by decide)

theorem rover_any (s : ByteArray) (w : World) : Calls Try.prog 115 #[.string s] w fun e w' => e = .returned (.pointer (some ⟨w.heap.size + 1, 0, none⟩)) ∧ Rdr w' w.heap.size (w.heap.size + 1) s 512 16 ∧ Fr No w w' := by
  have hb := Blk.new w 9 #[.string s]
  have hf := ((Fr.refl No w).alloc (.cells #[.string s] 9))
  go_enter Try.func115, Try.ntmps115
  go_wp2
  go_ret
  exact ⟨rfl, ⟨hb.alloc _, Blk.new' _ 162 _ (by simp)⟩, hf.alloc _⟩

/-- What a take leaves. -/
def RTakeP (b : Nat) (s : ByteArray) (n : Int) (w : World) (e : Ending) (w' : World) : Prop :=
  Fr (fun i => i = b) w w' ∧ ((s.size < n ∧ e = .returned (.tuple #[.string ⟨#[]⟩, .bool false]) ∧ Blk w' b 9 #[.string s]) ∨
    (n ≤ s.size ∧ e = .returned (.tuple #[.string (s.extract 0 n.toNat), .bool true]) ∧ Blk w' b 9 #[.string (s.extract n.toNat s.size)]))

theorem rtake_any (b : Nat) (s : ByteArray) (n : Int) (w : World) (h0 : 0 ≤ n) (h : Blk w b 9 #[.string s]) : Calls Try.prog 141 #[.int .i64 n, .pointer (some ⟨b, 0, none⟩)] w (RTakeP b s n w) := by
  have c0 := h.cell 0
  simp only [List.getElem?_toArray, List.getElem?_cons_zero] at c0
  have cf := h.frozen 0
  have q0 := h.lt
  have H := hide h
  by_cases hn : s.size < n
  · go_enter Try.func141, Try.ntmps141
    go_wp2
    go_ret2
    exact ⟨Fr.refl _ _, .inl ⟨hn, rfl, H.out⟩⟩
  · have hn' : n ≤ s.size := by omega
    go_enter Try.func141, Try.ntmps141
    go_wp2
    go_ret2
    exact ⟨(Fr.refl (fun i => i = b) w).set (p := ⟨b, 0, none⟩) (fun _ => rfl) _, .inr ⟨hn', rfl, H.out.set_ 0 _⟩⟩

theorem rrest_any (b : Nat) (s : ByteArray) (w : World) (h : Blk w b 9 #[.string s]) : Calls Try.prog 142 #[.pointer (some ⟨b, 0, none⟩)] w fun e w' => e = .returned (.string s) ∧ w' = w := by
  have c0 := h.cell 0
  simp only [List.getElem?_toArray, List.getElem?_cons_zero] at c0
  go_enter Try.func142, Try.ntmps142
  go_wp2
  go_ret
  exact ⟨rfl, rfl⟩

end Go.Proofs.Ytihjmipmjogpoaa

/- Chapter 2: the reader's numbers. -/
namespace Go.Proofs.Ytihjmipmjogpoaa
open Go.RowKit

/-- The number of a row of bytes, the highest first. -/
def bigN (l : List Nat) : Nat := l.foldl (fun a x => a * 256 + x) 0

theorem bigN_snoc (l : List Nat) (x : Nat) : bigN (l ++ [x]) = bigN l * 256 + x := by simp [bigN]

theorem bigN_lt (l : List Nat) (h : ∀ x ∈ l, x < 256) : bigN l < 256 ^ l.length := by
  suffices h' : ∀ a : Nat, l.foldl (fun a x => a * 256 + x) a < (a + 1) * 256 ^ l.length by simpa [bigN] using h' 0
  induction l with
  | nil => intro a; simp
  | cons x l ih =>
    intro a
    have h1 := ih (fun y hy => h y (by simp [hy])) (a * 256 + x)
    have h2 := h x (by simp)
    simp only [List.foldl_cons, List.length_cons, Nat.pow_succ]
    have h3 : (a * 256 + x + 1) * 256 ^ l.length ≤ ((a + 1) * 256) * 256 ^ l.length := Nat.mul_le_mul_right _ (by omega)
    have h4 : (a + 1) * 256 * 256 ^ l.length = (a + 1) * (256 ^ l.length * 256) := by rw [Nat.mul_assoc, Nat.mul_comm 256]
    omega

theorem strB_lt (s : ByteArray) : ∀ x ∈ strB s, x < 256 := by
  intro x hx
  simp only [strB, List.mem_map] at hx
  obtain ⟨y, -, rfl⟩ := hx
  exact y.toNat_lt

theorem or_shift (a x : Nat) (ha : a < 72057594037927936) (hx : x < 256) : bits .or .u64 ((a : Int) * 256) (x : Int) = (a : Int) * 256 + (x : Int) := by
  have e1 : BitVec.ofInt 64 ((a : Int) * 256) = BitVec.ofNat 64 (a * 256) := by
    rw [show ((a : Int) * 256) = ((a * 256 : Nat) : Int) by omega, BitVec.ofInt_natCast]
  have e2 : (BitVec.ofInt 64 ((a : Int) * 256) ||| BitVec.ofInt 64 (x : Int)).toNat = a * 256 + x := by
    rw [e1, BitVec.ofInt_natCast, BitVec.toNat_or, BitVec.toNat_ofNat, BitVec.toNat_ofNat, Nat.mod_eq_of_lt (by omega), Nat.mod_eq_of_lt (by omega)]
    have h := Nat.two_pow_add_eq_or_of_lt (i := 8) (b := x) hx a
    rw [show a * 256 = 2 ^ 8 * a by omega]
    exact h.symm
  show IntKind.u64.wrap ((BitVec.ofInt 64 ((a : Int) * 256) ||| BitVec.ofInt 64 (x : Int)).toNat : Int) = _
  rw [e2, IntKind.wrap_u64]
  omega

def NumP (b r : Nat) (s : ByteArray) (n d : Int) (len : Nat) (w : World) (e : Ending) (w' : World) : Prop :=
  Fr (fun i => i = b) w w' ∧ ∃ (ok : Bool) (x : Nat) (s' : ByteArray), e = .returned (.tuple #[.int .u64 (x : Int), .bool ok]) ∧ Rdr w' b r s' n d ∧
    ((ok = false ∧ x = 0 ∧ s.size < len ∧ s' = s) ∨ (ok = true ∧ len ≤ s.size ∧ x = bigN (strB (s.extract 0 len)) ∧ s' = s.extract len s.size))

set_option maxRecDepth 100000 in
set_option maxHeartbeats 4000000 in
theorem number_any (b r : Nat) (s : ByteArray) (n d : Int) (len : Nat) (w : World) (hlen : len ≤ 8) (h : Rdr w b r s n d) : Calls Try.prog 143 #[.pointer (some ⟨r, 0, none⟩), .int .i64 (len : Int)] w (NumP b r s n d len w) := by
  have c0 := h.st.cell 0
  simp only [List.getElem?_toArray, List.getElem?_cons_zero] at c0
  have cf := h.st.frozen 0
  have q0 := h.st.lt
  have hT := rtake_any b s len w (by omega) h.box
  have H := hide h
  have HT := hide hT
  clear h hT
  go_enter Try.func143, Try.ntmps143
  go_wp2_with fail
  refine HT.out.mono ?_
  rintro e w2 ⟨fr2, hq⟩
  obtain ⟨s1, ok, rfl, hs1, hfin⟩ : ∃ (s1 : ByteArray) (ok : Bool), e = .returned (.tuple #[.string s1, .bool ok]) ∧ s1.size ≤ 8 ∧ (∀ w3, Fr No w2 w3 → NumP b r s n d len w (.returned (.tuple #[.int .u64 (bigN (strB s1) : Int), .bool ok])) w3) := by
    have hst2 := H.out.st.fr fr2 (fun h => H.out.ne h.symm)
    rcases hq with ⟨h1, rfl, h2⟩ | ⟨h1, rfl, h2⟩
    · refine ⟨_, _, rfl, by decide, fun w3 f3 => ⟨fr2.thenNo f3, false, 0, s, rfl, Rdr.fr ⟨h2, hst2⟩ f3 (fun h => h) (fun h => h), .inl ⟨rfl, rfl, by omega, rfl⟩⟩⟩
    · refine ⟨_, _, rfl, ?_, fun w3 f3 => ⟨fr2.thenNo f3, true, _, _, rfl, Rdr.fr ⟨h2, hst2⟩ f3 (fun h => h) (fun h => h), .inr ⟨rfl, by omega, by simp, by simp⟩⟩⟩
      rw [ByteArray.size_extract]; simp; omega
  have hcv := fun w => Lib.run_convert_string_bytes (P := Try.prog) w 9 151 5 s1 Try.underlying9 Try.underlying151 Try.underlying5
  have hbs := Lib.bytesWorld_size w2 5 s1
  have hcell := Lib.bytesWorld_cell w2 5 s1
  have fb := Fr.ofBelow (Joins.below_bytesWorld _ w2 5 s1 (Nat.le_refl _))
  have HFI := hide hfin
  have HB := hide fb
  clear hq fr2 hfin c0 cf q0 fb
  go_wp2_with fail
  generalize Lib.bytesWorld w2 5 s1 = W0 at *
  go_loopw [4, 21] (fun s4 i wr => ∃ j : Nat, j ≤ s1.size ∧ i = .int .i64 j ∧ s4 = .int .u64 (bigN ((strB s1).take j) : Int) ∧ Fr No W0 wr) (fun _ i _ => s1.size - (intOf i).toNat)
  case atStart => exact ⟨0, Nat.zero_le _, rfl, rfl, Fr.refl _ _⟩
  case round =>
    obtain ⟨j, hj, rfl, rfl, fr⟩ := hrel
    by_cases hlt : j < s1.size
    · have hcj := hcell j hlt
      rw [← fr.cell (by rw [hbs]; omega) (fun h => h)] at hcj
      have hjl : j < (strB s1).length := by rw [strB_length]; exact hlt
      have htk : (strB s1).take (j + 1) = (strB s1).take j ++ [(strB s1)[j]] := List.take_succ_eq_append_getElem hjl
      have hx : (strB s1)[j] < 256 := strB_lt s1 _ (List.getElem_mem hjl)
      have hbl : bigN ((strB s1).take j) < 256 ^ j := by
        have := bigN_lt ((strB s1).take j) (fun x hx => strB_lt s1 x (List.mem_of_mem_take hx))
        rwa [List.length_take, Nat.min_eq_left (by omega)] at this
      have hcx : (s1.data.toList.getD j 0).toNat = (strB s1)[j] := by
        have h9 : j < s1.data.size := hlt
        simp [strB, Array.getElem?_eq_getElem h9]
      rw [hcx] at hcj
      generalize (strB s1)[j] = x at *
      have hb2 : bigN ((strB s1).take j) < 72057594037927936 := Nat.lt_of_lt_of_le hbl (by have : (256 : Nat) ^ j ≤ 256 ^ 7 := Nat.pow_le_pow_right (by omega) (by omega); simpa using this)
      have HT := hide htk
      have HF := hide fr
      clear htk fr hbl hcx hjl hcell
      go_wp2_with fail
      go_roundw
      case rel => exact ⟨j + 1, by omega, by go_num, by rw [HT.out, bigN_snoc, or_shift _ _ hb2 hx]; simp, HF.out⟩
      case measure => simp [intOf]; omega
    · have hje : j = s1.size := by omega
      have htk : (strB s1).take j = strB s1 := by rw [hje, ← strB_length, List.take_length]
      have HF := hide fr
      clear fr hcell
      rw [htk]
      go_wp2
      go_ret2
      exact HFI.out _ (HB.out.trans HF.out)

end Go.Proofs.Ytihjmipmjogpoaa

/- Chapter 2: what the reader reads, in plain Lean. -/
namespace Go.Proofs.Ytihjmipmjogpoaa
open Go.RowKit

abbrev Got := Option (V × ByteArray × Nat)

def parseL (g : ByteArray → Nat → Got) : Nat → ByteArray → Nat → Option (List V × ByteArray × Nat)
  | 0, s, n => some ([], s, n)
  | c + 1, s, n => (g s n).bind fun q => (parseL g c q.2.1 q.2.2).map fun x => (q.1 :: x.1, x.2)

def cutN (s : ByteArray) (n : Nat) : Option (Nat × ByteArray) := if n ≤ s.size then some (bigN (strB (s.extract 0 n)), s.extract n s.size) else none

def hdB (s : ByteArray) : Nat := (s.data.toList.getD 0 0).toNat

/-- One value off the front, with a reader for its parts. -/
def parseG (g : Option (ByteArray → Nat → Got)) (s : ByteArray) (n : Nat) : Got :=
  if s.size < 1 ∨ n = 0 then none
  else if hdB s = 0 then some (.mk 0 0 ⟨#[]⟩ [] 0, s.extract 1 s.size, n - 1)
  else if hdB s = 1 then (cutN (s.extract 1 s.size) 8).map fun q => (.mk 1 ((q.1 : Int) - 9223372036854775808) ⟨#[]⟩ [] 0, q.2, n - 1)
  else if hdB s = 4 then (cutN (s.extract 1 s.size) 4).bind fun q => if 0 < q.1 then some (.mk 4 0 ⟨#[]⟩ [] q.1, q.2, n - 1) else none
  else if hdB s = 2 then (cutN (s.extract 1 s.size) 2).bind fun q => if 256 < q.1 ∨ q.2.size < q.1 then none else some (.mk 2 0 (q.2.extract 0 q.1) [] 0, q.2.extract q.1 q.2.size, n - 1)
  else if hdB s = 3 then (cutN (s.extract 1 s.size) 2).bind fun q => match g with
    | none => none
    | some g => if n - 1 < q.1 then none else (parseL g q.1 q.2 (n - 1)).map fun x => (.mk 3 0 ⟨#[]⟩ x.1 0, x.2)
  else none

def parse : Nat → ByteArray → Nat → Got
  | 0 => parseG none
  | d + 1 => parseG (some (parse d))

/-- The parts still to be read, behind those that are. -/
theorem parseL_step (g : ByteArray → Nat → Got) (c : Nat) (s : ByteArray) (n : Nat) (x : V × ByteArray × Nat) (h : g s n = some x) : parseL g (c + 1) s n = (parseL g c x.2.1 x.2.2).map fun y => (x.1 :: y.1, y.2) := by
  simp [parseL, h]

theorem parseL_none (g : ByteArray → Nat → Got) (c : Nat) (s : ByteArray) (n : Nat) (h : g s n = none) : parseL g (c + 1) s n = none := by
  simp [parseL, h]

theorem cutN_none {s : ByteArray} {n : Nat} (h : s.size < n) : cutN s n = none := if_neg (by omega)
theorem cutN_some {s : ByteArray} {n : Nat} (h : n ≤ s.size) : cutN s n = some (bigN (strB (s.extract 0 n)), s.extract n s.size) := if_pos h

theorem hd_extract (s : ByteArray) (h : 1 ≤ s.size) : ((s.extract 0 1).data.toList.getD 0 0).toNat = hdB s ∧ (s.extract 0 1).size = 1 := by
  have h0 : 0 < s.data.size := h
  refine ⟨?_, by rw [ByteArray.size_extract]; omega⟩
  unfold hdB
  congr 1
  simp [ByteArray.data_extract, h0]

theorem hdB_lt (s : ByteArray) : hdB s < 256 := UInt8.toNat_lt _

end Go.Proofs.Ytihjmipmjogpoaa

/- Chapter 2: places; find, At. -/
import Derived.Test.YtihjmipmjogpoaaE1
import Derived.Test.YtihjmipmjogpoaaU1
namespace Go.Proofs.Ytihjmipmjogpoaa
open Go.RowKit

theorem sets5v (w : World) (a : Nat) (t : TypeId) (x0 x1 x2 x3 x4 v0 v1 v2 v3 v4 : Value) (h : Blk w a t #[x0, x1, x2, x3, x4]) :
    Blk (((((w.setCell ⟨a, 0, none⟩ v0).setCell ⟨a, 1, none⟩ v1).setCell ⟨a, 2, none⟩ v2).setCell ⟨a, 3, none⟩ v3).setCell ⟨a, 4, none⟩ v4) a t #[v0, v1, v2, v3, v4] ∧
    Fr (fun i => i = a) w (((((w.setCell ⟨a, 0, none⟩ v0).setCell ⟨a, 1, none⟩ v1).setCell ⟨a, 2, none⟩ v2).setCell ⟨a, 3, none⟩ v3).setCell ⟨a, 4, none⟩ v4) :=
  ⟨(by simpa only [List.setIfInBounds_toArray, List.set_cons_zero, List.set_cons_succ] using ((((h.set_ 0 v0).set_ 1 v1).set_ 2 v2).set_ 3 v3).set_ 4 v4),
   (((((Fr.refl (fun i => i = a) w).set (fun _ => rfl) v0).set (fun _ => rfl) v1).set (fun _ => rfl) v2).set (fun _ => rfl) v3).set (fun _ => rfl) v4⟩

/-- Some numbers that lie one behind the other. -/
structure Ints (w : World) (lo hi : Nat) (A : Option Addr) (cap : Nat) (p : List Int) : Prop where
  len : p.length * 8 ≤ 140737488351232
  cap : p.length ≤ cap
  at_ : p ≠ [] → ∃ b o, A = some ⟨b, o, none⟩ ∧ lo ≤ b ∧ b < hi ∧ ∀ i x, p[i]? = some x → w.cell? ⟨b, o + i, none⟩ = some (.int .i64 x)
  rng : ∀ x ∈ p, -9223372036854775808 ≤ x ∧ x ≤ 9223372036854775807

theorem Ints.keep {w w' : World} {lo hi : Nat} {A : Option Addr} {cap : Nat} {p : List Int} (h : Ints w lo hi A cap p) (hk : ∀ b o, lo ≤ b → b < hi → w'.cell? ⟨b, o, none⟩ = w.cell? ⟨b, o, none⟩) : Ints w' lo hi A cap p :=
  ⟨h.len, h.cap, fun hne => by
    obtain ⟨b, o, hA, h0, h1, hc⟩ := h.at_ hne
    exact ⟨b, o, hA, h0, h1, fun i x hx => (hk b _ h0 h1).trans (hc i x hx)⟩, h.rng⟩

theorem Ints.fr {S : Nat → Prop} {w w' : World} {lo hi : Nat} {A : Option Addr} {cap : Nat} {p : List Int} (h : Ints w lo hi A cap p) (hf : Fr S w w') (hh : hi ≤ w.heap.size) (hs : ∀ i, lo ≤ i → i < hi → ¬ S i) : Ints w' lo hi A cap p :=
  h.keep fun b _ h0 h1 => hf.cell (by omega) (hs b h0 h1)

theorem Ints.no {w w' : World} {lo hi : Nat} {A : Option Addr} {cap : Nat} {p : List Int} (h : Ints w lo hi A cap p) (hf : Fr No w w') (hh : hi ≤ w.heap.size) : Ints w' lo hi A cap p := h.fr hf hh fun _ _ _ h => h

theorem Ints.elem {w : World} {lo hi : Nat} {A : Option Addr} {cap : Nat} {p : List Int} (h : Ints w lo hi A cap p) {j : Nat} (hj : j < p.length) : ∃ b o, A = some ⟨b, o, none⟩ ∧ lo ≤ b ∧ b < hi ∧ w.cell? ⟨b, o + j, none⟩ = some (.int .i64 p[j]) := by
  obtain ⟨b, o, hA, h0, h1, hc⟩ := h.at_ (by rintro rfl; simp at hj)
  exact ⟨b, o, hA, h0, h1, hc j _ (List.getElem?_eq_getElem hj)⟩

def V.list : V → List V
  | .mk _ _ _ l _ => l

/-- What stands at a place. -/
def vAt : List Int → V → Option V
  | [], v => some v
  | i :: p, v => if i < 0 then none else (v.list[i.toNat]?).bind (vAt p)

theorem vAt_cons (i : Int) (p : List Int) (v : V) : vAt (i :: p) v = if i < 0 then none else (v.list[i.toNat]?).bind (vAt p) := rfl

/-- What find answers. -/
def FindV (v : V) (p : List Int) (lo hi : Nat) (w : World) (e : Ending) (w' : World) : Prop :=
  Fr No w w' ∧ ((∃ t' : T, e = .returned (.tuple #[t'.val, .bool true]) ∧ vAt p v = some t'.v ∧ t'.In w' lo hi) ∨ (e = .returned (.tuple #[.agg #[.int .u8 0, .int .i64 0, .string ⟨#[]⟩, .slice none 0 0, .int .i64 0], .bool false]) ∧ vAt p v = none))

/-- Where find's loop stands. -/
structure FInv (v : V) (p : List Int) (lo hi : Nat) (w : World) (g : Nat) (j : Nat) (wr : World) : Prop where
  fr : Fr No w wr
  z : Blk wr (g + 1) 27 #[.int .u8 0, .int .i64 0, .string ⟨#[]⟩, .slice none 0 0, .int .i64 0]
  ex : ∃ k n s A cap l r, Blk wr g 27 #[.int .u8 k, .int .i64 n, .string s, .slice A (l : List T).length cap, .int .i64 r] ∧ (T.mk k n s A cap l r).In wr lo hi ∧ vAt p v = vAt (p.drop j) (T.mk k n s A cap l r).v

theorem T.v_list (k n : Int) (s : ByteArray) (A : Option Addr) (cap : Nat) (l : List T) (r : Int) : (T.mk k n s A cap l r).v.list = l.map T.v := by rw [T.v_mk]; rfl

set_option maxRecDepth 100000 in
set_option maxHeartbeats 4000000 in
theorem find2_any (t : T) (w : World) (lo hi : Nat) (ht : t.In w lo hi) (hh : hi ≤ w.heap.size) (A : Option Addr) (cap : Nat) (p : List Int) (lo' hi' : Nat) (hp : Ints w lo' hi' A cap p) (hh' : hi' ≤ w.heap.size) :
    Calls Try.prog 126 #[t.val, .slice A p.length cap] w (FindV t.v p lo hi w) := by
  cases t with
  | mk k n s A1 cap1 l r =>
    rw [T.val_mk]
    generalize hv : (T.mk k n s A1 cap1 l r).v = v at *
    have hplen := hp.len
    have W0 := ((Fr.refl No w).alloc (.cells #[.int .u8 k, .int .i64 n, .string s, .slice A1 l.length cap1, .int .i64 r] 27)).alloc (.cells #[.int .u8 0, .int .i64 0, .string ⟨#[]⟩, .slice none 0 0, .int .i64 0] 27)
    have hst : FInv v p lo hi w w.heap.size 0 ((w.alloc (.cells #[.int .u8 k, .int .i64 n, .string s, .slice A1 l.length cap1, .int .i64 r] 27)).alloc (.cells #[.int .u8 0, .int .i64 0, .string ⟨#[]⟩, .slice none 0 0, .int .i64 0] 27)) :=
      ⟨W0, Blk.new' (w.alloc _) 27 _ (by simp), k, n, s, A1, cap1, l, r, (Blk.new' w 27 _ rfl).alloc _, ht.no W0 hh, by rw [hv]; rfl⟩
    have HST := hide hst
    have HT := hide ht
    clear hst W0 hv ht
    go_enter Try.func126, Try.ntmps126
    go_wp2_with fail
    go_loopw [10] (fun i wr => ∃ j : Nat, j ≤ p.length ∧ i = .int .i64 j ∧ FInv v p lo hi w w.heap.size j wr) (fun i _ => p.length - (intOf i).toNat)
    case atStart => exact ⟨0, Nat.zero_le _, rfl, HST.out⟩
    case round =>
      obtain ⟨j, hj, rfl, inv⟩ := hrel
      obtain ⟨fr, hz, ck, cn, cs, cA, ccap, cl, cr, hb, hin, hat⟩ := inv
      obtain ⟨c0, c1, c2, c3, c4, cf⟩ := hb.cells5
      obtain ⟨d0, d1, d2, d3, d4, df⟩ := hz.cells5
      have q0 := hz.lt
      have clen := (T.in_mk.1 hin).1.len1
      by_cases hlt : j < p.length
      · obtain ⟨b, o, rfl, hb0, hb1, hc⟩ := (hp.no fr hh').elem hlt
        have hrg := hp.rng p[j] (List.getElem_mem hlt)
        have g0 : b < wr.heap.size := by have := fr.size; omega
        have hdrop : p.drop j = p[j] :: p.drop (j + 1) := List.drop_eq_getElem_cons hlt
        rw [hdrop] at hat
        generalize p[j] = x at *
        have HAT := hide hat
        have HF := hide fr
        clear hat hdrop fr
        by_cases hx : x < 0
        · have hn : vAt p v = none := by rw [HAT.out, vAt_cons, if_pos hx]
          have HN := hide hn
          clear hn
          have HZ := hide hz
          clear hb hz hin
          go_wp2_with fail
          refine bodyPost_ret (v := .tuple #[.agg #[.int .u8 0, .int .i64 0, .string ⟨#[]⟩, .slice none 0 0, .int .i64 0], .bool false]) (by simp [results, Try.results126, go_sem, *]) rfl ?_
          have hF2 := HF.out
          refine ⟨?_, .inr ⟨rfl, HN.out⟩⟩
          repeat (first | with_reducible exact hF2 | with_reducible refine Fr.setNew ?_ (by first | (simp; done) | (simp; omega)) _)
        · obtain ⟨i, rfl⟩ : ∃ i : Nat, x = i := ⟨x.toNat, by omega⟩
          by_cases hi2 : i < cl.length
          · obtain ⟨bm, om, k6, n6, s6, A6, cap6, l6, r6, rfl, hm0, hm1, hxm, him, e0, e1, e2, e3, e4⟩ := T.elem hin hi2
            have g1 : bm < wr.heap.size := by have := HF.out.size; omega
            have hn : vAt p v = vAt (p.drop (j + 1)) (T.mk k6 n6 s6 A6 cap6 l6 r6).v := by
              rw [HAT.out, vAt_cons, if_neg (by omega), T.v_list, Int.toNat_natCast, List.getElem?_map, List.getElem?_eq_getElem hi2, hxm]
              rfl
            have hge : ¬ cl.length ≤ i := by omega
            have hx' : ¬ (i : Int) < 0 := by omega
            have HN := hide hn
            have HB := hide hb
            have HZ := hide hz
            have HIM := hide him
            clear hn hb hz hin him hxm hx
            go_wp2_with fail
            go_roundw
            case rel =>
              obtain ⟨s1, f1⟩ := sets5v wr w.heap.size 27 _ _ _ _ _ (.int .u8 k6) (.int .i64 n6) (.string s6) (.slice A6 l6.length cap6) (.int .i64 r6) HB.out
              refine ⟨j + 1, hlt, by go_num, HF.out.trans' f1 (fun i hi h => by have h' : i = w.heap.size := h; omega), HZ.out.fr f1 (by omega), k6, n6, s6, A6, cap6, l6, r6, s1, HIM.out.fr f1 (by have := HF.out.size; omega) (fun i h0 h1 h2 => by have h' : i = w.heap.size := h2; omega), HN.out⟩
            case measure => simp [intOf]; omega
          · have hge : cl.length ≤ i := by omega
            have hx' : ¬ (i : Int) < 0 := by omega
            have hn : vAt p v = none := by
              rw [HAT.out, vAt_cons, if_neg (by omega), T.v_list, Int.toNat_natCast, List.getElem?_map, List.getElem?_eq_none (by omega)]
              rfl
            have HN := hide hn
            clear hn hx
            have HZ := hide hz
            clear hb hz hin
            go_wp2_with fail
            refine bodyPost_ret (v := .tuple #[.agg #[.int .u8 0, .int .i64 0, .string ⟨#[]⟩, .slice none 0 0, .int .i64 0], .bool false]) (by simp [results, Try.results126, go_sem, *]) rfl ?_
            have hF2 := HF.out
            refine ⟨?_, .inr ⟨rfl, HN.out⟩⟩
            repeat (first | with_reducible exact hF2 | with_reducible refine Fr.setNew ?_ (by first | (simp; done) | (simp; omega)) _)
      · obtain rfl : j = p.length := by omega
        have hn : vAt p v = some (T.mk ck cn cs cA ccap cl cr).v := by rw [hat, List.drop_length]; rfl
        have HN := hide hn
        have HIN := hide hin
        have HF := hide fr
        clear hn hat hb hz fr hin
        go_wp2_with fail
        refine bodyPost_ret (v := .tuple #[.agg #[.int .u8 ck, .int .i64 cn, .string cs, .slice cA cl.length ccap, .int .i64 cr], .bool true]) (by simp [results, Try.results126, go_sem, *]) rfl ?_
        have hF2 := HF.out
        have hI2 := HIN.out
        refine ⟨?_, .inl ⟨T.mk ck cn cs cA ccap cl cr, rfl, HN.out, hI2.fr (S := (· = w.heap.size + 1)) ?_ (by have := hF2.size; omega) (fun i h0 h1 h2 => by have h' : i = w.heap.size + 1 := h2; omega)⟩⟩
        · repeat (first | with_reducible exact hF2 | with_reducible refine Fr.setNew ?_ (by first | (simp; done) | (simp; omega)) _)
        · repeat (first | with_reducible exact Fr.refl _ wr | with_reducible refine Fr.set ?_ (by simp) _)

end Go.Proofs.Ytihjmipmjogpoaa

/- Texts joined: X4, B3, M, B4, B5, K, K2. -/
import Derived.Test.YtihjmipmjogpoaaJn1
import Derived.Deep.RegionHeld3
import Derived.Deep.AppendLies
import Derived.Deep.RegionLaw
import Derived.Recover
import Derived.RangeFuncRecord
import Derived.MapKept
namespace Go.Proofs.Ytihjmipmjogpoaa
open Go.RowKit

/-- What a pair's or a row's mark looks like, out of what its parts' do. -/
def listMk (ps : List (Value → Prop)) (m : Value) : Prop :=
  match ps with
  | [p, q] => ∃ x y, m = .iface 180 (.agg #[x, y]) ∧ p x ∧ q y
  | _ => ∃ A len cap, m = .iface 183 (.agg #[.slice A len cap])

def mkOf (k n : Int) (s : ByteArray) (ps : List (Value → Prop)) (r : Int) (m : Value) : Prop :=
  if k = 1 then m = .iface 176 (.int .i64 n)
  else if k = 2 then m = .iface 177 (.string s)
  else if k = 4 then m = .iface 178 (.int .i64 r)
  else if k = 3 then listMk ps m
  else m = .iface 185 (.agg #[])

/-- What the mark of a value looks like. -/
def IsMk : V → Value → Prop
  | .mk k n s l r => mkOf k n s (l.map IsMk) r
termination_by v => v

theorem IsMk_mk (k n : Int) (s : ByteArray) (l : List V) (r : Int) : IsMk (.mk k n s l r) = mkOf k n s (l.map IsMk) r := by rw [IsMk]

theorem listMk_row {ps : List (Value → Prop)} {m : Value} (h : ps.length ≠ 2) : listMk ps m = ∃ A len cap, m = .iface 183 (.agg #[.slice A len cap]) := by
  match ps, h with
  | [], _ => rfl
  | [p], _ => rfl
  | [p, q], h => simp at h
  | p :: q :: x :: ps, _ => rfl

theorem mkOf.iface {k n : Int} {s : ByteArray} {ps : List (Value → Prop)} {r : Int} {m : Value} (h : mkOf k n s ps r m) : ∃ ty x, m = .iface ty x := by
  unfold mkOf at h
  by_cases h1 : k = 1
  · rw [if_pos h1] at h; exact ⟨_, _, h⟩
  rw [if_neg h1] at h
  by_cases h2 : k = 2
  · rw [if_pos h2] at h; exact ⟨_, _, h⟩
  rw [if_neg h2] at h
  by_cases h4 : k = 4
  · rw [if_pos h4] at h; exact ⟨_, _, h⟩
  rw [if_neg h4] at h
  by_cases h3 : k = 3
  · rw [if_pos h3] at h
    by_cases hl : ps.length = 2
    · obtain ⟨p, q, rfl⟩ : ∃ p q, ps = [p, q] := by
        match ps, hl with
        | [p, q], _ => exact ⟨p, q, rfl⟩
      obtain ⟨x, y, h, _⟩ := h; exact ⟨_, _, h⟩
    · rw [listMk_row hl] at h
      obtain ⟨A, le, ca, h⟩ := h; exact ⟨_, _, h⟩
  · rw [if_neg h3] at h; exact ⟨_, _, h⟩

theorem IsMk.iface {v : V} {m : Value} (h : IsMk v m) : ∃ ty x, m = .iface ty x := by
  cases v with
  | mk k n s l r => rw [IsMk_mk] at h; exact mkOf.iface h

def MarkP (v : V) (w : World) (e : Ending) (w' : World) : Prop := ∃ m, e = .returned m ∧ IsMk v m ∧ Fr No w w'

theorem Fr.grownNo {a w : World} (h : Fr No a w) : a.grownBy w none := ⟨h.os, h.tape, h.output, h.size, fun k hk _ => h.block k hk (fun h => h)⟩

theorem owns_no {a w : World} {base : Nat} {e : TypeId} {size : Nat} {v : Value} {n : Nat} {xs : List Value} (h : a.ownsRow base e size v n xs) (hf : Fr No a w) : w.ownsRow base e size v n xs :=
  h.kept hf.grownNo (by cases v.ownBlock <;> simp)

theorem mark_after {W0 w2 : World} {g base j : Nat} {v m : Value} {xs : List Value} (hb : Blk W0 g 183 #[v]) (ho : W0.ownsRow base 45 1 v j xs) (fr : Fr No W0.drew w2) :
    (w2.alloc (.cells #[m] 45)).ownsRow base 45 1 v j xs ∧ (w2.alloc (.cells #[m] 45)).cell? ⟨g, 0, none⟩ = some v ∧ (w2.alloc (.cells #[m] 45)).frozen? ⟨g, 0, none⟩ = false ∧ w2.cell? ⟨g, 0, none⟩ = some v ∧ W0.heap.size ≤ w2.heap.size ∧ g < w2.heap.size := by
  have h1 : Blk w2 g 183 #[v] := Blk.fr (a := W0.drew) hb fr (fun h => h)
  have h2 := h1.alloc (.cells #[m] 45)
  exact ⟨(owns_no (a := W0.drew) ho fr).alloc _, h2.cell 0, h2.frozen 0, h1.cell 0, fr.size, h1.lt⟩

theorem mark_grown {W w3 : World} {g : Nat} {v : Value} (hg : W.grownBy w3 v.ownBlock) (hc : W.cell? ⟨g, 0, none⟩ = some v) (hf : W.frozen? ⟨g, 0, none⟩ = false) (hlt : g < W.heap.size) (hne : some g ≠ v.ownBlock) :
    w3.cell? ⟨g, 0, none⟩ = some v ∧ w3.frozen? ⟨g, 0, none⟩ = false :=
  ⟨(hg.cell_far ⟨g, 0, none⟩ hlt hne).trans hc, (hg.frozen_far ⟨g, 0, none⟩ hlt hne).trans hf⟩

structure MarkInv (w : World) (X : Array Value) (j : Nat) (wr : World) : Prop where
  fr : Fr No w wr
  big : w.heap.size + 2 ≤ wr.heap.size
  row : ∃ v xs, Blk wr (w.heap.size + 1) 183 #[v] ∧ wr.ownsRow (w.heap.size + 2) 45 1 v j xs

theorem mark_info : (Try.prog.info? 45).map (fun i => (i.zero, i.size, i.bytes)) = some (some .nilIface, 1, 16) := by kernel_rfl

theorem at2 {α : Type} {l : List α} (h : l.length = 2) : ∃ a b, l = [a, b] := by
  match l, h with
  | [a, b], _ => exact ⟨a, b, rfl⟩

set_option maxRecDepth 100000 in
set_option maxHeartbeats 2000000 in
theorem mark_any (t : T) : ∀ (w : World) (lo hi : Nat), t.In w lo hi → hi ≤ w.heap.size → Calls Try.prog 93 #[t.val] w (MarkP t.v w) := by
  induction t using T.ind with
  | h k n s A cap l r ih =>
    intro w lo hi ht hh
    rw [T.val_mk]
    have fit := (T.in_mk.1 ht).1
    have hlen := fit.len1
    by_cases h3 : k = 3
    · subst h3
      by_cases hl2 : l.length = 2
      · obtain ⟨x1, x2, rfl⟩ := at2 hl2
        obtain ⟨b, o, k1, n1, s1, A1, cap1, l1, r1, rfl, hb0, hb1, rfl, hin, e0, e1, e2, e3, e4⟩ := T.elem ht (j := 0) (by simp)
        obtain ⟨b', o', k2, n2, s2, A2, cap2, l2, r2, hbb, hb0', hb1', rfl, hin', f0, f1, f2, f3, f4⟩ := T.elem ht (j := 1) (by simp)
        simp only [Option.some.injEq, Addr.mk.injEq, and_true] at hbb
        obtain ⟨rfl, rfl⟩ := hbb
        have IH1 := ih _ (by simp : T.mk k1 n1 s1 A1 cap1 l1 r1 ∈ _)
        have IH2 := ih _ (by simp : T.mk k2 n2 s2 A2 cap2 l2 r2 ∈ _)
        rw [T.val_mk] at IH1 IH2
        simp only [Nat.zero_mul, Nat.add_zero, Nat.one_mul] at e0 e1 e2 e3 e4 f0 f1 f2 f3 f4
        have hbw : b < w.heap.size := by omega
        have hbw' : b ≤ w.heap.size := by omega
        clear ih hl2
        go_enter Try.func93, Try.ntmps93
        go_wp2_with fail
        have frw := (Fr.refl No w).alloc (.cells #[.int .u8 3, .int .i64 n, .string s, .slice (some ⟨b, o, none⟩) 2 cap, .int .i64 r] 27)
        obtain ⟨c0, c1, c2, c3, c4, cf⟩ := (Blk.new w 27 #[.int .u8 3, .int .i64 n, .string s, .slice (some ⟨b, o, none⟩) 2 cap, .int .i64 r]).cells5
        have hin1 := hin.no frw hh
        have hin2 := hin'.no frw hh
        rw [← frw.cells _ _ hbw] at e0 e1 e2 e3 e4 f0 f1 f2 f3 f4
        have hsz0 : (w.alloc (.cells #[.int .u8 3, .int .i64 n, .string s, .slice (some ⟨b, o, none⟩) 2 cap, .int .i64 r] 27)).heap.size = w.heap.size + 1 := by simp
        generalize w.alloc (.cells #[.int .u8 3, .int .i64 n, .string s, .slice (some ⟨b, o, none⟩) 2 cap, .int .i64 r] 27) = W0 at *
        have hb2 : b < W0.heap.size := by omega
        have hb3 : w.heap.size < W0.heap.size := by omega
        have HF := hide frw
        have HZ := hide hsz0
        clear frw hsz0 hin hin' ht
        have hh0 : hi ≤ W0.heap.size := by have := HZ.out; omega
        go_region_held3 (fun w' => (∀ c i, c < W0.heap.size → w'.cell? ⟨c, i, none⟩ = W0.cell? ⟨c, i, none⟩) ∧ Fr No W0 w')
          (first | exact ⟨fun _ _ _ => rfl, Fr.drew (Fr.refl No W0)⟩ | (have hq : Fr No W0 _ := (‹_ ∧ Fr No W0 _›).2.trans ‹Fr No _ _›; exact ⟨hq.cells, hq⟩))
          (first
            | (go_at_call 93; have hs0 := (‹_ ∧ Fr No W0 _›).2; ((with_reducible refine (IH1 _ lo hi ?_ ?_).mono ?_); (exact hin1.no hs0 hh0); (exact Nat.le_trans hh0 hs0.size); rintro e w2 ⟨m1, rfl, hm1, fr1⟩; obtain ⟨ty1, y1, rfl⟩ := hm1.iface))
            | (go_at_call 93; have hs0 := (‹_ ∧ Fr No W0 _›).2; ((with_reducible refine (IH2 _ lo hi ?_ ?_).mono ?_); (exact hin2.no hs0 hh0); (exact Nat.le_trans hh0 hs0.size); rintro e w3 ⟨m2, rfl, hm2, fr2⟩; obtain ⟨ty2, y2, rfl⟩ := hm2.iface)))
        go_wp2
        go_ret
        refine ⟨_, rfl, ?_, ?_⟩
        · rw [T.v_mk, IsMk_mk]
          exact ⟨_, _, rfl, hm1, hm2⟩
        · exact HF.out.trans (‹Fr No W0 w2›.trans fr2)
      · have hl2' : ((l.length : Int) == 2) = false := by simp; omega
        obtain ⟨i0, hi0, hz0, hz1, hz2⟩ := info_parts mark_info
        go_enter Try.func93, Try.ntmps93
        go_wp2_with fail
        go_loopw [44] (fun i wr => ∃ j : Nat, j ≤ l.length ∧ i = .int .i64 j ∧ MarkInv w #[] j wr) (fun i _ => l.length - (intOf i).toNat)
        case atStart =>
          exact ⟨0, Nat.zero_le _, rfl, ((Fr.refl No w).alloc _).alloc _, by simp, _, [], Blk.new' (w.alloc _) 183 _ (by simp), World.ownsRow_nil _ _ _ _⟩
        case round =>
          obtain ⟨j, hj, rfl, inv⟩ := hrel
          have fr := inv.fr
          have big := inv.big
          obtain ⟨v, xs, blk, own⟩ := inv.row
          by_cases hlt : j < l.length
          · obtain ⟨b, o, k1, n1, s1, A1, cap1, l1, r1, rfl, hb0, hb1, hx, hin, e0, e1, e2, e3, e4⟩ := T.elem (ht.no fr hh) hlt
            have IH := ih l[j] (List.getElem_mem hlt)
            rw [hx, T.val_mk] at IH
            have HX := hide hx
            have hle := Nat.le_of_lt hlt
            clear hx ih inv
            have HT := hide ht
            clear ht
            go_wp2_with fail
            have blk1 := blk.alloc (.cells #[.int .u8 k1, .int .i64 n1, .string s1, .slice A1 l1.length cap1, .int .i64 r1] 27)
            have own1 := own.alloc (.cells #[.int .u8 k1, .int .i64 n1, .string s1, .slice A1 l1.length cap1, .int .i64 r1] 27)
            obtain ⟨x0, x1, x2, x3, x4, xf⟩ := (Blk.new wr 27 #[.int .u8 k1, .int .i64 n1, .string s1, .slice A1 l1.length cap1, .int .i64 r1]).cells5
            have frA := (Fr.refl No wr).alloc (.cells #[.int .u8 k1, .int .i64 n1, .string s1, .slice A1 l1.length cap1, .int .i64 r1] 27)
            have hinA := hin.no frA (by omega)
            have hszA : (wr.alloc (.cells #[.int .u8 k1, .int .i64 n1, .string s1, .slice A1 l1.length cap1, .int .i64 r1] 27)).heap.size = wr.heap.size + 1 := by simp
            generalize wr.alloc (.cells #[.int .u8 k1, .int .i64 n1, .string s1, .slice A1 l1.length cap1, .int .i64 r1] 27) = W0 at *
            have c0 := blk1.cell 0
            simp only [List.getElem?_toArray, List.getElem?_cons_zero] at c0
            have hv0 : ¬ v.ownBlock = some (w.heap.size + 1) := fun h => by have := own.lt _ h; omega
            have hv1 : ¬ v.ownBlock = some wr.heap.size := fun h => by have := own.lt _ h; omega
            have hq0 : w.heap.size + 1 < W0.heap.size := by omega
            have hq1 : wr.heap.size < W0.heap.size := by omega
            have hh0 : hi ≤ W0.heap.size := by omega
            have HF := hide frA
            have HZ := hide hszA
            have HB := hide blk1
            have HB0 := hide blk
            have HO := hide own
            have HO1 := hide own1
            have f0 := blk1.frozen 0
            have hv0' : some (w.heap.size + 1) ≠ v.ownBlock := Ne.symm hv0
            clear frA hszA blk1 hin e0 e1 e2 e3 e4 blk own own1
            go_region_law (first
              | ((refine step_append_lies _ (by rfl) _ _ _ (by rfl) (w.heap.size + 2) 45 i0 _ 1 16 Try.underlying181 hi0 hz0 hz1 hz2 rfl (by omega) v j xs (by rfl) ownD ⟨w2.heap.size, 0, none⟩ 1 1 [.iface ty1 y1] (by rfl) (by rfl) (cell_one_new _ _ _) (by simp [Value.oneCell']) (by omega) (by unfold maxLen; omega) (by omega) (by simp; omega) _ rfl ?_); intro g cp w3 hown3 hgrow hat hlt3; obtain ⟨c3, f3⟩ := mark_grown hgrow c2D f2D (by simp; omega) hv0')
              | (go_simp; go_at_call 93; (with_reducible refine (IH _ lo hi ?_ ?_).mono ?_); (exact hinA.no ((Fr.refl No W0).drew) hh0); (exact hh0); rintro e w2 ⟨m1, rfl, hm1, fr1⟩; obtain ⟨ty1, y1, rfl⟩ := hm1.iface; obtain ⟨ownD, c2D, f2D, c2, hsz2, hlt2⟩ := mark_after (m := .iface ty1 y1) HB.out HO1.out fr1))
            all_goals
              go_wp2
              go_roundw
              case rel =>
                have hb2 : Blk w3 (w.heap.size + 1) 183 #[v] := (hgrow.block (w.heap.size + 1) (by simp; omega) hv0').trans ((Blk.fr (a := W0.drew) HB.out fr1 (fun h => h)).alloc _)
                have hF : Fr No w w3 := (((((fr.thenNo HF.out).drew).thenNo fr1).alloc _).grown hgrow (fun c hc hlt => by have := HO.out.lt c hc; omega))
                exact ⟨j + 1, hlt, by go_num, hF.setNew (by simp) _, Nat.le_trans (by omega) (show w2.heap.size ≤ _ by have := hgrow.size; simp at this ⊢; omega), _, _, hb2.set_ 0 _, ownsRow_setCell_below hown3 (by simp) _⟩
              case measure => simp [intOf]; omega
          · obtain rfl : l.length = j := by omega
            have c0 := blk.cell 0
            simp only [List.getElem?_toArray, List.getElem?_cons_zero] at c0
            obtain ⟨A', n', c', rfl⟩ : ∃ A' n' c', v = .slice A' n' c' := by
              rcases own.2 with ⟨rfl, _⟩ | ⟨g, cp, cur, rfl, _⟩
              · exact ⟨_, _, _, rfl⟩
              · exact ⟨_, _, _, rfl⟩
            have HI := hide inv
            have HO := hide own
            clear inv own ih
            go_wp2
            go_ret
            refine ⟨_, rfl, ?_, HI.out.fr⟩
            rw [T.v_mk, IsMk_mk]
            show listMk _ _
            rw [listMk_row (by simpa using hl2)]
            exact ⟨_, _, _, rfl⟩
    · by_cases h1 : k = 1
      · subst h1
        go_enter Try.func93, Try.ntmps93
        go_wp2
        go_ret
        exact ⟨_, rfl, by rw [T.v_mk, IsMk_mk]; rfl, (Fr.refl No w).alloc _⟩
      have k1 : (k == 1) = false := by simp; exact h1
      by_cases h2 : k = 2
      · subst h2
        go_enter Try.func93, Try.ntmps93
        go_wp2
        go_ret
        exact ⟨_, rfl, by rw [T.v_mk, IsMk_mk]; rfl, (Fr.refl No w).alloc _⟩
      have k2 : (k == 2) = false := by simp; exact h2
      by_cases h4 : k = 4
      · subst h4
        go_enter Try.func93, Try.ntmps93
        go_wp2
        go_ret
        exact ⟨_, rfl, by rw [T.v_mk, IsMk_mk]; rfl, (Fr.refl No w).alloc _⟩
      have k4 : (k == 4) = false := by simp; exact h4
      have k3 : (k == 3) = false := by simp; exact h3
      go_enter Try.func93, Try.ntmps93
      go_wp2
      go_ret
      exact ⟨_, rfl, by rw [T.v_mk, IsMk_mk, mkOf, if_neg h1, if_neg h2, if_neg h4, if_neg h3]; rfl, (Fr.refl No w).alloc _⟩
end Go.Proofs.Ytihjmipmjogpoaa

/- brand.Of: the mark of a value that may be. -/
namespace Go.Proofs.Ytihjmipmjogpoaa
open Go.RowKit

def OfP (v : V) (w : World) (e : Ending) (w' : World) : Prop :=
  (v.may = true → ∃ m, e = .returned (.tuple #[m, .int .i64 0]) ∧ IsMk v m ∧ Fr No w w') ∧ (v.may = false → e = .returned (.tuple #[.nilIface, .int .i64 2]) ∧ Fr No w w')

set_option maxHeartbeats 1000000 in
theorem Of_any (t : T) (w : World) (lo hi : Nat) (ht : t.In w lo hi) (hh : hi ≤ w.heap.size) : Calls Try.prog 29 #[t.val] w (OfP t.v w) := by
  have hM := fun w' h h' => may_any t w' lo hi h h'
  have hO := fun w' h h' => mark_any t w' lo hi h h'
  cases t with
  | mk k n s A cap l r =>
    rw [T.val_mk] at *
    cases hm : (T.mk k n s A cap l r).v.may
    · rw [hm] at hM
      have HM := hide hm
      clear hm hO
      go_enter Try.func29, Try.ntmps29
      go_wp2_with fail
      refine (hM _ (ht.no (((Fr.refl No w).alloc _)) hh) (by simp; omega)).mono ?_
      rintro e w2 ⟨rfl, fr2⟩
      go_wp2
      go_ret2
      exact ⟨fun h => (by rw [HM.out] at h; cases h), fun _ => ⟨rfl, ((Fr.refl No w).alloc _).trans fr2⟩⟩
    · rw [hm] at hM
      have HM := hide hm
      clear hm
      go_enter Try.func29, Try.ntmps29
      go_wp2_with fail
      refine (hM _ (ht.no (((Fr.refl No w).alloc _)) hh) (by simp; omega)).mono ?_
      rintro e w2 ⟨rfl, fr2⟩
      have b0 := ((Blk.new' w 27 #[.int .u8 k, .int .i64 n, .string s, .slice A l.length cap, .int .i64 r] (g := w.heap.size) rfl)).fr fr2 (fun h => h)
      obtain ⟨c0, c1, c2, c3, c4, cf⟩ := b0.cells5
      have hF2 : Fr No w w2 := ((Fr.refl No w).alloc _).trans fr2
      have ht2 := ht.no hF2 hh
      have hh2 : hi ≤ w2.heap.size := Nat.le_trans hh hF2.size
      clear b0 ht
      go_wp2_with fail
      refine (hO _ ht2 hh2).mono ?_
      rintro e w3 ⟨m, rfl, hmk, fr3⟩
      obtain ⟨ty, y, rfl⟩ := hmk.iface
      go_wp2
      go_ret2
      exact ⟨fun _ => ⟨_, rfl, hmk, hF2.trans fr3⟩, fun h => by rw [HM.out] at h; cases h⟩

end Go.Proofs.Ytihjmipmjogpoaa

/- What Go's own == of two marks comes to. -/
namespace Go.Proofs.Ytihjmipmjogpoaa
open Go.RowKit

/-- The kinds of marks: 5 is a row. -/
def shp (k : Int) (len : Nat) : Int := if k = 3 then (if len = 2 then 3 else 5) else if k = 1 then 1 else if k = 2 then 2 else if k = 4 then 4 else 0

/-- Two leaves of one kind: are they the same? -/
def leafEq (k n : Int) (s : ByteArray) (r n' : Int) (s' : ByteArray) (r' : Int) : Bool :=
  if k = 1 then n == n' else if k = 2 then s.toList == s'.toList else if k = 4 then r == r' else true

def pairCmp (ps : List (V → Nat)) (l : List V) : Nat :=
  match ps, l with
  | [f, g], [a, b] => if f a = 1 then g b else f a
  | _, _ => 2

def cmpOf (k n : Int) (s : ByteArray) (ps : List (V → Nat)) (r : Int) : V → Nat
  | .mk k' n' s' l' r' =>
    if shp k ps.length = shp k' l'.length then
      (if k = 3 then pairCmp ps l' else if leafEq k n s r n' s' r' = true then 1 else 0)
    else 0

/-- What the comparison of two marks comes to: 0 Unequal, 1 Equal, 2 Panics. -/
def V.cmp : V → V → Nat
  | .mk k n s l r => cmpOf k n s (l.map V.cmp) r
termination_by v => v

theorem V.cmp_mk (k n : Int) (s : ByteArray) (l : List V) (r : Int) : (V.mk k n s l r).cmp = cmpOf k n s (l.map V.cmp) r := by rw [V.cmp]

/-- What a run of == comes to. -/
def EqRes (res : Result Bool) (c : Nat) (w : World) : Prop :=
  (c = 0 ∧ res = .ok false w) ∨ (c = 1 ∧ res = .ok true w) ∨ (c = 2 ∧ ∃ s, res = .halt (.panic (.iface 10 (.string s))) w)

theorem typeStr_row (w : World) : (typeStr 183).run Try.prog w = .ok "brand.row" w := by kernel_rfl

theorem runtimePanic_error (m : String) (w : World) : (runtimePanic (α := Bool) (.error m)).run Try.prog w = .halt (.panic (.iface 10 (strVal m))) w := by
  have h : Try.prog.rt.errorString = 10 := by kernel_rfl
  simp [runtimePanic, run_program, goPanic, h]

theorem ty_comparable (t : TypeId) (b : Bool) (h : (Try.prog.info? t).map (·.comparable) = some b) : ∃ i, Try.prog.info? t = some i ∧ i.comparable = b := by
  cases hi : Try.prog.info? t with
  | none => rw [hi] at h; cases h
  | some i => rw [hi] at h; exact ⟨i, rfl, by simpa using h⟩

theorem cmp176 : (Try.prog.info? 176).map (·.comparable) = some true := by kernel_rfl
theorem cmp177 : (Try.prog.info? 177).map (·.comparable) = some true := by kernel_rfl
theorem cmp178 : (Try.prog.info? 178).map (·.comparable) = some true := by kernel_rfl
theorem cmp180 : (Try.prog.info? 180).map (·.comparable) = some true := by kernel_rfl
theorem cmp183 : (Try.prog.info? 183).map (·.comparable) = some false := by kernel_rfl
theorem cmp185 : (Try.prog.info? 185).map (·.comparable) = some true := by kernel_rfl
theorem packed183 : Try.prog.holdsPacked Try.prog.depth 183 = false := by kernel_rfl
theorem ms45 : ∃ ms, Try.prog.underlying 45 = some (.interface ms) := ⟨_, Try.underlying45⟩

/-- Two marks of unlike types. -/
theorem eq_unlike {d : Nat} {a b : TypeId} {x y : Value} {w : World} (h : a ≠ b) : (Op.equalIn (d + 1) 45 (.iface a x) (.iface b y)).run Try.prog w = .ok false w := by
  obtain ⟨ms, h45⟩ := ms45
  simp [Op.equalIn, run_underlying h45, h]

/-- Two marks of one type that can be compared. -/
theorem eq_like {d : Nat} {a : TypeId} {x y : Value} {w : World} (h : (Try.prog.info? a).map (·.comparable) = some true) :
    (Op.equalIn (d + 1) 45 (.iface a x) (.iface a y)).run Try.prog w = (Op.equalIn d a x y).run Try.prog w := by
  obtain ⟨ms, h45⟩ := ms45
  obtain ⟨i, hi, hc⟩ := ty_comparable a true h
  simp [Op.equalIn, run_underlying h45, typeInfo, hi, hc]

/-- Two rows. -/
theorem eq_rows {d : Nat} {x y : Value} {w : World} : ∃ s, (Op.equalIn (d + 1) 45 (.iface 183 x) (.iface 183 y)).run Try.prog w = .halt (.panic (.iface 10 (.string s))) w := by
  obtain ⟨ms, h45⟩ := ms45
  obtain ⟨i, hi, hc⟩ := ty_comparable 183 false cmp183
  obtain ⟨s, hs⟩ : ∃ s, strVal ("comparing uncomparable type " ++ "brand.row") = .string s := ⟨_, rfl⟩
  refine ⟨s, ?_⟩
  rw [← hs]
  simp [Op.equalIn, run_underlying h45, typeInfo, hi, hc, run_program, packed183, typeStr_row, runtimePanic_error]

/-- The dynamic type of a mark. -/
def mty (c : Int) : TypeId := if c = 1 then 176 else if c = 2 then 177 else if c = 4 then 178 else if c = 3 then 180 else if c = 5 then 183 else 185

theorem mty_ne {c c' : Int} (hc : c = 0 ∨ c = 1 ∨ c = 2 ∨ c = 3 ∨ c = 4 ∨ c = 5) (hc' : c' = 0 ∨ c' = 1 ∨ c' = 2 ∨ c' = 3 ∨ c' = 4 ∨ c' = 5) (h : c ≠ c') : mty c ≠ mty c' := by
  rcases hc with rfl | rfl | rfl | rfl | rfl | rfl <;> rcases hc' with rfl | rfl | rfl | rfl | rfl | rfl <;> simp_all [mty]

theorem shp_range (k : Int) (len : Nat) : shp k len = 0 ∨ shp k len = 1 ∨ shp k len = 2 ∨ shp k len = 3 ∨ shp k len = 4 ∨ shp k len = 5 := by
  unfold shp
  by_cases h3 : k = 3
  · by_cases h2 : len = 2 <;> simp [h3, h2]
  by_cases h1 : k = 1
  · simp [h1]
  by_cases h2 : k = 2
  · simp [h2]
  by_cases h4 : k = 4
  · simp [h4]
  · simp [h1, h2, h3, h4]

theorem mkOf.ty {k n : Int} {s : ByteArray} {ps : List (Value → Prop)} {r : Int} {m : Value} (h : mkOf k n s ps r m) : ∃ x, m = .iface (mty (shp k ps.length)) x := by
  unfold mkOf at h
  by_cases h1 : k = 1
  · rw [if_pos h1] at h; subst h1; exact ⟨_, h⟩
  rw [if_neg h1] at h
  by_cases h2 : k = 2
  · rw [if_pos h2] at h; subst h2; exact ⟨_, h⟩
  rw [if_neg h2] at h
  by_cases h4 : k = 4
  · rw [if_pos h4] at h; subst h4; exact ⟨_, h⟩
  rw [if_neg h4] at h
  by_cases h3 : k = 3
  · rw [if_pos h3] at h
    subst h3
    by_cases hl : ps.length = 2
    · obtain ⟨p, q, rfl⟩ : ∃ p q, ps = [p, q] := at2 hl
      obtain ⟨x, y, h, _⟩ := h; exact ⟨_, h⟩
    · rw [listMk_row hl] at h
      obtain ⟨A, le, ca, h⟩ := h
      have : mty (shp 3 ps.length) = 183 := by simp [shp, hl, mty]
      rw [this]; exact ⟨_, h⟩
  · rw [if_neg h3] at h
    have : mty (shp k ps.length) = 185 := by simp [shp, h1, h2, h3, h4, mty]
    rw [this]; exact ⟨_, h⟩

theorem eq_pair {d : Nat} {x y x' y' : Value} {w : World} {c1 c2 : Nat} (hx : ∃ t v, x = .iface t v) (hy : ∃ t v, y = .iface t v) (hx' : ∃ t v, x' = .iface t v) (hy' : ∃ t v, y' = .iface t v)
    (h1 : EqRes ((Op.equalIn d 45 x x').run Try.prog w) c1 w) (h2 : EqRes ((Op.equalIn d 45 y y').run Try.prog w) c2 w) :
    EqRes ((Op.equalIn (d + 1) 180 (.agg #[x, y]) (.agg #[x', y'])).run Try.prog w) (if c1 = 1 then c2 else c1) w := by
  obtain ⟨t1, v1, rfl⟩ := hx
  obtain ⟨t2, v2, rfl⟩ := hy
  obtain ⟨t3, v3, rfl⟩ := hx'
  obtain ⟨t4, v4, rfl⟩ := hy'
  have e : (Op.equalIn (d + 1) 180 (.agg #[.iface t1 v1, .iface t2 v2]) (.agg #[.iface t3 v3, .iface t4 v4])).run Try.prog w =
      ((Sem.run Try.prog (Op.equalIn d 45 (Value.iface t1 v1) (Value.iface t3 v3)) w).andThen fun a w' =>
        if a = false then Result.ok false w'
        else
          (Sem.run Try.prog (Op.equalIn d 45 (Value.iface t2 v2) (Value.iface t4 v4)) w').andThen fun a w' =>
            if a = false then Result.ok false w' else Result.ok true w') := by simp [go_sem]
  rw [e]
  rcases h1 with ⟨rfl, h1⟩ | ⟨rfl, h1⟩ | ⟨rfl, s, h1⟩
  · rw [h1]; exact .inl ⟨rfl, rfl⟩
  · rw [h1]
    simp only [Result.andThen_ok, if_pos]
    rcases h2 with ⟨rfl, h2⟩ | ⟨rfl, h2⟩ | ⟨rfl, s, h2⟩
    · simp [h2]; exact .inl ⟨rfl, rfl⟩
    · simp [h2]; exact .inr (.inl ⟨rfl, rfl⟩)
    · simp [h2]; exact .inr (.inr ⟨rfl, s, rfl⟩)
  · rw [h1]; exact .inr (.inr ⟨rfl, s, rfl⟩)

theorem eqRes_bool {b : Bool} {w : World} {res : Result Bool} (h : res = .ok b w) : EqRes res (if b = true then 1 else 0) w := by
  cases b
  · exact .inl ⟨rfl, h⟩
  · exact .inr (.inl ⟨rfl, h⟩)

theorem run_eq (u : V) : ∀ (v : V) (d : Nat) (m1 m2 : Value) (w : World), 2 * u.dep + 2 ≤ d → IsMk u m1 → IsMk v m2 → EqRes ((Op.equalIn d 45 m1 m2).run Try.prog w) (u.cmp v) w := by
  induction u using V.ind with
  | h k n s l r ih =>
    intro v d m1 m2 w hd h1 h2
    cases v with
    | mk k' n' s' l' r' =>
      rw [IsMk_mk] at h1 h2
      rw [V.cmp_mk, cmpOf]
      simp only [List.length_map]
      obtain ⟨d, rfl⟩ : ∃ e, d = e + 2 := ⟨d - 2, by omega⟩
      by_cases hs : shp k l.length = shp k' l'.length
      · rw [if_pos hs]
        by_cases h3 : k = 3
        · subst h3
          rw [if_pos rfl]
          have hk' : k' = 3 ∧ (l.length = 2 ↔ l'.length = 2) := by
            unfold shp at hs
            by_cases hl : l.length = 2 <;> by_cases h3' : k' = 3 <;> by_cases hl' : l'.length = 2 <;> simp [hl, h3', hl'] at hs ⊢ <;> (repeat' split at hs) <;> omega
          obtain ⟨rfl, hll⟩ := hk'
          have e1 : listMk (l.map IsMk) m1 := by simpa [mkOf] using h1
          have e2 : listMk (l'.map IsMk) m2 := by simpa [mkOf] using h2
          by_cases hl : l.length = 2
          · obtain ⟨a, b, rfl⟩ := at2 hl
            obtain ⟨a', b', rfl⟩ := at2 (hll.1 hl)
            obtain ⟨x, y, rfl, hx, hy⟩ := e1
            obtain ⟨x', y', rfl, hx', hy'⟩ := e2
            rw [eq_like cmp180]
            have hda : a.dep ≤ top [a.dep, b.dep] := le_top (by simp)
            have hdb : b.dep ≤ top [a.dep, b.dep] := le_top (by simp)
            rw [V.dep_mk, if_pos rfl] at hd
            simp only [List.map_cons, List.map_nil] at hd
            have g := eq_pair hx.iface hy.iface hx'.iface hy'.iface (ih a (by simp) a' d x x' w (by omega) hx hx') (ih b (by simp) b' d y y' w (by omega) hy hy')
            exact g
          · rw [listMk_row (by simpa using hl)] at e1
            rw [listMk_row (by simpa using fun h => hl (hll.2 h))] at e2
            obtain ⟨A1, n1, c1, rfl⟩ := e1
            obtain ⟨A2, n2, c2, rfl⟩ := e2
            have hp : pairCmp (l.map V.cmp) l' = 2 := by
              match l, hl with
              | [], _ => rfl
              | [a], _ => rfl
              | [a, b], hl => simp at hl
              | a :: b :: c :: l, _ => rfl
            rw [hp]
            obtain ⟨s, hs⟩ := eq_rows (d := d + 1) (x := .agg #[.slice A1 n1 c1]) (y := .agg #[.slice A2 n2 c2]) (w := w)
            exact .inr (.inr ⟨rfl, s, hs⟩)
        · rw [if_neg h3]
          unfold mkOf at h1 h2
          by_cases k1 : k = 1
          · subst k1
            have e : k' = 1 := by
              unfold shp at hs
              by_cases h3' : k' = 3 <;> by_cases hl' : l'.length = 2 <;> simp [h3', hl'] at hs ⊢ <;> (repeat' split at hs) <;> omega
            subst e
            simp at h1 h2
            subst h1 h2
            rw [eq_like cmp176]
            refine eqRes_bool ?_
            simp [go_sem, leafEq]
          by_cases k2 : k = 2
          · subst k2
            have e : k' = 2 := by
              unfold shp at hs
              by_cases h3' : k' = 3 <;> by_cases hl' : l'.length = 2 <;> simp [h3', hl'] at hs ⊢ <;> (repeat' split at hs) <;> omega
            subst e
            simp at h1 h2
            subst h1 h2
            rw [eq_like cmp177]
            refine eqRes_bool ?_
            simp [go_sem, leafEq]
          by_cases k4 : k = 4
          · subst k4
            have e : k' = 4 := by
              unfold shp at hs
              by_cases h3' : k' = 3 <;> by_cases hl' : l'.length = 2 <;> simp [h3', hl'] at hs ⊢ <;> (repeat' split at hs) <;> omega
            subst e
            simp at h1 h2
            subst h1 h2
            rw [eq_like cmp178]
            refine eqRes_bool ?_
            simp [go_sem, leafEq]
          have e : k' ≠ 1 ∧ k' ≠ 2 ∧ k' ≠ 4 ∧ k' ≠ 3 := by
            unfold shp at hs
            by_cases h3' : k' = 3 <;> by_cases hl' : l'.length = 2 <;> simp [h3, k1, k2, k4, h3', hl'] at hs ⊢ <;> (repeat' split at hs) <;> omega
          obtain ⟨e1, e2, e4, e3⟩ := e
          rw [if_neg k1, if_neg k2, if_neg k4, if_neg h3] at h1
          rw [if_neg e1, if_neg e2, if_neg e4, if_neg e3] at h2
          subst h1 h2
          rw [eq_like cmp185]
          refine eqRes_bool ?_
          simp [go_sem, leafEq, k1, k2, k4]
      · rw [if_neg hs]
        obtain ⟨x, rfl⟩ := h1.ty
        obtain ⟨y, rfl⟩ := h2.ty
        simp only [List.length_map]
        exact .inl ⟨rfl, eq_unlike (mty_ne (shp_range _ _) (shp_range _ _) hs)⟩

end Go.Proofs.Ytihjmipmjogpoaa

/- Compare's closure, met, Compare: == of two marks, its panic met. -/
namespace Go.Proofs.Ytihjmipmjogpoaa
open Go.RowKit

theorem eql_marks {u v : V} {m1 m2 : Value} (h1 : IsMk u m1) (h2 : IsMk v m2) (hd : u.dep ≤ 16) (w : World) :
    (u.cmp v = 0 ∧ (binOp .eql 45 m1 m2).run Try.prog w = .ok (.bool false) w) ∨ (u.cmp v = 1 ∧ (binOp .eql 45 m1 m2).run Try.prog w = .ok (.bool true) w) ∨
    (u.cmp v = 2 ∧ ∃ s, (binOp .eql 45 m1 m2).run Try.prog w = .halt (.panic (.iface 10 (.string s))) w) := by
  obtain ⟨t1, v1, rfl⟩ := h1.iface
  obtain ⟨t2, v2, rfl⟩ := h2.iface
  have h := run_eq u v 10000 _ _ w (by omega) h1 h2
  have e : (binOp .eql 45 (.iface t1 v1) (.iface t2 v2)).run Try.prog w = ((Op.equalIn 10000 45 (.iface t1 v1) (.iface t2 v2)).run Try.prog w).andThen fun b w' => .ok (.bool b) w' := by
    simp only [binOp]
    simp [Op.equal, Op.maxDepth]
  rw [e]
  rcases h with ⟨h0, h⟩ | ⟨h0, h⟩ | ⟨h0, s, h⟩
  · exact .inl ⟨h0, by rw [h]; rfl⟩
  · exact .inr (.inl ⟨h0, by rw [h]; rfl⟩)
  · exact .inr (.inr ⟨h0, s, by rw [h]; rfl⟩)

set_option maxRecDepth 10000 in
theorem cmp1_ret (a b c : Nat) (t1 t2 : TypeId) (v1 v2 : Value) (r : Bool) (w : World) (ha : w.cell? ⟨a, 0, none⟩ = some (.iface t1 v1)) (hb : w.cell? ⟨b, 0, none⟩ = some (.iface t2 v2))
    (hc : w.cell? ⟨c, 0, none⟩ = some (.int .u8 0)) (hf : w.frozen? ⟨c, 0, none⟩ = false) (he : (binOp .eql 45 (.iface t1 v1) (.iface t2 v2)).run Try.prog w = .ok (.bool r) w) :
    Calls Try.prog 84 #[.pointer (some ⟨a, 0, none⟩), .pointer (some ⟨b, 0, none⟩), .pointer (some ⟨c, 0, none⟩)] w fun e w' => e = .returned (.tuple #[]) ∧ w' = if r = true then w.setCell ⟨c, 0, none⟩ (.int .u8 1) else w := by
  cases r
  · go_enter Try.func84, Try.ntmps84
    go_wp2
    go_end0
    exact ⟨rfl, rfl⟩
  · go_enter Try.func84, Try.ntmps84
    go_wp2
    go_end0
    exact ⟨rfl, rfl⟩

set_option maxRecDepth 10000 in
theorem cmp1_panic (a b c : Nat) (t1 t2 : TypeId) (v1 v2 : Value) (s : ByteArray) (w : World) (ha : w.cell? ⟨a, 0, none⟩ = some (.iface t1 v1)) (hb : w.cell? ⟨b, 0, none⟩ = some (.iface t2 v2))
    (he : (binOp .eql 45 (.iface t1 v1) (.iface t2 v2)).run Try.prog w = .halt (.panic (.iface 10 (.string s))) w) :
    Calls Try.prog 84 #[.pointer (some ⟨a, 0, none⟩), .pointer (some ⟨b, 0, none⟩), .pointer (some ⟨c, 0, none⟩)] w fun e w' => e = .panicked [{ v := .iface 10 (.string s), recovered := false }] ∧ w' = w := by
  go_enter Try.func84, Try.ntmps84
  go_wp2
  exact ⟨rfl, rfl, rfl⟩

theorem assert10 (x : Value) (w : World) : (Instr.typeAssert (.iface 10 x) 20 173 true).run Try.prog w = .ok (.tuple #[.iface 10 x, .bool true]) w := by
  kernel_rfl

theorem assert19 (x : Value) (w : World) : (Instr.typeAssert (.iface 19 x) 20 173 true).run Try.prog w = .ok (.tuple #[.iface 19 x, .bool true]) w := by
  kernel_rfl

/-- A panic of Go's own. -/
def RunErr (ty : TypeId) : Prop := ∀ x w, (Instr.typeAssert (.iface ty x) 20 173 true).run Try.prog w = .ok (.tuple #[.iface ty x, .bool true]) w

theorem catch_panicking (p : Nat) (x : Bool) (ty : TypeId) (pv : Value) (hre : RunErr ty) (older : List PanicEntry) (w : World) (hc : w.cell? ⟨p, 0, none⟩ = some (.bool x)) (hz : w.frozen? ⟨p, 0, none⟩ = false) :
    CallsD Try.prog 133 #[.pointer (some ⟨p, 0, none⟩)] (.panicking ({ v := .iface ty pv, recovered := false } :: older)) w fun e u' w' =>
      e = .returned (.tuple #[]) ∧ u' = .panicking ({ v := .iface ty pv, recovered := true } :: older) ∧ w' = w.setCell ⟨p, 0, none⟩ (.bool true) := by
  refine callsD_of_wpS Try.func133 rfl fun c₀ cs hu => ?_
  apply wpS_seq
  apply wpS_region
  simp [wpOpsS, go_sem, recoverD, hu, Try.ntmps133, Exit.thenS]
  have ha := hre pv
  simp only [Array.replicate_succ, Array.replicate_zero, List.push_toArray, List.append_toArray, List.nil_append, List.cons_append, List.setIfInBounds_toArray, List.set_cons_zero, List.set_cons_succ]
  refine wpS_of_wp ?_
  go_wp2
  simp [bodyPostS, results, Try.results133]

theorem catch_idle (p : Nat) (w : World) :
    CallsD Try.prog 133 #[.pointer (some ⟨p, 0, none⟩)] .returning w fun e u' w' => e = .returned (.tuple #[]) ∧ u' = .returning ∧ w' = w := by
  refine callsD_of_wpS Try.func133 rfl fun c₀ cs hu => ?_
  apply wpS_seq
  apply wpS_region
  simp [wpOpsS, go_sem, recoverD, hu, Try.ntmps133, Exit.thenS]
  simp only [Array.replicate_succ, Array.replicate_zero, List.push_toArray, List.append_toArray, List.nil_append, List.cons_append, List.setIfInBounds_toArray, List.set_cons_zero, List.set_cons_succ]
  refine wpS_of_wp ?_
  go_wp2
  cases c₀
  simp_all [bodyPostS, results, Try.results133]

theorem met_ret (lb : Array Value) (w W1 : World) (h : Calls Try.prog 84 lb (w.alloc (.cells #[.bool false] 4)) fun e w' => e = .returned (.tuple #[]) ∧ w' = W1) (hB : Blk W1 w.heap.size 4 #[.bool false]) :
    Calls Try.prog 83 #[.func (.func 84) #[] lb] w fun e w' => e = .returned (.bool false) ∧ w' = W1.setCell ⟨w.heap.size, 0, none⟩ (.bool false) := by
  have hmf : ∀ (fn : Fn) (first cap : Array Value) (w : World), (Instr.makeFunc fn first cap).run Try.prog w = .ok (.func fn first cap) w := fun _ _ _ _ => rfl
  have H := hide h
  have c0 := hB.cell 0
  have f0 := hB.frozen 0
  simp only [List.getElem?_toArray, List.getElem?_cons_zero] at c0
  clear h
  go_enter_defers Try.func83, Try.ntmps83
  go_wp2_with fail
  refine H.out.mono ?_
  rintro e w' ⟨rfl, rfl⟩
  go_wp2
  refine leaves_cons (f := 133) (args := #[.pointer (some ⟨w.heap.size, 0, none⟩)]) (by simp) (by simp [go_sem]) ?_
  refine (catch_idle w.heap.size _).mono ?_
  rintro e u' w'' ⟨rfl, rfl, rfl⟩
  have c1 := (hB.set_ 0 (.bool false)).cell 0
  simp at c1
  simp [Leaves, settle, results, Try.results83, go_sem, c1]

theorem met_panic (lb : Array Value) (w W1 : World) (ty : TypeId) (pv : Value) (hre : RunErr ty) (h : Calls Try.prog 84 lb (w.alloc (.cells #[.bool false] 4)) fun e w' => e = .panicked [{ v := .iface ty pv, recovered := false }] ∧ w' = W1)
    (hB : Blk W1 w.heap.size 4 #[.bool false]) :
    Calls Try.prog 83 #[.func (.func 84) #[] lb] w fun e w' => e = .returned (.bool true) ∧ w' = W1.setCell ⟨w.heap.size, 0, none⟩ (.bool true) := by
  have hmf : ∀ (fn : Fn) (first cap : Array Value) (w : World), (Instr.makeFunc fn first cap).run Try.prog w = .ok (.func fn first cap) w := fun _ _ _ _ => rfl
  have H := hide h
  have c0 := hB.cell 0
  have f0 := hB.frozen 0
  simp only [List.getElem?_toArray, List.getElem?_cons_zero] at c0
  clear h
  go_enter_defers Try.func83, Try.ntmps83
  go_wp2_with fail
  refine H.out.mono ?_
  rintro e w' ⟨rfl, rfl⟩
  go_wp2
  refine leaves_cons (f := 133) (args := #[.pointer (some ⟨w.heap.size, 0, none⟩)]) (by simp) (by simp [go_sem]) ?_
  refine (catch_panicking w.heap.size false ty pv hre [] _ c0 f0).mono ?_
  rintro e u' w'' ⟨rfl, rfl, rfl⟩
  have c1 := (hB.set_ 0 (.bool true)).cell 0
  simp at c1
  simp [Leaves, settle, results, Try.results83, go_sem, c1]

theorem key_ret (lb : Array Value) (w : World) (h : Calls Try.prog 135 lb (w.alloc (.cells #[.bool false] 4)) fun e w' => e = .returned (.tuple #[]) ∧ Fr No (w.alloc (.cells #[.bool false] 4)) w') :
    Calls Try.prog 83 #[.func (.func 135) #[] lb] w fun e w' => e = .returned (.bool false) ∧ Fr No w w' := by
  have hmf : ∀ (fn : Fn) (first cap : Array Value) (w : World), (Instr.makeFunc fn first cap).run Try.prog w = .ok (.func fn first cap) w := fun _ _ _ _ => rfl
  have H := hide h
  clear h
  go_enter_defers Try.func83, Try.ntmps83
  go_wp2_with fail
  refine H.out.mono ?_
  rintro e W1 ⟨rfl, fr⟩
  have hB := (Blk.new w 4 #[.bool false]).fr fr (fun h => h)
  have c0 := hB.cell 0
  have f0 := hB.frozen 0
  simp only [List.getElem?_toArray, List.getElem?_cons_zero] at c0
  have HF := hide (((Fr.refl No w).alloc (.cells #[.bool false] 4)).trans fr)
  clear fr
  go_wp2
  refine leaves_cons (f := 133) (args := #[.pointer (some ⟨w.heap.size, 0, none⟩)]) (by simp) (by simp [go_sem]) ?_
  refine (catch_idle w.heap.size _).mono ?_
  rintro e u' w'' ⟨rfl, rfl, rfl⟩
  have c1 := (hB.set_ 0 (.bool false)).cell 0
  simp at c1
  have hF := HF.out.setNew (p := ⟨w.heap.size, 0, none⟩) (by simp) (.bool false)
  simp [Leaves, settle, results, Try.results83, go_sem, c1]
  exact hF

theorem key_panic (lb : Array Value) (w : World) (h : Calls Try.prog 135 lb (w.alloc (.cells #[.bool false] 4)) fun e w' => ∃ ty pv, RunErr ty ∧ e = .panicked [{ v := .iface ty pv, recovered := false }] ∧ Fr No (w.alloc (.cells #[.bool false] 4)) w') :
    Calls Try.prog 83 #[.func (.func 135) #[] lb] w fun e w' => e = .returned (.bool true) ∧ Fr No w w' := by
  have hmf : ∀ (fn : Fn) (first cap : Array Value) (w : World), (Instr.makeFunc fn first cap).run Try.prog w = .ok (.func fn first cap) w := fun _ _ _ _ => rfl
  have H := hide h
  clear h
  go_enter_defers Try.func83, Try.ntmps83
  go_wp2_with fail
  refine H.out.mono ?_
  rintro e W1 ⟨ty, pv, hre, rfl, fr⟩
  have hB := (Blk.new w 4 #[.bool false]).fr fr (fun h => h)
  have c0 := hB.cell 0
  have f0 := hB.frozen 0
  simp only [List.getElem?_toArray, List.getElem?_cons_zero] at c0
  have HF := hide (((Fr.refl No w).alloc (.cells #[.bool false] 4)).trans fr)
  have HR := hide hre
  clear fr hre
  go_wp2
  refine leaves_cons (f := 133) (args := #[.pointer (some ⟨w.heap.size, 0, none⟩)]) (by simp) (by simp [go_sem]) ?_
  refine (catch_panicking w.heap.size false ty pv HR.out [] _ c0 f0).mono ?_
  rintro e u' w'' ⟨rfl, rfl, rfl⟩
  have c1 := (hB.set_ 0 (.bool true)).cell 0
  simp at c1
  have hF := HF.out.setNew (p := ⟨w.heap.size, 0, none⟩) (by simp) (.bool true)
  simp [Leaves, settle, results, Try.results83, go_sem, c1]
  exact hF

end Go.Proofs.Ytihjmipmjogpoaa

/- brand.Compare: what the comparison of two values' marks comes to. -/
namespace Go.Proofs.Ytihjmipmjogpoaa
open Go.RowKit

/-- Compare's answer. -/
def V.ans (u v : V) : Nat := if (u.may && v.may) = true then u.cmp v else 0
def V.err2 (u v : V) : Int := if (u.may && v.may) = true then 0 else 2

theorem may_dep {v : V} (h : v.may = true) : v.dep ≤ 16 := by
  simp [V.may, V.fits] at h; omega

set_option maxRecDepth 10000 in
set_option maxHeartbeats 2000000 in
theorem Compare_any (a b : T) (w : World) (lo hi : Nat) (ha : a.In w lo hi) (hb : b.In w lo hi) (hh : hi ≤ w.heap.size) :
    Calls Try.prog 20 #[a.val, b.val] w fun e w' => e = .returned (.tuple #[.int .u8 ((a.v.ans b.v : Nat) : Int), .int .i64 (a.v.err2 b.v)]) ∧ Fr No w w' := by
  have hA := fun w' h h' => Of_any a w' lo hi h h'
  have hB := fun w' h h' => Of_any b w' lo hi h h'
  cases a with
  | mk k n s A cap l r =>
  cases b with
  | mk k' n' s' A' cap' l' r' =>
    rw [T.val_mk] at *
    rw [T.val_mk] at *
    generalize hu : (T.mk k n s A cap l r).v = u at *
    generalize hv : (T.mk k' n' s' A' cap' l' r').v = v at *
    have HU := hide hu
    have HV := hide hv
    clear hu hv
    cases hmu : u.may
    · have h1 : u.ans v = 0 := by simp [V.ans, hmu]
      have h2 : u.err2 v = 2 := by simp [V.err2, hmu]
      have H1 := hide h1
      have H2 := hide h2
      have HM := hide hmu
      clear h1 h2 hmu
      go_enter Try.func20, Try.ntmps20
      go_wp2_with fail
      refine (hA _ (ha.no (((Fr.refl No w).alloc _).alloc _) hh) (by simp; omega)).mono ?_
      rintro e w2 ⟨-, h⟩
      obtain ⟨rfl, fr2⟩ := h HM.out
      clear h
      have b1 := (Blk.new' (w.alloc (.cells #[.int .u8 k, .int .i64 n, .string s, .slice A l.length cap, .int .i64 r] 27)) 27 #[.int .u8 k', .int .i64 n', .string s', .slice A' l'.length cap', .int .i64 r'] (g := w.heap.size + 1) (by simp)).fr fr2 (fun h => h)
      have hF2 : Fr No w w2 := (((Fr.refl No w).alloc _).alloc _).trans fr2
      have hb2 := hb.no hF2 hh
      have hsz := fr2.size
      simp only [World.size_alloc] at hsz
      obtain ⟨c0, c1, c2, c3, c4, cf⟩ := b1.cells5
      have HF2 := hide hF2
      have hs1 : w.heap.size + 1 < w2.heap.size := by omega
      clear b1 ha hb hA
      go_wp2_with fail
      refine (hB _ (hb2.no ((Fr.refl No w2).alloc _) (by omega)) (by simp; omega)).mono ?_
      rintro e w3 ⟨hy, hn⟩
      have h3 : ∃ m' f, e = .returned (.tuple #[m', .int .i64 f]) ∧ Fr No (w2.alloc (.cells #[.nilIface] 45)) w3 ∧ (m' = .nilIface ∨ ∃ t x, m' = .iface t x) := by
        cases hmv : v.may
        · obtain ⟨rfl, fr⟩ := hn hmv; exact ⟨_, _, rfl, fr, .inl rfl⟩
        · obtain ⟨m, rfl, hk, fr⟩ := hy hmv; exact ⟨_, _, rfl, fr, .inr hk.iface⟩
      clear hy hn
      obtain ⟨m', f, rfl, fr3, hm'⟩ := h3
      have hF3 := (HF2.out.alloc (.cells #[.nilIface] 45)).trans fr3
      have HF3 := hide hF3
      clear hF3
      rcases hm' with rfl | ⟨t, x, rfl⟩
      all_goals
        go_wp2
        go_ret2
        exact ⟨by rw [H1.out, H2.out]; rfl, HF3.out.alloc _⟩
    · cases hmv : v.may
      · have h1 : u.ans v = 0 := by simp [V.ans, hmv]
        have h2 : u.err2 v = 2 := by simp [V.err2, hmv]
        have H1 := hide h1
        have H2 := hide h2
        have HM := hide hmu
        have HN := hide hmv
        clear h1 h2 hmu hmv
        go_enter Try.func20, Try.ntmps20
        go_wp2_with fail
        refine (hA _ (ha.no (((Fr.refl No w).alloc _).alloc _) hh) (by simp; omega)).mono ?_
        rintro e w2 ⟨h, -⟩
        obtain ⟨m1, rfl, hk1, fr2⟩ := h HM.out
        obtain ⟨t1, x1, rfl⟩ := hk1.iface
        clear h
        have b1 := (Blk.new' (w.alloc (.cells #[.int .u8 k, .int .i64 n, .string s, .slice A l.length cap, .int .i64 r] 27)) 27 #[.int .u8 k', .int .i64 n', .string s', .slice A' l'.length cap', .int .i64 r'] (g := w.heap.size + 1) (by simp)).fr fr2 (fun h => h)
        have hF2 : Fr No w w2 := (((Fr.refl No w).alloc _).alloc _).trans fr2
        have hb2 := hb.no hF2 hh
        have hsz := fr2.size
        simp only [World.size_alloc] at hsz
        obtain ⟨c0, c1, c2, c3, c4, cf⟩ := b1.cells5
        have HF2 := hide hF2
        have hs1 : w.heap.size + 1 < w2.heap.size := by omega
        clear b1 ha hb hA
        go_wp2_with fail
        refine (hB _ (hb2.no ((Fr.refl No w2).alloc _) (by omega)) (by simp; omega)).mono ?_
        rintro e w3 ⟨-, h⟩
        obtain ⟨rfl, fr3⟩ := h HN.out
        clear h
        have hF3 := (HF2.out.alloc (.cells #[.iface t1 x1] 45)).trans fr3
        have HF3 := hide hF3
        clear hF3
        go_wp2
        go_ret2
        exact ⟨by rw [H1.out, H2.out]; rfl, HF3.out.alloc _⟩
      · have h1 : u.ans v = u.cmp v := by simp [V.ans, hmu, hmv]
        have h2 : u.err2 v = 0 := by simp [V.err2, hmu, hmv]
        have hd := may_dep hmu
        have H1 := hide h1
        have H2 := hide h2
        have HM := hide hmu
        have HN := hide hmv
        have hmf : ∀ (fn : Fn) (first cap : Array Value) (w : World), (Instr.makeFunc fn first cap).run Try.prog w = .ok (.func fn first cap) w := fun _ _ _ _ => rfl
        clear h1 h2 hmu hmv
        go_enter Try.func20, Try.ntmps20
        go_wp2_with fail
        refine (hA _ (ha.no (((Fr.refl No w).alloc _).alloc _) hh) (by simp; omega)).mono ?_
        rintro e w2 ⟨h, -⟩
        obtain ⟨m1, rfl, hk1, fr2⟩ := h HM.out
        have hi1 := hk1.iface
        obtain ⟨t1, x1, rfl⟩ := hi1
        clear h
        have b1 := (Blk.new' (w.alloc (.cells #[.int .u8 k, .int .i64 n, .string s, .slice A l.length cap, .int .i64 r] 27)) 27 #[.int .u8 k', .int .i64 n', .string s', .slice A' l'.length cap', .int .i64 r'] (g := w.heap.size + 1) (by simp)).fr fr2 (fun h => h)
        have hF2 : Fr No w w2 := (((Fr.refl No w).alloc _).alloc _).trans fr2
        have hb2 := hb.no hF2 hh
        have hsz := fr2.size
        simp only [World.size_alloc] at hsz
        obtain ⟨c0, c1, c2, c3, c4, cf⟩ := b1.cells5
        have HF2 := hide hF2
        have hs1 : w.heap.size + 1 < w2.heap.size := by omega
        clear b1 ha hb hA
        go_wp2_with fail
        refine (hB _ (hb2.no ((Fr.refl No w2).alloc _) (by omega)) (by simp; omega)).mono ?_
        rintro e w3 ⟨h, -⟩
        obtain ⟨m2, rfl, hk2, fr3⟩ := h HN.out
        have hi2 := hk2.iface
        obtain ⟨t2, x2, rfl⟩ := hi2
        clear h
        have hF3 := (HF2.out.alloc (.cells #[.iface t1 x1] 45)).trans fr3
        have HF3 := hide hF3
        have bm1 := (Blk.new w2 45 #[.iface t1 x1]).fr fr3 (fun h => h)
        have hq := bm1.lt
        have HB1 := hide bm1
        clear hF3 bm1
        go_wp2_with fail
        have bm1 := HB1.out
        have e1 := (((bm1.alloc (.cells #[.iface t2 x2] 45)).alloc (.cells #[.int .u8 0] 30)).alloc (.cells #[.bool false] 4))
        have e2 := (((Blk.new w3 45 #[.iface t2 x2]).alloc (.cells #[.int .u8 0] 30)).alloc (.cells #[.bool false] 4))
        have e3 := ((Blk.new' (w3.alloc (.cells #[.iface t2 x2] 45)) 30 #[.int .u8 0] (g := w3.heap.size + 1) (by simp)).alloc (.cells #[.bool false] 4))
        have hsz3 := hF2.size
        rcases eql_marks hk1 hk2 hd (((w3.alloc (.cells #[.iface t2 x2] 45)).alloc (.cells #[.int .u8 0] 30)).alloc (.cells #[.bool false] 4)) with ⟨hc, he⟩ | ⟨hc, he⟩ | ⟨hc, s1, he⟩
        · have hcall := cmp1_ret w2.heap.size w3.heap.size (w3.heap.size + 1) t1 t2 x1 x2 false _ (e1.cell 0) (e2.cell 0) (e3.cell 0) (e3.frozen 0) he
          simp only [Bool.false_eq_true, if_false] at hcall
          refine (met_ret _ _ _ hcall (Blk.new' _ _ _ (by simp))).mono ?_
          rintro e w4 ⟨rfl, rfl⟩
          have g3 := e3.far (p := ⟨w3.heap.size + 1 + 1, 0, none⟩) (by simp) (.bool false)
          have d0 := g3.cell 0
          simp only [List.getElem?_toArray, List.getElem?_cons_zero] at d0
          have HC := hide hc
          have hz3 := hF2.size
          have hz4 := fr3.size
          simp at hz4
          clear hc he hcall
          go_wp2
          go_ret2
          exact ⟨by rw [H1.out, H2.out, HC.out]; rfl, (by repeat (first | with_reducible exact HF3.out | with_reducible refine Fr.setNew ?_ (by simp; omega) _ | with_reducible refine Fr.alloc ?_ _))⟩
        · have hcall := cmp1_ret w2.heap.size w3.heap.size (w3.heap.size + 1) t1 t2 x1 x2 true _ (e1.cell 0) (e2.cell 0) (e3.cell 0) (e3.frozen 0) he
          simp only [if_true] at hcall
          refine (met_ret _ _ _ hcall ((Blk.new' _ _ _ (by simp)).far (p := ⟨w3.heap.size + 1, 0, none⟩) (by simp) _)).mono ?_
          rintro e w4 ⟨rfl, rfl⟩
          have g3 := (e3.set_ 0 (.int .u8 1)).far (p := ⟨w3.heap.size + 1 + 1, 0, none⟩) (by simp) (.bool false)
          have d0 := g3.cell 0
          simp only [List.setIfInBounds_toArray, List.set_cons_zero, List.getElem?_toArray, List.getElem?_cons_zero] at d0
          have HC := hide hc
          have hz3 := hF2.size
          have hz4 := fr3.size
          simp at hz4
          clear hc he hcall
          go_wp2
          go_ret2
          exact ⟨by rw [H1.out, H2.out, HC.out]; rfl, (by repeat (first | with_reducible exact HF3.out | with_reducible refine Fr.setNew ?_ (by simp; omega) _ | with_reducible refine Fr.alloc ?_ _))⟩
        · have hcall := cmp1_panic w2.heap.size w3.heap.size (w3.heap.size + 1) t1 t2 x1 x2 s1 _ (e1.cell 0) (e2.cell 0) he
          refine (met_panic _ _ _ _ _ assert10 hcall (Blk.new' _ _ _ (by simp))).mono ?_
          rintro e w4 ⟨rfl, rfl⟩
          have HC := hide hc
          have hz3 := hF2.size
          have hz4 := fr3.size
          simp at hz4
          clear hc he hcall
          go_wp2
          go_ret2
          exact ⟨by rw [H1.out, H2.out, HC.out]; rfl, (by repeat (first | with_reducible exact HF3.out | with_reducible refine Fr.setNew ?_ (by simp; omega) _ | with_reducible refine Fr.alloc ?_ _))⟩

end Go.Proofs.Ytihjmipmjogpoaa

/- Whether a mark can be a key: what Go's own check of a map's key comes to. -/
namespace Go.Proofs.Ytihjmipmjogpoaa
open Go.RowKit

/-- No row in it. -/
def V.keys : V → Bool
  | .mk k _ _ l _ => if k = 3 then decide (l.length = 2) && (l.map V.keys).all id else true
termination_by v => v

theorem V.keys_mk (k n : Int) (s : ByteArray) (l : List V) (r : Int) : (V.mk k n s l r).keys = if k = 3 then decide (l.length = 2) && l.all V.keys else true := by
  rw [V.keys, List.all_map]; rfl

/-- What a check of a key comes to: it passes, or panics of Go's own. -/
def KeyRes (res : Result Unit) (b : Bool) (w : World) : Prop :=
  (b = true ∧ res = .ok () w) ∨ (b = false ∧ ∃ ty pv, (ty = 10 ∨ ty = 19) ∧ res = .halt (.panic (.iface ty pv)) w)

theorem runtimePanic_errorU (m : String) (w : World) : (runtimePanic (α := Unit) (.error m)).run Try.prog w = .halt (.panic (.iface 10 (strVal m))) w := by
  have h : Try.prog.rt.errorString = 10 := by kernel_rfl
  simp [runtimePanic, run_program, goPanic, h]

theorem runtimePanic_unhash (t : TypeId) (w : World) : (runtimePanic (α := Unit) (.unhashable t)).run Try.prog w = .halt (.panic (.iface 19 (.agg #[typeHandle Try.prog t]))) w := by
  have h : Try.prog.rt.unhashableTypeError = 19 := by kernel_rfl
  simp [runtimePanic, run_program, goPanic, h]

theorem key_ok {d : Nat} {a : TypeId} {x : Value} {e : Bool} {w : World} (h : (Try.prog.info? a).map (·.comparable) = some true) :
    (Instr.checkKey e (d + 1) 45 (.iface a x)).run Try.prog w = (Instr.checkKey e d a x).run Try.prog w := by
  obtain ⟨ms, h45⟩ := ms45
  obtain ⟨i, hi, hc⟩ := ty_comparable a true h
  simp [Instr.checkKey, run_underlying h45, typeInfo, hi, hc]

theorem key_row {d : Nat} {x : Value} {e : Bool} {w : World} : ∃ ty pv, (ty = 10 ∨ ty = 19) ∧ (Instr.checkKey e (d + 1) 45 (.iface 183 x)).run Try.prog w = .halt (.panic (.iface ty pv)) w := by
  obtain ⟨ms, h45⟩ := ms45
  obtain ⟨i, hi, hc⟩ := ty_comparable 183 false cmp183
  cases e
  · refine ⟨10, strVal ("hash of unhashable type " ++ "brand.row"), .inl rfl, ?_⟩
    simp [Instr.checkKey, run_underlying h45, typeInfo, hi, hc, typeStr_row, runtimePanic_errorU]
  · refine ⟨19, .agg #[typeHandle Try.prog 183], .inr rfl, ?_⟩
    simp [Instr.checkKey, run_underlying h45, typeInfo, hi, hc, runtimePanic_unhash]

theorem key_pair {d : Nat} {x y : Value} {e : Bool} {w : World} {b1 b2 : Bool} (hx : ∃ t v, x = .iface t v) (hy : ∃ t v, y = .iface t v)
    (h1 : KeyRes ((Instr.checkKey e d 45 x).run Try.prog w) b1 w) (h2 : KeyRes ((Instr.checkKey e d 45 y).run Try.prog w) b2 w) :
    KeyRes ((Instr.checkKey e (d + 1) 180 (.agg #[x, y])).run Try.prog w) (b1 && b2) w := by
  obtain ⟨t1, v1, rfl⟩ := hx
  obtain ⟨t2, v2, rfl⟩ := hy
  have e : (Instr.checkKey e (d + 1) 180 (.agg #[.iface t1 v1, .iface t2 v2])).run Try.prog w =
      ((Instr.checkKey e d 45 (.iface t1 v1)).run Try.prog w).andThen fun _ w' => (Instr.checkKey e d 45 (.iface t2 v2)).run Try.prog w' := by
    simp [Instr.checkKey, run_underlying Try.underlying180, go_sem]
  rw [e]
  rcases h1 with ⟨rfl, h1⟩ | ⟨rfl, ty, pv, ht, h1⟩
  · rw [h1]
    simp only [Result.andThen_ok, Bool.true_and]
    exact h2
  · rw [h1]
    exact .inr ⟨by simp, ty, pv, ht, rfl⟩

theorem key_int {d : Nat} {n : Int} {e : Bool} {w : World} : (Instr.checkKey e (d + 1) 176 (.int .i64 n)).run Try.prog w = .ok () w := by
  simp [Instr.checkKey, run_underlying Try.underlying176]
theorem key_text {d : Nat} {s : ByteArray} {e : Bool} {w : World} : (Instr.checkKey e (d + 1) 177 (.string s)).run Try.prog w = .ok () w := by
  simp [Instr.checkKey, run_underlying Try.underlying177]
theorem key_ref {d : Nat} {n : Int} {e : Bool} {w : World} : (Instr.checkKey e (d + 1) 178 (.int .i64 n)).run Try.prog w = .ok () w := by
  simp [Instr.checkKey, run_underlying Try.underlying178]
theorem key_none {d : Nat} {e : Bool} {w : World} : (Instr.checkKey e (d + 1) 185 (.agg #[])).run Try.prog w = .ok () w := by
  simp [Instr.checkKey, run_underlying Try.underlying185]

theorem run_key (u : V) : ∀ (d : Nat) (m : Value) (e : Bool) (w : World), 2 * u.dep + 2 ≤ d → IsMk u m → KeyRes ((Instr.checkKey e d 45 m).run Try.prog w) u.keys w := by
  induction u using V.ind with
  | h k n s l r ih =>
    intro d m e w hd h1
    rw [IsMk_mk] at h1
    rw [V.keys_mk]
    obtain ⟨d, rfl⟩ : ∃ e, d = e + 2 := ⟨d - 2, by omega⟩
    by_cases h3 : k = 3
    · subst h3
      rw [if_pos rfl]
      have e1 : listMk (l.map IsMk) m := by simpa [mkOf] using h1
      by_cases hl : l.length = 2
      · obtain ⟨a, b, rfl⟩ := at2 hl
        obtain ⟨x, y, rfl, hx, hy⟩ := e1
        rw [key_ok cmp180]
        have hda : a.dep ≤ top [a.dep, b.dep] := le_top (by simp)
        have hdb : b.dep ≤ top [a.dep, b.dep] := le_top (by simp)
        rw [V.dep_mk, if_pos rfl] at hd
        simp only [List.map_cons, List.map_nil] at hd
        have g := key_pair hx.iface hy.iface (ih a (by simp) d x e w (by omega) hx) (ih b (by simp) d y e w (by omega) hy)
        simpa using g
      · rw [listMk_row (by simpa using hl)] at e1
        obtain ⟨A1, n1, c1, rfl⟩ := e1
        obtain ⟨ty, pv, ht, hr⟩ := key_row (d := d + 1) (x := .agg #[.slice A1 n1 c1]) (e := e) (w := w)
        exact .inr ⟨by simp [hl], ty, pv, ht, hr⟩
    · rw [if_neg h3]
      refine .inl ⟨rfl, ?_⟩
      unfold mkOf at h1
      by_cases k1 : k = 1
      · rw [if_pos k1] at h1; subst h1; rw [key_ok cmp176]; exact key_int
      rw [if_neg k1] at h1
      by_cases k2 : k = 2
      · rw [if_pos k2] at h1; subst h1; rw [key_ok cmp177]; exact key_text
      rw [if_neg k2] at h1
      by_cases k4 : k = 4
      · rw [if_pos k4] at h1; subst h1; rw [key_ok cmp178]; exact key_ref
      rw [if_neg k4, if_neg h3] at h1
      subst h1; rw [key_ok cmp185]; exact key_none

end Go.Proofs.Ytihjmipmjogpoaa

/- Maps whose keys are marks: what a look-up, a store, a deletion comes to. -/
namespace Go.Proofs.Ytihjmipmjogpoaa
open Go.RowKit

theorem get_map {W : World} {B : Nat} {es : Array MapEntry} {c : Nat} (h : W.heap[B]? = some (.map es c)) : (getObj B).run Try.prog W = .ok (.map es c) W := by
  simp [getObj, Sem.run, h]

theorem set_map {W : World} {B : Nat} {es : Array MapEntry} {c : Nat} (o : Obj) (h : W.heap[B]? = some (.map es c)) : (setObj B o).run Try.prog W = .ok () (W.putObj B o) := by
  simp [setObj, Sem.run, h, World.putObj]

/-- Where a value stands in a list: the first one that its mark is equal to. -/
def pos (u : V) : List V → Option Nat
  | [] => none
  | v :: vs => if u.cmp v = 1 then some 0 else (pos u vs).map (· + 1)

theorem pos_lt {u : V} : ∀ {vs : List V} {i : Nat}, pos u vs = some i → i < vs.length
  | [], i, h => by simp [pos] at h
  | v :: vs, i, h => by
    unfold pos at h
    by_cases hc : u.cmp v = 1
    · rw [if_pos hc] at h; simp at h; subst h; simp
    · rw [if_neg hc] at h
      simp at h
      obtain ⟨j, hj, rfl⟩ := h
      have := pos_lt hj
      simp; omega

/-- The keys of a map's entries are the marks of some values. -/
def KeysAre (es : List MapEntry) (vs : List V) : Prop := es.length = vs.length ∧ ∀ (i : Nat) (e : MapEntry) (v : V), es[i]? = some e → vs[i]? = some v → IsMk v e.key

theorem KeysAre.cons {e : MapEntry} {es : List MapEntry} {v : V} {vs : List V} (h : KeysAre (e :: es) (v :: vs)) : IsMk v e.key ∧ KeysAre es vs :=
  ⟨h.2 0 e v rfl rfl, by simpa using h.1, fun i e' v' he hv => h.2 (i + 1) e' v' he hv⟩

/-- What is found. -/
def found (es : List MapEntry) (i0 : Nat) : Option Nat → Option (Nat × Value)
  | none => none
  | some i => (es[i]?).map fun e => (i0 + i, e.val)

theorem run_findAsking (u : V) (m : Value) (hm : IsMk u m) (hd : u.dep ≤ 16) (w : World) : ∀ (es : List MapEntry) (vs : List V) (i0 : Nat), KeysAre es vs → (∀ v ∈ vs, u.cmp v ≠ 2) →
    (Instr.findAsking 45 m es i0).run Try.prog w = .ok (found es i0 (pos u vs)) w
  | [], [], i0, _, _ => by simp [Instr.findAsking, pos, found]
  | [], v :: vs, i0, h, _ => by have := h.1; simp at this
  | e :: es, [], i0, h, _ => by have := h.1; simp at this
  | e :: es, v :: vs, i0, h, hk => by
    obtain ⟨hv, hr⟩ := h.cons
    have ih := run_findAsking u m hm hd w es vs (i0 + 1) hr fun v hv => hk v (by simp [hv])
    have heq := run_eq u v 10000 m e.key w (by omega) hm hv
    unfold Instr.findAsking
    simp only [Sem.run_bind, Op.equal, Op.maxDepth]
    rcases heq with ⟨h0, hq⟩ | ⟨h1, hq⟩ | ⟨h2, _⟩
    · rw [hq]
      simp only [Result.andThen_ok, Bool.false_eq_true, if_false, ih, pos]
      rw [if_neg (by omega)]
      cases hp : pos u vs with
      | none => rfl
      | some i => simp [found]; rw [show i0 + 1 + i = i0 + (i + 1) from by omega]
    · rw [hq]
      simp [pos, h1, found]
    · exact absurd h2 (hk v (by simp))

theorem run_findKey (u : V) (m : Value) (hm : IsMk u m) (hd : u.dep ≤ 16) (w : World) (es : List MapEntry) (vs : List V) (h : KeysAre es vs) (hk : ∀ v ∈ vs, u.cmp v ≠ 2) :
    (Instr.findKey 45 m es).run Try.prog w = .ok (found es 0 (pos u vs)) w := by
  obtain ⟨ms, h45⟩ := ms45
  unfold Instr.findKey
  simp only [Sem.run_bind, run_underlying h45, Result.andThen_ok]
  cases es with
  | nil =>
    have : vs = [] := by have := h.1; simp at this; exact List.eq_nil_of_length_eq_zero this.symm
    subst this
    simp [Instr.findNow, pos, found]
  | cons e es =>
    have : Instr.findNow (.interface ms) m (e :: es) 0 = none := by simp [Instr.findNow, Instr.sameNow]
    rw [this]
    exact run_findAsking u m hm hd w _ vs 0 h hk

/-- A look-up. -/
theorem run_lookup_mark {t el : TypeId} {z : Value} (ht : Try.prog.underlying t = some (.map 45 el)) (w : World) (hz : (zeroValue el).run Try.prog w = .ok z w) (u : V) (m : Value) (hm : IsMk u m) (hd : u.dep ≤ 16) (hkey : u.keys = true) (c : Bool)
    {B : Nat} {es : Array MapEntry} {cl : Nat} (hB : w.heap[B]? = some (.map es cl)) {vs : List V} (h : KeysAre es.toList vs) (hk : ∀ v ∈ vs, u.cmp v ≠ 2) :
    (Instr.lookup t (.map (some B)) m c).run Try.prog w =
      .ok (let r := match found es.toList 0 (pos u vs) with | some (_, v) => (v, true) | none => (z, false); if c then .tuple #[r.1, .bool r.2] else r.1) w := by
  have hc := run_key u 10000 m es.isEmpty w (by omega) hm
  rcases hc with ⟨_, hc⟩ | ⟨h0, _⟩
  · unfold Instr.lookup
    simp only [Sem.run_bind, run_underlying ht, Result.andThen_ok, get_map hB, Sem.run_pure, hc, run_findKey u m hm hd w es.toList vs h hk]
    cases found es.toList 0 (pos u vs) with
    | none => cases c <;> simp [hz]
    | some p => cases c <;> simp
  · rw [hkey] at h0; cases h0

/-- A look-up by a mark that can't be a key. -/
theorem run_lookup_row {t el : TypeId} (ht : Try.prog.underlying t = some (.map 45 el)) (w : World) (u : V) (m : Value) (hm : IsMk u m) (hd : u.dep ≤ 16) (hkey : u.keys = false) (c : Bool)
    {B : Nat} {es : Array MapEntry} {cl : Nat} (hB : w.heap[B]? = some (.map es cl)) :
    ∃ ty pv, (ty = 10 ∨ ty = 19) ∧ (Instr.lookup t (.map (some B)) m c).run Try.prog w = .halt (.panic (.iface ty pv)) w := by
  have hc := run_key u 10000 m es.isEmpty w (by omega) hm
  rcases hc with ⟨h0, _⟩ | ⟨_, ty, pv, hty, hc⟩
  · rw [hkey] at h0; cases h0
  · refine ⟨ty, pv, hty, ?_⟩
    unfold Instr.lookup
    simp only [Sem.run_bind, run_underlying ht, Result.andThen_ok, get_map hB, Sem.run_pure, hc]
    rfl

/-- The entry of a mark in an empty map. -/
theorem run_mapEntry_empty {t el : TypeId} {z : Value} (ht : Try.prog.underlying t = some (.map 45 el)) (w : World) (hz : (zeroValue el).run Try.prog w = .ok z w) (u : V) (m : Value) (hm : IsMk u m) (hd : u.dep ≤ 16) (hkey : u.keys = true)
    {B : Nat} (hB : w.heap[B]? = some (.map #[] 0)) :
    (Instr.mapEntry t (.map (some B)) m).run Try.prog w = .ok (.tuple #[z, .int .i64 0]) (w.putObj B (.map #[{ key := m, val := z, born := 0 }] 1)) := by
  have hc := run_key u 10000 m false w (by omega) hm
  rcases hc with ⟨_, hc⟩ | ⟨h0, _⟩
  · have hf := run_findKey u m hm hd w [] [] ⟨rfl, by simp⟩ (by simp)
    unfold Instr.mapEntry
    simp only [Sem.run_bind, run_underlying ht, Result.andThen_ok, get_map hB, Sem.run_pure, hc, hf, hz, pos, found, set_map _ hB]
    rfl
  · rw [hkey] at h0; cases h0

theorem run_mapEntry_row {t el : TypeId} (ht : Try.prog.underlying t = some (.map 45 el)) (w : World) (u : V) (m : Value) (hm : IsMk u m) (hd : u.dep ≤ 16) (hkey : u.keys = false)
    {B : Nat} {es : Array MapEntry} {cl : Nat} (hB : w.heap[B]? = some (.map es cl)) :
    ∃ ty pv, (ty = 10 ∨ ty = 19) ∧ (Instr.mapEntry t (.map (some B)) m).run Try.prog w = .halt (.panic (.iface ty pv)) w := by
  have hc := run_key u 10000 m false w (by omega) hm
  rcases hc with ⟨h0, _⟩ | ⟨_, ty, pv, hty, hc⟩
  · rw [hkey] at h0; cases h0
  · refine ⟨ty, pv, hty, ?_⟩
    unfold Instr.mapEntry
    simp only [Sem.run_bind, run_underlying ht, Result.andThen_ok, get_map hB, hc]
    rfl

theorem run_entryStore_one (t : TypeId) (w : World) (m z v : Value) {B : Nat} (hB : w.heap[B]? = some (.map #[{ key := m, val := z, born := 0 }] 1)) :
    (Instr.entryStore t (.map (some B)) (.int .i64 0) v).run Try.prog w = .ok () (w.putObj B (.map #[{ key := m, val := v, born := 0 }] 1)) := by
  unfold Instr.entryStore
  simp [get_map hB, asInt, asIntOf]
  exact set_map _ hB

end Go.Proofs.Ytihjmipmjogpoaa

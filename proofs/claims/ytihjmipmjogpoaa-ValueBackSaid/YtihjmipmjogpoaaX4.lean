import Derived.Test.YtihjmipmjogpoaaB2
import Derived.Deep.RegionHeld3
import Derived.Deep.AppendLies
import Derived.Deep.RegionLaw
namespace Go.Proofs.Ytihjmipmjogpoaa
open Go.RowKit

/-- What a pair's or a row's mark looks like, out of what its parts' do. -/
def listMk (ps : List (Value → Prop)) (m : Value) : Prop :=
  match ps with
  | [p, q] => ∃ x y, m = .iface 180 (.agg #[x, y]) ∧ p x ∧ q y
  | _ => ∃ A len cap, m = .iface 183 (.agg #[.slice A len cap])

def mkOf (k n : Int) (s : ByteArray) (ps : List (Value → Prop)) (r : Int) (m : Value) : Prop :=
  if k = 1 then m = .iface 176 (.int .i64 n)
  else if k = 2 then m = .iface 177 (.string s)
  else if k = 4 then m = .iface 178 (.int .i64 r)
  else if k = 3 then listMk ps m
  else m = .iface 185 (.agg #[])

/-- What the mark of a value looks like. -/
def IsMk : V → Value → Prop
  | .mk k n s l r => mkOf k n s (l.map IsMk) r
termination_by v => v

theorem IsMk_mk (k n : Int) (s : ByteArray) (l : List V) (r : Int) : IsMk (.mk k n s l r) = mkOf k n s (l.map IsMk) r := by rw [IsMk]

theorem listMk_row {ps : List (Value → Prop)} {m : Value} (h : ps.length ≠ 2) : listMk ps m = ∃ A len cap, m = .iface 183 (.agg #[.slice A len cap]) := by
  match ps, h with
  | [], _ => rfl
  | [p], _ => rfl
  | [p, q], h => simp at h
  | p :: q :: x :: ps, _ => rfl

theorem mkOf.iface {k n : Int} {s : ByteArray} {ps : List (Value → Prop)} {r : Int} {m : Value} (h : mkOf k n s ps r m) : ∃ ty x, m = .iface ty x := by
  unfold mkOf at h
  by_cases h1 : k = 1
  · rw [if_pos h1] at h; exact ⟨_, _, h⟩
  rw [if_neg h1] at h
  by_cases h2 : k = 2
  · rw [if_pos h2] at h; exact ⟨_, _, h⟩
  rw [if_neg h2] at h
  by_cases h4 : k = 4
  · rw [if_pos h4] at h; exact ⟨_, _, h⟩
  rw [if_neg h4] at h
  by_cases h3 : k = 3
  · rw [if_pos h3] at h
    by_cases hl : ps.length = 2
    · obtain ⟨p, q, rfl⟩ : ∃ p q, ps = [p, q] := by
        match ps, hl with
        | [p, q], _ => exact ⟨p, q, rfl⟩
      obtain ⟨x, y, h, _⟩ := h; exact ⟨_, _, h⟩
    · rw [listMk_row hl] at h
      obtain ⟨A, le, ca, h⟩ := h; exact ⟨_, _, h⟩
  · rw [if_neg h3] at h; exact ⟨_, _, h⟩

theorem IsMk.iface {v : V} {m : Value} (h : IsMk v m) : ∃ ty x, m = .iface ty x := by
  cases v with
  | mk k n s l r => rw [IsMk_mk] at h; exact mkOf.iface h

def MarkP (v : V) (w : World) (e : Ending) (w' : World) : Prop := ∃ m, e = .returned m ∧ IsMk v m ∧ Fr No w w'

theorem Fr.grownNo {a w : World} (h : Fr No a w) : a.grownBy w none := ⟨h.os, h.tape, h.output, h.size, fun k hk _ => h.block k hk (fun h => h)⟩

theorem owns_no {a w : World} {base : Nat} {e : TypeId} {size : Nat} {v : Value} {n : Nat} {xs : List Value} (h : a.ownsRow base e size v n xs) (hf : Fr No a w) : w.ownsRow base e size v n xs :=
  h.kept hf.grownNo (by cases v.ownBlock <;> simp)

theorem mark_after {W0 w2 : World} {g base j : Nat} {v m : Value} {xs : List Value} (hb : Blk W0 g 183 #[v]) (ho : W0.ownsRow base 45 1 v j xs) (fr : Fr No W0.drew w2) :
    (w2.alloc (.cells #[m] 45)).ownsRow base 45 1 v j xs ∧ (w2.alloc (.cells #[m] 45)).cell? ⟨g, 0, none⟩ = some v ∧ (w2.alloc (.cells #[m] 45)).frozen? ⟨g, 0, none⟩ = false ∧ w2.cell? ⟨g, 0, none⟩ = some v ∧ W0.heap.size ≤ w2.heap.size ∧ g < w2.heap.size := by
  have h1 : Blk w2 g 183 #[v] := Blk.fr (a := W0.drew) hb fr (fun h => h)
  have h2 := h1.alloc (.cells #[m] 45)
  exact ⟨(owns_no (a := W0.drew) ho fr).alloc _, h2.cell 0, h2.frozen 0, h1.cell 0, fr.size, h1.lt⟩

theorem mark_grown {W w3 : World} {g : Nat} {v : Value} (hg : W.grownBy w3 v.ownBlock) (hc : W.cell? ⟨g, 0, none⟩ = some v) (hf : W.frozen? ⟨g, 0, none⟩ = false) (hlt : g < W.heap.size) (hne : some g ≠ v.ownBlock) :
    w3.cell? ⟨g, 0, none⟩ = some v ∧ w3.frozen? ⟨g, 0, none⟩ = false :=
  ⟨(hg.cell_far ⟨g, 0, none⟩ hlt hne).trans hc, (hg.frozen_far ⟨g, 0, none⟩ hlt hne).trans hf⟩

structure MarkInv (w : World) (X : Array Value) (j : Nat) (wr : World) : Prop where
  fr : Fr No w wr
  big : w.heap.size + 2 ≤ wr.heap.size
  row : ∃ v xs, Blk wr (w.heap.size + 1) 183 #[v] ∧ wr.ownsRow (w.heap.size + 2) 45 1 v j xs

theorem mark_info : (Try.prog.info? 45).map (fun i => (i.zero, i.size, i.bytes)) = some (some .nilIface, 1, 16) := by kernel_rfl

theorem at2 {α : Type} {l : List α} (h : l.length = 2) : ∃ a b, l = [a, b] := by
  match l, h with
  | [a, b], _ => exact ⟨a, b, rfl⟩

set_option maxRecDepth 100000 in
set_option maxHeartbeats 2000000 in
theorem mark_any (t : T) : ∀ (w : World) (lo hi : Nat), t.In w lo hi → hi ≤ w.heap.size → Calls Try.prog 93 #[t.val] w (MarkP t.v w) := by
  induction t using T.ind with
  | h k n s A cap l r ih =>
    intro w lo hi ht hh
    rw [T.val_mk]
    have fit := (T.in_mk.1 ht).1
    have hlen := fit.len1
    by_cases h3 : k = 3
    · subst h3
      by_cases hl2 : l.length = 2
      · obtain ⟨x1, x2, rfl⟩ := at2 hl2
        obtain ⟨b, o, k1, n1, s1, A1, cap1, l1, r1, rfl, hb0, hb1, rfl, hin, e0, e1, e2, e3, e4⟩ := T.elem ht (j := 0) (by simp)
        obtain ⟨b', o', k2, n2, s2, A2, cap2, l2, r2, hbb, hb0', hb1', rfl, hin', f0, f1, f2, f3, f4⟩ := T.elem ht (j := 1) (by simp)
        simp only [Option.some.injEq, Addr.mk.injEq, and_true] at hbb
        obtain ⟨rfl, rfl⟩ := hbb
        have IH1 := ih _ (by simp : T.mk k1 n1 s1 A1 cap1 l1 r1 ∈ _)
        have IH2 := ih _ (by simp : T.mk k2 n2 s2 A2 cap2 l2 r2 ∈ _)
        rw [T.val_mk] at IH1 IH2
        simp only [Nat.zero_mul, Nat.add_zero, Nat.one_mul] at e0 e1 e2 e3 e4 f0 f1 f2 f3 f4
        have hbw : b < w.heap.size := by omega
        have hbw' : b ≤ w.heap.size := by omega
        clear ih hl2
        go_enter Try.func93, Try.ntmps93
        go_wp2_with fail
        have frw := (Fr.refl No w).alloc (.cells #[.int .u8 3, .int .i64 n, .string s, .slice (some ⟨b, o, none⟩) 2 cap, .int .i64 r] 27)
        obtain ⟨c0, c1, c2, c3, c4, cf⟩ := (Blk.new w 27 #[.int .u8 3, .int .i64 n, .string s, .slice (some ⟨b, o, none⟩) 2 cap, .int .i64 r]).cells5
        have hin1 := hin.no frw hh
        have hin2 := hin'.no frw hh
        rw [← frw.cells _ _ hbw] at e0 e1 e2 e3 e4 f0 f1 f2 f3 f4
        have hsz0 : (w.alloc (.cells #[.int .u8 3, .int .i64 n, .string s, .slice (some ⟨b, o, none⟩) 2 cap, .int .i64 r] 27)).heap.size = w.heap.size + 1 := by simp
        generalize w.alloc (.cells #[.int .u8 3, .int .i64 n, .string s, .slice (some ⟨b, o, none⟩) 2 cap, .int .i64 r] 27) = W0 at *
        have hb2 : b < W0.heap.size := by omega
        have hb3 : w.heap.size < W0.heap.size := by omega
        have HF := hide frw
        have HZ := hide hsz0
        clear frw hsz0 hin hin' ht
        have hh0 : hi ≤ W0.heap.size := by have := HZ.out; omega
        go_region_held3 (fun w' => (∀ c i, c < W0.heap.size → w'.cell? ⟨c, i, none⟩ = W0.cell? ⟨c, i, none⟩) ∧ Fr No W0 w')
          (first | exact ⟨fun _ _ _ => rfl, Fr.drew (Fr.refl No W0)⟩ | (have hq : Fr No W0 _ := (‹_ ∧ Fr No W0 _›).2.trans ‹Fr No _ _›; exact ⟨hq.cells, hq⟩))
          (first
            | (go_at_call 93; have hs0 := (‹_ ∧ Fr No W0 _›).2; ((with_reducible refine (IH1 _ lo hi ?_ ?_).mono ?_); (exact hin1.no hs0 hh0); (exact Nat.le_trans hh0 hs0.size); rintro e w2 ⟨m1, rfl, hm1, fr1⟩; obtain ⟨ty1, y1, rfl⟩ := hm1.iface))
            | (go_at_call 93; have hs0 := (‹_ ∧ Fr No W0 _›).2; ((with_reducible refine (IH2 _ lo hi ?_ ?_).mono ?_); (exact hin2.no hs0 hh0); (exact Nat.le_trans hh0 hs0.size); rintro e w3 ⟨m2, rfl, hm2, fr2⟩; obtain ⟨ty2, y2, rfl⟩ := hm2.iface)))
        go_wp2
        go_ret
        refine ⟨_, rfl, ?_, ?_⟩
        · rw [T.v_mk, IsMk_mk]
          exact ⟨_, _, rfl, hm1, hm2⟩
        · exact HF.out.trans (‹Fr No W0 w2›.trans fr2)
      · have hl2' : ((l.length : Int) == 2) = false := by simp; omega
        obtain ⟨i0, hi0, hz0, hz1, hz2⟩ := info_parts mark_info
        go_enter Try.func93, Try.ntmps93
        go_wp2_with fail
        go_loopw [44] (fun i wr => ∃ j : Nat, j ≤ l.length ∧ i = .int .i64 j ∧ MarkInv w #[] j wr) (fun i _ => l.length - (intOf i).toNat)
        case atStart =>
          exact ⟨0, Nat.zero_le _, rfl, ((Fr.refl No w).alloc _).alloc _, by simp, _, [], Blk.new' (w.alloc _) 183 _ (by simp), World.ownsRow_nil _ _ _ _⟩
        case round =>
          obtain ⟨j, hj, rfl, inv⟩ := hrel
          have fr := inv.fr
          have big := inv.big
          obtain ⟨v, xs, blk, own⟩ := inv.row
          by_cases hlt : j < l.length
          · obtain ⟨b, o, k1, n1, s1, A1, cap1, l1, r1, rfl, hb0, hb1, hx, hin, e0, e1, e2, e3, e4⟩ := T.elem (ht.no fr hh) hlt
            have IH := ih l[j] (List.getElem_mem hlt)
            rw [hx, T.val_mk] at IH
            have HX := hide hx
            have hle := Nat.le_of_lt hlt
            clear hx ih inv
            have HT := hide ht
            clear ht
            go_wp2_with fail
            have blk1 := blk.alloc (.cells #[.int .u8 k1, .int .i64 n1, .string s1, .slice A1 l1.length cap1, .int .i64 r1] 27)
            have own1 := own.alloc (.cells #[.int .u8 k1, .int .i64 n1, .string s1, .slice A1 l1.length cap1, .int .i64 r1] 27)
            obtain ⟨x0, x1, x2, x3, x4, xf⟩ := (Blk.new wr 27 #[.int .u8 k1, .int .i64 n1, .string s1, .slice A1 l1.length cap1, .int .i64 r1]).cells5
            have frA := (Fr.refl No wr).alloc (.cells #[.int .u8 k1, .int .i64 n1, .string s1, .slice A1 l1.length cap1, .int .i64 r1] 27)
            have hinA := hin.no frA (by omega)
            have hszA : (wr.alloc (.cells #[.int .u8 k1, .int .i64 n1, .string s1, .slice A1 l1.length cap1, .int .i64 r1] 27)).heap.size = wr.heap.size + 1 := by simp
            generalize wr.alloc (.cells #[.int .u8 k1, .int .i64 n1, .string s1, .slice A1 l1.length cap1, .int .i64 r1] 27) = W0 at *
            have c0 := blk1.cell 0
            simp only [List.getElem?_toArray, List.getElem?_cons_zero] at c0
            have hv0 : ¬ v.ownBlock = some (w.heap.size + 1) := fun h => by have := own.lt _ h; omega
            have hv1 : ¬ v.ownBlock = some wr.heap.size := fun h => by have := own.lt _ h; omega
            have hq0 : w.heap.size + 1 < W0.heap.size := by omega
            have hq1 : wr.heap.size < W0.heap.size := by omega
            have hh0 : hi ≤ W0.heap.size := by omega
            have HF := hide frA
            have HZ := hide hszA
            have HB := hide blk1
            have HB0 := hide blk
            have HO := hide own
            have HO1 := hide own1
            have f0 := blk1.frozen 0
            have hv0' : some (w.heap.size + 1) ≠ v.ownBlock := Ne.symm hv0
            clear frA hszA blk1 hin e0 e1 e2 e3 e4 blk own own1
            go_region_law (first
              | ((refine step_append_lies _ (by rfl) _ _ _ (by rfl) (w.heap.size + 2) 45 i0 _ 1 16 Try.underlying181 hi0 hz0 hz1 hz2 rfl (by omega) v j xs (by rfl) ownD ⟨w2.heap.size, 0, none⟩ 1 1 [.iface ty1 y1] (by rfl) (by rfl) (cell_one_new _ _ _) (by simp [Value.oneCell']) (by omega) (by unfold maxLen; omega) (by omega) (by simp; omega) _ rfl ?_); intro g cp w3 hown3 hgrow hat hlt3; obtain ⟨c3, f3⟩ := mark_grown hgrow c2D f2D (by simp; omega) hv0')
              | (go_simp; go_at_call 93; (with_reducible refine (IH _ lo hi ?_ ?_).mono ?_); (exact hinA.no ((Fr.refl No W0).drew) hh0); (exact hh0); rintro e w2 ⟨m1, rfl, hm1, fr1⟩; obtain ⟨ty1, y1, rfl⟩ := hm1.iface; obtain ⟨ownD, c2D, f2D, c2, hsz2, hlt2⟩ := mark_after (m := .iface ty1 y1) HB.out HO1.out fr1))
            all_goals
              go_wp2
              go_roundw
              case rel =>
                have hb2 : Blk w3 (w.heap.size + 1) 183 #[v] := (hgrow.block (w.heap.size + 1) (by simp; omega) hv0').trans ((Blk.fr (a := W0.drew) HB.out fr1 (fun h => h)).alloc _)
                have hF : Fr No w w3 := (((((fr.thenNo HF.out).drew).thenNo fr1).alloc _).grown hgrow (fun c hc hlt => by have := HO.out.lt c hc; omega))
                exact ⟨j + 1, hlt, by go_num, hF.setNew (by simp) _, Nat.le_trans (by omega) (show w2.heap.size ≤ _ by have := hgrow.size; simp at this ⊢; omega), _, _, hb2.set_ 0 _, ownsRow_setCell_below hown3 (by simp) _⟩
              case measure => simp [intOf]; omega
          · obtain rfl : l.length = j := by omega
            have c0 := blk.cell 0
            simp only [List.getElem?_toArray, List.getElem?_cons_zero] at c0
            obtain ⟨A', n', c', rfl⟩ : ∃ A' n' c', v = .slice A' n' c' := by
              rcases own.2 with ⟨rfl, _⟩ | ⟨g, cp, cur, rfl, _⟩
              · exact ⟨_, _, _, rfl⟩
              · exact ⟨_, _, _, rfl⟩
            have HI := hide inv
            have HO := hide own
            clear inv own ih
            go_wp2
            go_ret
            refine ⟨_, rfl, ?_, HI.out.fr⟩
            rw [T.v_mk, IsMk_mk]
            show listMk _ _
            rw [listMk_row (by simpa using hl2)]
            exact ⟨_, _, _, rfl⟩
    · by_cases h1 : k = 1
      · subst h1
        go_enter Try.func93, Try.ntmps93
        go_wp2
        go_ret
        exact ⟨_, rfl, by rw [T.v_mk, IsMk_mk]; rfl, (Fr.refl No w).alloc _⟩
      have k1 : (k == 1) = false := by simp; exact h1
      by_cases h2 : k = 2
      · subst h2
        go_enter Try.func93, Try.ntmps93
        go_wp2
        go_ret
        exact ⟨_, rfl, by rw [T.v_mk, IsMk_mk]; rfl, (Fr.refl No w).alloc _⟩
      have k2 : (k == 2) = false := by simp; exact h2
      by_cases h4 : k = 4
      · subst h4
        go_enter Try.func93, Try.ntmps93
        go_wp2
        go_ret
        exact ⟨_, rfl, by rw [T.v_mk, IsMk_mk]; rfl, (Fr.refl No w).alloc _⟩
      have k4 : (k == 4) = false := by simp; exact h4
      have k3 : (k == 3) = false := by simp; exact h3
      go_enter Try.func93, Try.ntmps93
      go_wp2
      go_ret
      exact ⟨_, rfl, by rw [T.v_mk, IsMk_mk, mkOf, if_neg h1, if_neg h2, if_neg h4, if_neg h3]; rfl, (Fr.refl No w).alloc _⟩
end Go.Proofs.Ytihjmipmjogpoaa

/- (*Table).Put: what it answers, what the table holds then. -/
import Derived.Test.YtihjmipmjogpoaaTab2
namespace Go.Proofs.Ytihjmipmjogpoaa
open Go.RowKit

/-- Put's error: a key, a value that may not be; a mark that can't be a key. -/
def putErr (k v : V) : Int := if (k.may && v.may) = true then (if k.keys = true then 0 else 40) else 2

def tripZ (n : Int) : Value := .tuple #[.agg #[.int .u8 0, .int .i64 0, .string ⟨#[]⟩, .slice none 0 0, .int .i64 0], .bool false, .int .i64 n]

set_option maxRecDepth 10000 in
set_option maxHeartbeats 4000000 in
theorem Put_err (a b : T) (w : World) (lo hi : Nat) (ha : a.In w lo hi) (hb : b.In w lo hi) (hh : hi ≤ w.heap.size) (tb M O : Nat) (c : Int) (hT : Blk w tb 66 #[.map (some M), .map (some O), .int .i64 c]) (he : putErr a.v b.v ≠ 0) :
    Calls Try.prog 26 #[.pointer (some ⟨tb, 0, none⟩), a.val, b.val] w fun e w' => e = .returned (tripZ (putErr a.v b.v)) ∧ Fr No w w' := by
  have hA := fun w' h h' => may_any a w' lo hi h h'
  have hB := fun w' h h' => may_any b w' lo hi h h'
  have hF := fun w' h h' h'' => find_any a w' lo hi h h' tb M O c h''
  cases a with
  | mk k n s A cap l r =>
  cases b with
  | mk k' n' s' A' cap' l' r' =>
    rw [T.val_mk] at *
    rw [T.val_mk] at *
    generalize hu : (T.mk k n s A cap l r).v = u at *
    generalize hv : (T.mk k' n' s' A' cap' l' r').v = v at *
    have hW : Fr No w (((w.alloc (.cells #[.int .u8 k, .int .i64 n, .string s, .slice A l.length cap, .int .i64 r] 27)).alloc (.cells #[.int .u8 k', .int .i64 n', .string s', .slice A' l'.length cap', .int .i64 r'] 27)).alloc
        (.cells #[.int .u8 0, .int .i64 0, .string ⟨#[]⟩, .slice none 0 0, .int .i64 0] 27)) := (((Fr.refl No w).alloc _).alloc _).alloc _
    have hK : Blk (((w.alloc (.cells #[.int .u8 k, .int .i64 n, .string s, .slice A l.length cap, .int .i64 r] 27)).alloc (.cells #[.int .u8 k', .int .i64 n', .string s', .slice A' l'.length cap', .int .i64 r'] 27)).alloc
        (.cells #[.int .u8 0, .int .i64 0, .string ⟨#[]⟩, .slice none 0 0, .int .i64 0] 27)) w.heap.size 27 #[.int .u8 k, .int .i64 n, .string s, .slice A l.length cap, .int .i64 r] := ((Blk.new' w 27 _ rfl).alloc _).alloc _
    have hV : Blk (((w.alloc (.cells #[.int .u8 k, .int .i64 n, .string s, .slice A l.length cap, .int .i64 r] 27)).alloc (.cells #[.int .u8 k', .int .i64 n', .string s', .slice A' l'.length cap', .int .i64 r'] 27)).alloc
        (.cells #[.int .u8 0, .int .i64 0, .string ⟨#[]⟩, .slice none 0 0, .int .i64 0] 27)) (w.heap.size + 1) 27 #[.int .u8 k', .int .i64 n', .string s', .slice A' l'.length cap', .int .i64 r'] := (Blk.new' (w.alloc _) 27 _ (by simp)).alloc _
    have hZ : Blk (((w.alloc (.cells #[.int .u8 k, .int .i64 n, .string s, .slice A l.length cap, .int .i64 r] 27)).alloc (.cells #[.int .u8 k', .int .i64 n', .string s', .slice A' l'.length cap', .int .i64 r'] 27)).alloc
        (.cells #[.int .u8 0, .int .i64 0, .string ⟨#[]⟩, .slice none 0 0, .int .i64 0] 27)) (w.heap.size + 2) 27 #[.int .u8 0, .int .i64 0, .string ⟨#[]⟩, .slice none 0 0, .int .i64 0] := Blk.new' ((w.alloc _).alloc _) 27 _ (by simp)
    have hT0 := hT.fr hW (fun h => h)
    have ha0 := ha.no hW hh
    have hb0 := hb.no hW hh
    have hsz : w.heap.size + 3 ≤ (((w.alloc (.cells #[.int .u8 k, .int .i64 n, .string s, .slice A l.length cap, .int .i64 r] 27)).alloc (.cells #[.int .u8 k', .int .i64 n', .string s', .slice A' l'.length cap', .int .i64 r'] 27)).alloc
        (.cells #[.int .u8 0, .int .i64 0, .string ⟨#[]⟩, .slice none 0 0, .int .i64 0] 27)).heap.size := by simp
    have HU := hide hu
    have HV := hide hv
    clear hu hv ha hb hT
    cases hmu : u.may
    · have e1 : putErr u v = 2 := by simp [putErr, hmu]
      have E1 := hide e1
      rw [hmu] at hA
      clear e1 he hmu hB hF
      go_enter Try.func26, Try.ntmps26
      go_wp2_with fail
      generalize World.alloc _ (.cells #[.int .u8 0, .int .i64 0, .string ⟨#[]⟩, .slice none 0 0, .int .i64 0] 27) = W0 at *
      have hN := none_tab tb M O c _ hT0
      refine hN.mono ?_
      rintro e w' ⟨rfl, rfl⟩
      clear hN
      obtain ⟨c0, c1, c2, c3, c4, cf⟩ := hK.cells5
      go_wp2_with fail
      refine (hA _ ha0 (by omega)).mono ?_
      rintro e w2 ⟨rfl, fr2⟩
      obtain ⟨d0, d1, d2, d3, d4, df⟩ := (hZ.fr fr2 (fun h => h)).cells5
      have hF2 := hide (hW.trans fr2)
      clear fr2 hZ hV hK hT0 ha0 hb0 hW hA
      go_wp2
      refine bodyPost_ret (v := tripZ 2) (by simp [results, Try.results26, go_sem, tripZ, *]) rfl ?_
      refine ⟨by rw [E1.out], ?_⟩
      have hF2' := hF2.out
      repeat (first | with_reducible exact hF2' | with_reducible refine Fr.setNew ?_ (by simp; omega) _)

    · cases hmv : v.may
      · have e1 : putErr u v = 2 := by simp [putErr, hmv]
        have E1 := hide e1
        rw [hmu] at hA
        rw [hmv] at hB
        clear e1 he hmu hmv hF
        go_enter Try.func26, Try.ntmps26
        go_wp2_with fail
        generalize World.alloc _ (.cells #[.int .u8 0, .int .i64 0, .string ⟨#[]⟩, .slice none 0 0, .int .i64 0] 27) = W0 at *
        have hN := none_tab tb M O c _ hT0
        refine hN.mono ?_
        rintro e w' ⟨rfl, rfl⟩
        clear hN
        obtain ⟨c0, c1, c2, c3, c4, cf⟩ := hK.cells5
        go_wp2_with fail
        refine (hA _ ha0 (by omega)).mono ?_
        rintro e w2 ⟨rfl, fr2⟩
        obtain ⟨v0, v1, v2, v3, v4, vf⟩ := (hV.fr fr2 (fun h => h)).cells5
        clear hA
        go_wp2_with fail
        refine (hB _ (hb0.no fr2 (by omega)) (by have := fr2.size; omega)).mono ?_
        rintro e w3 ⟨rfl, fr3⟩
        have fr23 := fr2.trans fr3
        obtain ⟨d0, d1, d2, d3, d4, df⟩ := (hZ.fr fr23 (fun h => h)).cells5
        have hF2 := hide (hW.trans fr23)
        clear fr2 fr3 fr23 hZ hV hK hT0 ha0 hb0 hW hB v0 v1 v2 v3 v4 vf c0 c1 c2 c3 c4 cf
        go_wp2
        refine bodyPost_ret (v := tripZ 2) (by simp [results, Try.results26, go_sem, tripZ, *]) rfl ?_
        refine ⟨by rw [E1.out], ?_⟩
        have hF2' := hF2.out
        repeat (first | with_reducible exact hF2' | with_reducible refine Fr.setNew ?_ (by simp; omega) _)

      · have hk : u.keys = false := by
          cases hk : u.keys with
          | false => rfl
          | true => simp [putErr, hmu, hmv, hk] at he
        have e1 : putErr u v = 40 := by simp [putErr, hmu, hmv, hk]
        have E1 := hide e1
        have HM := hide hmu
        have HK := hide hk
        rw [hmu] at hA
        rw [hmv] at hB
        clear e1 he hmu hmv hk
        go_enter Try.func26, Try.ntmps26
        go_wp2_with fail
        generalize World.alloc _ (.cells #[.int .u8 0, .int .i64 0, .string ⟨#[]⟩, .slice none 0 0, .int .i64 0] 27) = W0 at *
        have hN := none_tab tb M O c _ hT0
        refine hN.mono ?_
        rintro e w' ⟨rfl, rfl⟩
        clear hN
        obtain ⟨c0, c1, c2, c3, c4, cf⟩ := hK.cells5
        go_wp2_with fail
        refine (hA _ ha0 (by omega)).mono ?_
        rintro e w2 ⟨rfl, fr2⟩
        obtain ⟨v0, v1, v2, v3, v4, vf⟩ := (hV.fr fr2 (fun h => h)).cells5
        clear hA c0 c1 c2 c3 c4 cf
        go_wp2_with fail
        refine (hB _ (hb0.no fr2 (by omega)) (by have := fr2.size; omega)).mono ?_
        rintro e w3 ⟨rfl, fr3⟩
        have fr23 := fr2.trans fr3
        obtain ⟨c0, c1, c2, c3, c4, cf⟩ := (hK.fr fr23 (fun h => h)).cells5
        clear hB v0 v1 v2 v3 v4 vf
        go_wp2_with fail
        refine (hF _ (ha0.no fr23 (by omega)) (by have := fr23.size; omega) (hT0.fr fr23 (fun h => h))).mono ?_
        rintro e w4 ⟨-, h, -⟩
        obtain ⟨rfl, fr4⟩ := h HM.out HK.out
        have fr24 := fr23.trans fr4
        obtain ⟨d0, d1, d2, d3, d4, df⟩ := (hZ.fr fr24 (fun h => h)).cells5
        have hF2 := hide (hW.trans fr24)
        clear h fr2 fr3 fr23 fr4 fr24 hZ hV hK hT0 ha0 hb0 hW hF c0 c1 c2 c3 c4 cf
        go_wp2
        refine bodyPost_ret (v := tripZ 40) (by simp [results, Try.results26, go_sem, tripZ, *]) rfl ?_
        refine ⟨by rw [E1.out], ?_⟩
        have hF2' := hF2.out
        repeat (first | with_reducible exact hF2' | with_reducible refine Fr.setNew ?_ (by simp; omega) _)

end Go.Proofs.Ytihjmipmjogpoaa

/- Chapter 2: value.walk. -/
import Derived.Test.YtihjmipmjogpoaaE7
namespace Go.Proofs.Ytihjmipmjogpoaa
open Go.RowKit

theorem int_info : (Try.prog.info? 3).map (fun i => (i.zero, i.size, i.bytes)) = some (some (.int .i64 0), 1, 8) := by kernel_rfl

theorem winv_step {J Jx : List (List Int × V) → (Nat → Prop) → World → Prop} {PRE L : List (List Int × V)} {M M1 : Nat → Prop} {W wr w4 w5 : World} {X : Array Value} {q : Bool} (fr : Fr M W wr) (hb : Blk wr W.heap.size 27 X) (hs1 : ∀ i, M1 i → i < W.heap.size → M i) (hn1 : ¬ M1 W.heap.size)
    (f4 : Fr No wr w4) (hq : WalkB J Jx PRE M1 L w4 q w5) : (q = true → WInv J (PRE ++ L) M W X w5) ∧ (q = false → ∃ M' : Nat → Prop, Fr M W w5 ∧ (∀ i, M' i → i < W.heap.size → M i) ∧ ∃ q', q' <+: L ∧ Jx (PRE ++ q') M' w5) := by
  obtain ⟨M5, f5, hs5, h1, h2⟩ := hq
  have hsz := fr.size
  have hsz4 := f4.size
  have hF : Fr M W w5 := (fr.thenNo f4).trans' f5 fun i hi h => hs1 i h hi
  have hM5 : ∀ i, M5 i → i < W.heap.size → M i := fun i h hi => hs1 i (hs5 i h (by omega)) hi
  refine ⟨fun hq => ⟨hF, (hb.fr f4 fun h => h).fr f5 hn1, M5, h1 hq, hM5, fun h => hn1 (hs5 _ h (by have := hb.lt; omega))⟩, fun hq => ?_⟩
  obtain ⟨q', hp, hx⟩ := h2 hq
  exact ⟨M5, hF, hM5, q', hp, hx⟩

theorem grown_no {W w w' : World} (h : Fr No W w) (hg : w.grownBy w' none) : Fr No W w' := h.grown hg fun k hk => by cases hk

theorem walkb_box {J Jx : List (List Int × V) → (Nat → Prop) → World → Prop} {PRE L : List (List Int × V)} {M1 : Nat → Prop} {w4 w5 : World} {q : Bool} {g : Nat} {X : Array Value} (hq : WalkB J Jx PRE M1 L w4 q w5) (hb : Blk w4 g 27 X) (hn : ¬ M1 g) : Blk w5 g 27 X := by
  obtain ⟨M5, f5, _⟩ := hq
  exact hb.fr f5 hn

theorem prefix_cons {α : Type} {x : α} {L a b c : List α} {q : List α} (h1 : L = x :: (a ++ (b ++ c))) (hq : q <+: b) : x :: (a ++ q) <+: L := by
  obtain ⟨d, rfl⟩ := hq
  exact ⟨d ++ c, by rw [h1]; simp⟩

set_option maxRecDepth 100000 in
set_option maxHeartbeats 4000000 in
theorem walk_any {N : Nat} {f : FuncId} {cp : Array Value} {J Jx : List (List Int × V) → (Nat → Prop) → World → Prop} (y : Yields N f cp J Jx) (t : T) : ∀ (pre : List (List Int × V)) (M : Nat → Prop) (W : World) (lo hi : Nat) (A : Option Addr) (cap : Nat) (p : List Int) (lo' hi' : Nat), J pre M W → t.In W lo hi → hi ≤ W.heap.size → (∀ i, lo ≤ i → i < hi → ¬ M i) →
    Ints W lo' hi' A cap p → hi' ≤ W.heap.size → (∀ i, lo' ≤ i → i < hi' → ¬ M i) → p.length + t.v.ht ≤ 1000 → pre.length + t.v.size ≤ N → Calls Try.prog 106 #[t.val, .slice A p.length cap, .func (.func f) #[] cp] W (WalkP J Jx pre M (t.v.walk p) W) := by
  induction t using T.ind with
  | h k n s A1 cap1 l r ih =>
    intro pre M W lo hi A cap p lo' hi' hJ ht hh hM hp hh' hM' hbnd hN
    have hY := y.call pre M (W.alloc (.cells #[.int .u8 k, .int .i64 n, .string s, .slice A1 l.length cap1, .int .i64 r] 27)) (T.mk k n s A1 cap1 l r) lo hi A cap p lo' hi' (by have := (T.mk k n s A1 cap1 l r).v.size_pos; omega) (y.no hJ ((Fr.refl No W).alloc _)) (ht.no ((Fr.refl No W).alloc _) hh) (by simp; omega) hM
      (hp.no ((Fr.refl No W).alloc _) hh') (by simp; omega) hM'
    rw [T.val_mk] at *
    have hK := Blk.new' W 27 #[.int .u8 k, .int .i64 n, .string s, .slice A1 l.length cap1, .int .i64 r] rfl
    have fr1 := (Fr.refl No W).alloc (.cells #[.int .u8 k, .int .i64 n, .string s, .slice A1 l.length cap1, .int .i64 r] 27)
    have hwk : (T.mk k n s A1 cap1 l r).v.walk p = (p, (T.mk k n s A1 cap1 l r).v) :: walkL ((l.map T.v).map V.walk) 0 p := by rw [T.v_mk, V.walk_mk]
    have hlt := y.lt pre M W hJ
    have heg := y.enters
    have HY := hide hY
    have HLT := hide hlt
    clear hlt
    clear hY
    go_enter Try.func106, Try.ntmps106
    go_wp2_with fail
    refine HY.out.mono ?_
    rintro e W2 ⟨M2, frM2, hsub2, ⟨rfl, hJ2⟩ | ⟨rfl, hJx2⟩⟩
    · have hM0 : ¬ M W.heap.size := fun h => by have := HLT.out _ h; omega
      have hM20 : ¬ M2 W.heap.size := fun h => hM0 (hsub2 _ h (by simp))
      have hst : WInv J (pre ++ (p, (T.mk k n s A1 cap1 l r).v) :: walkL (((l.map T.v).map V.walk).take 0) 0 p) M W #[.int .u8 k, .int .i64 n, .string s, .slice A1 l.length cap1, .int .i64 r] W2 :=
        ⟨(fr1.no (S := M)).trans frM2, hK.fr frM2 hM0, M2, by simpa [walkL] using hJ2, fun i h1 h2 => hsub2 i h1 (by simp; omega), hM20⟩
      have HST := hide hst
      obtain ⟨c0, c1, c2, c3, c4, cf⟩ := hst.box.cells5
      have hlen := (T.in_mk.1 ht).1.len1
      have q0 := hst.box.lt
      have HWK := hide hwk
      have HTT := hide ht
      clear hst hM20 hK hJ2 frM2 hsub2 fr1 hJ hwk ht
      go_wp2_with fail
      go_loopw [17] (fun i wr => ∃ j : Nat, j ≤ l.length ∧ i = .int .i64 j ∧ WInv J (pre ++ (p, (T.mk k n s A1 cap1 l r).v) :: walkL (((l.map T.v).map V.walk).take j) 0 p) M W #[.int .u8 k, .int .i64 n, .string s, .slice A1 l.length cap1, .int .i64 r] wr) (fun i _ => l.length - (intOf i).toNat)
      case atStart => exact ⟨0, Nat.zero_le _, rfl, HST.out⟩
      case round =>
        obtain ⟨j, hj, rfl, inv⟩ := hrel
        by_cases hlt : j < l.length
        · obtain ⟨fr, hb, M1, hJ1, hs1, hn1⟩ := inv
          obtain ⟨b, o, k1, n1, s1, A2, cap2, l1, r1, rfl, hb0, hb1, hx, hin, e0, e1, e2, e3, e4⟩ := T.elem (HTT.out.fr fr hh hM) hlt
          have hsz := fr.size
          have g0 : b < wr.heap.size := by omega
          have hlt1 := y.lt _ _ _ hJ1
          have hch : (T.mk k1 n1 s1 A2 cap2 l1 r1).v.ht + 1 ≤ (T.mk k n s (some ⟨b, o, none⟩) cap1 l r).v.ht := by
            rw [← hx, T.v_mk k n s]; exact ht_child (List.mem_map_of_mem (List.getElem_mem hlt))
          have hpl : p.length + 1 ≤ 1000 := by omega
          have hNN : (pre ++ (p, (T.mk k n s (some ⟨b, o, none⟩) cap1 l r).v) :: walkL (((l.map T.v).map V.walk).take j) 0 p).length + (T.mk k1 n1 s1 A2 cap2 l1 r1).v.size ≤ N := by
            have h1 : (walkL (((l.map T.v).map V.walk).take j) 0 p).length = (((l.map T.v).take j).map V.size).sum := by
              rw [← List.map_take]; exact walkL_length _ 0 p fun v _ => walk_length v
            have h2 := sum_take_succ ((l.map T.v).map V.size) j (by simpa using hlt)
            have h3 := sum_take_le ((l.map T.v).map V.size) (j + 1)
            rw [List.getElem_map, List.getElem_map, hx] at h2
            rw [List.map_take] at h1
            rw [T.v_mk k n s, V.size_mk] at hN
            rw [List.length_append, List.length_cons, h1]
            omega
          have hcapp := hp.cap
          have fr3 := (Fr.refl No wr).alloc (.cells #[.int .u8 k1, .int .i64 n1, .string s1, .slice A2 l1.length cap2, .int .i64 r1] 27)
          have hPW : ∀ w', Fr No (wr.alloc (.cells #[.int .u8 k1, .int .i64 n1, .string s1, .slice A2 l1.length cap2, .int .i64 r1] 27)) w' → Ints w' lo' hi' A p.length p := fun w' f => by
            have h := hp.fr (fr.thenNo (fr3.trans f)) hh' hM'
            exact ⟨h.len, Nat.le_refl _, h.at_, h.rng⟩
          have hnone : A = none → p.length = 0 ∧ p.length = 0 := fun hA => by
            rcases List.eq_nil_or_concat p with rfl | ⟨p', x, rfl⟩
            · simp
            · obtain ⟨b', o', h, _⟩ := hp.at_ (by simp)
              rw [hA] at h; cases h
          have hrec : ∀ (w4 : World) (g4 cap4 : Nat), Fr No (wr.alloc (.cells #[.int .u8 k1, .int .i64 n1, .string s1, .slice A2 l1.length cap2, .int .i64 r1] 27)) w4 → Ints w4 g4 (g4 + 1) (some ⟨g4, 0, none⟩) cap4 (p ++ [(j : Int)]) → wr.heap.size ≤ g4 → g4 < w4.heap.size →
              Calls Try.prog 106 #[.agg #[.int .u8 k1, .int .i64 n1, .string s1, .slice A2 l1.length cap2, .int .i64 r1], .slice (some ⟨g4, 0, none⟩) (p.length + 1) cap4, .func (.func f) #[] cp] w4 fun e w5 => ∃ q : Bool, e = .returned (.bool q) ∧
                WalkB J Jx (pre ++ (p, (T.mk k n s (some ⟨b, o, none⟩) cap1 l r).v) :: walkL (((l.map T.v).map V.walk).take j) 0 p) M1 ((T.mk k1 n1 s1 A2 cap2 l1 r1).v.walk (p ++ [(j : Int)])) w4 q w5 := by
            intro w4 g4 cap4 f4 hi4 h0 h1
            have f04 := fr3.trans f4
            have h := ih l[j] (List.getElem_mem hlt) (pre ++ (p, (T.mk k n s (some ⟨b, o, none⟩) cap1 l r).v) :: walkL (((l.map T.v).map V.walk).take j) 0 p) M1 w4 lo hi (some ⟨g4, 0, none⟩) cap4 (p ++ [(j : Int)]) g4 (g4 + 1) (y.no hJ1 f04)
              (by rw [hx]; exact hin.no f04 (by omega)) (by have := f04.size; omega) (fun i q0 q1 q2 => hM i q0 q1 (hs1 i q2 (by omega))) hi4 (by omega) (fun i q0 q1 q2 => by have := hlt1 i q2; omega) (by rw [List.length_append, hx]; simp; omega) (by rw [hx]; exact hNN)
            rw [hx, T.val_mk, List.length_append] at h
            exact h.mono fun e w5 hw => hw.bool
          have hbx := Blk.new wr 27 #[.int .u8 k1, .int .i64 n1, .string s1, .slice A2 l1.length cap2, .int .i64 r1]
          obtain ⟨i0, hi0, hz0, hz1, hz2⟩ := info_parts int_info
          have hrng : ∀ x ∈ p ++ [(j : Int)], -9223372036854775808 ≤ x ∧ x ≤ 9223372036854775807 := fun x hx => by
            rcases List.mem_append.1 hx with hx | hx
            · exact hp.rng x hx
            · simp at hx; omega
          have HREC := hide hrec
          have HPW := hide hPW
          have HBX := hide hbx
          have HNONE := hide hnone
          have HFR := hide fr
          have HB := hide hb
          have HS1 := hide hs1
          have HN1 := hide hn1
          have HF3 := hide fr3
          have HRNG := hide hrng
          have HX := hide hx
          have HLT1 := hide (fun h => by have := hlt1 wr.heap.size h; omega : ¬ M1 wr.heap.size)
          have hcl := fun w' => Clip_any A p.length cap hcapp (by omega) w'
          clear hrec hPW hbx hnone fr hb hs1 hn1 fr3 hin hx hJ1 hlt1 ih hch hrng
          go_wp2_with fail
          go_region_held3 (fun w' => w'.cell? ⟨wr.heap.size, 0, none⟩ = some (.int .u8 k1) ∧ w'.cell? ⟨wr.heap.size, 1, none⟩ = some (.int .i64 n1) ∧ w'.cell? ⟨wr.heap.size, 2, none⟩ = some (.string s1) ∧ w'.cell? ⟨wr.heap.size, 3, none⟩ = some (.slice A2 l1.length cap2) ∧ w'.cell? ⟨wr.heap.size, 4, none⟩ = some (.int .i64 r1))
            (first | with_reducible exact blk5 (Blk.drew HBX.out) | with_reducible exact blk5 (Blk.drew (Blk.alloc HBX.out _)) | with_reducible exact HS5.out | with_reducible exact HS4.out)
            (first
              | ((refine step_append_grows rfl _ _ _ (by rfl) 3 i0 _ 1 8 Try.underlying77 hi0 hz0 hz1 hz2 rfl (by omega) A p.length p.length (p.map fun x => Value.int .i64 x) (by rfl) HNONE.out (by simp) (Ints.old (HPW.out _ (by repeat (first | with_reducible exact Fr.refl No _ | with_reducible refine Fr.drew ?_ | with_reducible refine Fr.alloc ?_ _)))) ⟨wr.heap.size + 1, 0, none⟩ 1 1 [.int .i64 (j : Int)] (by rfl) (by rfl) (World.news_of_block (Blk.new' _ 3 #[.int .i64 (j : Int)] (by simp))) (by simp [Value.oneCell']) (by omega) (by unfold maxLen; omega) (by omega) ?_); intro v4 w4 hown hgrow; obtain ⟨g4, cap4, rfl, hg0, hg1⟩ := hown.form (by omega); have FR4 := hide (grown_no (W := wr.alloc (.cells #[.int .u8 k1, .int .i64 n1, .string s1, .slice A2 l1.length cap2, .int .i64 r1] 27)) (by repeat (first | with_reducible exact Fr.refl No _ | with_reducible refine Fr.drew ?_ | with_reducible refine Fr.alloc ?_ _)) hgrow); have INT4 := hide (ints_of_owns (p := p ++ [(j : Int)]) (by simpa using hown) (by simp; omega) HRNG.out); have hg0' : wr.heap.size ≤ g4 := (by simp at hg0; omega); have HG0 := hide hg0'; have HS4 := hide (blk5 (Blk.fr HBX.out FR4.out fun h => h)); clear hown hgrow hg0 hg0')
              | (go_at_call 106; ((with_reducible refine (HREC.out w4 g4 cap4 FR4.out INT4.out HG0.out hg1).mono ?_); rintro e w5 ⟨q, rfl, hq⟩; have HW := hide (winv_step HFR.out HB.out HS1.out HN1.out (HF3.out.trans FR4.out) hq); have HS5 := hide (blk5 (walkb_box hq (Blk.fr HBX.out FR4.out fun h => h) HLT1.out)); clear hq))
              | (go_at_call 137; (with_reducible refine (hcl _).mono ?_); rintro e wc ⟨rfl, rfl⟩))
          all_goals
            have hW := HW.out
            cases q with
            | true =>
              have HW2 := hide (hW.1 rfl)
              clear hW
              go_wp2
              go_roundw
              case rel =>
                refine ⟨j + 1, hlt, by go_num, ?_⟩
                have h := HW2.out
                have hx' := HX.out
                rw [walkL_take _ _ (by simpa using hlt), ← List.cons_append, ← List.append_assoc, List.getElem_map, List.getElem_map, hx']
                exact h
              case measure => simp [intOf]; omega
            | false =>
              have hpost : WalkP J Jx pre M ((T.mk k n s (some ⟨b, o, none⟩) cap1 l r).v.walk p) W (.returned (.bool false)) w5 := by
                obtain ⟨M', f, hs, q', hp', hx2⟩ := hW.2 rfl
                have hx' := HX.out
                refine ⟨M', f, hs, .inr ⟨rfl, (p, (T.mk k n s (some ⟨b, o, none⟩) cap1 l r).v) :: (walkL (((l.map T.v).map V.walk).take j) 0 p ++ q'), ?_, by simpa using hx2⟩⟩
                refine prefix_cons (b := (T.mk k1 n1 s1 A2 cap2 l1 r1).v.walk (p ++ [(j : Int)])) (c := walkL (((l.map T.v).map V.walk).drop (j + 1)) (0 + (((l.map T.v).map V.walk).take (j + 1)).length) p) ?_ hp'
                rw [HWK.out]
                congr 1
                have h1 := walkL_take ((l.map T.v).map V.walk) p (j := j) (by simpa using hlt)
                rw [List.getElem_map, List.getElem_map, hx'] at h1
                rw [← List.append_assoc, ← h1, ← walkL_append, List.take_append_drop]
              have HP := hide hpost
              clear hpost hW
              go_wp2
              go_ret
              exact HP.out
        · obtain rfl : j = l.length := by omega
          have hpost : WalkP J Jx pre M ((T.mk k n s A1 cap1 l r).v.walk p) W (.returned (.bool true)) wr := by
            obtain ⟨fr, hb, M1, hJ1, hs1, _⟩ := inv
            rw [List.take_of_length_le (by simp)] at hJ1
            exact ⟨M1, fr, hs1, .inl ⟨rfl, by rw [HWK.out]; exact hJ1⟩⟩
          have HP := hide hpost
          clear hpost inv ih
          go_wp2
          go_ret
          exact HP.out
    · have hpost : WalkP J Jx pre M ((T.mk k n s A1 cap1 l r).v.walk p) W (.returned (.bool false)) W2 :=
        ⟨M2, (fr1.no (S := M)).trans frM2, fun i h1 h2 => hsub2 i h1 (by simp; omega), .inr ⟨rfl, [(p, (T.mk k n s A1 cap1 l r).v)], ⟨walkL ((l.map T.v).map V.walk) 0 p, by rw [hwk]; rfl⟩, hJx2⟩⟩
      have HP := hide hpost
      clear hpost hJx2 frM2 hsub2 ih hwk
      go_wp2
      go_ret
      exact HP.out

end Go.Proofs.Ytihjmipmjogpoaa

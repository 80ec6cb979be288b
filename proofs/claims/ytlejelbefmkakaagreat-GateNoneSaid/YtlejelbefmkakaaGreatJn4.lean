/- Texts joined: E8, E9, Wo30, Wo31, Wq, Wo2, Wo3, Wo5. -/
import Derived.Test.YtlejelbefmkakaaGreatJn3
import Derived.LoopN
import Derived.Deep.Cut
import Derived.Deep.CutRange
import Derived.Deep.RegionHeld3
/- Chapter 2: value.walk. -/
namespace Go.Proofs.YtlejelbefmkakaaGreat
open Go.RowKit

theorem int_info : (Tryz.prog.info? 3).map (fun i => (i.zero, i.size, i.bytes)) = some (some (.int .i64 0), 1, 8) := by kernel_rfl

theorem winv_step {J Jx : List (List Int × V) → (Nat → Prop) → World → Prop} {PRE L : List (List Int × V)} {M M1 : Nat → Prop} {W wr w4 w5 : World} {X : Array Value} {q : Bool} (fr : Fr M W wr) (hb : Blk wr W.heap.size 28 X) (hs1 : ∀ i, M1 i → i < W.heap.size → M i) (hn1 : ¬ M1 W.heap.size)
    (f4 : Fr No wr w4) (hq : WalkB J Jx PRE M1 L w4 q w5) : (q = true → WInv J (PRE ++ L) M W X w5) ∧ (q = false → ∃ M' : Nat → Prop, Fr M W w5 ∧ (∀ i, M' i → i < W.heap.size → M i) ∧ ∃ q', q' <+: L ∧ Jx (PRE ++ q') M' w5) := by
  obtain ⟨M5, f5, hs5, h1, h2⟩ := hq
  have hsz := fr.size
  have hsz4 := f4.size
  have hF : Fr M W w5 := (fr.thenNo f4).trans' f5 fun i hi h => hs1 i h hi
  have hM5 : ∀ i, M5 i → i < W.heap.size → M i := fun i h hi => hs1 i (hs5 i h (by omega)) hi
  refine ⟨fun hq => ⟨hF, (hb.fr f4 fun h => h).fr f5 hn1, M5, h1 hq, hM5, fun h => hn1 (hs5 _ h (by have := hb.lt; omega))⟩, fun hq => ?_⟩
  obtain ⟨q', hp, hx⟩ := h2 hq
  exact ⟨M5, hF, hM5, q', hp, hx⟩

theorem grown_no {W w w' : World} (h : Fr No W w) (hg : w.grownBy w' none) : Fr No W w' := h.grown hg fun k hk => by cases hk

theorem walkb_box {J Jx : List (List Int × V) → (Nat → Prop) → World → Prop} {PRE L : List (List Int × V)} {M1 : Nat → Prop} {w4 w5 : World} {q : Bool} {g : Nat} {X : Array Value} (hq : WalkB J Jx PRE M1 L w4 q w5) (hb : Blk w4 g 28 X) (hn : ¬ M1 g) : Blk w5 g 28 X := by
  obtain ⟨M5, f5, _⟩ := hq
  exact hb.fr f5 hn

theorem prefix_cons {α : Type} {x : α} {L a b c : List α} {q : List α} (h1 : L = x :: (a ++ (b ++ c))) (hq : q <+: b) : x :: (a ++ q) <+: L := by
  obtain ⟨d, rfl⟩ := hq
  exact ⟨d ++ c, by rw [h1]; simp⟩

set_option maxRecDepth 100000 in
set_option maxHeartbeats 4000000 in
theorem walk_any {N : Nat} {f : FuncId} {cp : Array Value} {J Jx : List (List Int × V) → (Nat → Prop) → World → Prop} (y : Yields N f cp J Jx) (t : T) : ∀ (pre : List (List Int × V)) (M : Nat → Prop) (W : World) (lo hi : Nat) (A : Option Addr) (cap : Nat) (p : List Int) (lo' hi' : Nat), J pre M W → t.In W lo hi → hi ≤ W.heap.size → (∀ i, lo ≤ i → i < hi → ¬ M i) →
    Ints W lo' hi' A cap p → hi' ≤ W.heap.size → (∀ i, lo' ≤ i → i < hi' → ¬ M i) → p.length + t.v.ht ≤ 1000 → pre.length + t.v.size ≤ N → Calls Tryz.prog 164 #[t.val, .slice A p.length cap, .func (.func f) #[] cp] W (WalkP J Jx pre M (t.v.walk p) W) := by
  induction t using T.ind with
  | h k n s A1 cap1 l r ih =>
    intro pre M W lo hi A cap p lo' hi' hJ ht hh hM hp hh' hM' hbnd hN
    have hY := y.call pre M (W.alloc (.cells #[.int .u8 k, .int .i64 n, .string s, .slice A1 l.length cap1, .int .i64 r] 28)) (T.mk k n s A1 cap1 l r) lo hi A cap p lo' hi' (by have := (T.mk k n s A1 cap1 l r).v.size_pos; omega) (y.no hJ ((Fr.refl No W).alloc _)) (ht.no ((Fr.refl No W).alloc _) hh) (by simp; omega) hM
      (hp.no ((Fr.refl No W).alloc _) hh') (by simp; omega) hM'
    rw [T.val_mk] at *
    have hK := Blk.new' W 28 #[.int .u8 k, .int .i64 n, .string s, .slice A1 l.length cap1, .int .i64 r] rfl
    have fr1 := (Fr.refl No W).alloc (.cells #[.int .u8 k, .int .i64 n, .string s, .slice A1 l.length cap1, .int .i64 r] 28)
    have hwk : (T.mk k n s A1 cap1 l r).v.walk p = (p, (T.mk k n s A1 cap1 l r).v) :: walkL ((l.map T.v).map V.walk) 0 p := by rw [T.v_mk, V.walk_mk]
    have hlt := y.lt pre M W hJ
    have heg := y.enters
    have HY := hide hY
    have HLT := hide hlt
    clear hlt
    clear hY
    go_enter Tryz.func164, Tryz.ntmps164
    go_wp2_with fail
    refine HY.out.mono ?_
    rintro e W2 ⟨M2, frM2, hsub2, ⟨rfl, hJ2⟩ | ⟨rfl, hJx2⟩⟩
    · have hM0 : ¬ M W.heap.size := fun h => by have := HLT.out _ h; omega
      have hM20 : ¬ M2 W.heap.size := fun h => hM0 (hsub2 _ h (by simp))
      have hst : WInv J (pre ++ (p, (T.mk k n s A1 cap1 l r).v) :: walkL (((l.map T.v).map V.walk).take 0) 0 p) M W #[.int .u8 k, .int .i64 n, .string s, .slice A1 l.length cap1, .int .i64 r] W2 :=
        ⟨(fr1.no (S := M)).trans frM2, hK.fr frM2 hM0, M2, by simpa [walkL] using hJ2, fun i h1 h2 => hsub2 i h1 (by simp; omega), hM20⟩
      have HST := hide hst
      obtain ⟨c0, c1, c2, c3, c4, cf⟩ := hst.box.cells5
      have hlen := (T.in_mk.1 ht).1.len1
      have q0 := hst.box.lt
      have HWK := hide hwk
      have HTT := hide ht
      clear hst hM20 hK hJ2 frM2 hsub2 fr1 hJ hwk ht
      go_wp2_with fail
      go_loopw [17] (fun i wr => ∃ j : Nat, j ≤ l.length ∧ i = .int .i64 j ∧ WInv J (pre ++ (p, (T.mk k n s A1 cap1 l r).v) :: walkL (((l.map T.v).map V.walk).take j) 0 p) M W #[.int .u8 k, .int .i64 n, .string s, .slice A1 l.length cap1, .int .i64 r] wr) (fun i _ => l.length - (intOf i).toNat)
      case atStart => exact ⟨0, Nat.zero_le _, rfl, HST.out⟩
      case round =>
        obtain ⟨j, hj, rfl, inv⟩ := hrel
        by_cases hlt : j < l.length
        · obtain ⟨fr, hb, M1, hJ1, hs1, hn1⟩ := inv
          obtain ⟨b, o, k1, n1, s1, A2, cap2, l1, r1, rfl, hb0, hb1, hx, hin, e0, e1, e2, e3, e4⟩ := T.elem (HTT.out.fr fr hh hM) hlt
          have hsz := fr.size
          have g0 : b < wr.heap.size := by omega
          have hlt1 := y.lt _ _ _ hJ1
          have hch : (T.mk k1 n1 s1 A2 cap2 l1 r1).v.ht + 1 ≤ (T.mk k n s (some ⟨b, o, none⟩) cap1 l r).v.ht := by
            rw [← hx, T.v_mk k n s]; exact ht_child (List.mem_map_of_mem (List.getElem_mem hlt))
          have hpl : p.length + 1 ≤ 1000 := by omega
          have hNN : (pre ++ (p, (T.mk k n s (some ⟨b, o, none⟩) cap1 l r).v) :: walkL (((l.map T.v).map V.walk).take j) 0 p).length + (T.mk k1 n1 s1 A2 cap2 l1 r1).v.size ≤ N := by
            have h1 : (walkL (((l.map T.v).map V.walk).take j) 0 p).length = (((l.map T.v).take j).map V.size).sum := by
              rw [← List.map_take]; exact walkL_length _ 0 p fun v _ => walk_length v
            have h2 := sum_take_succ ((l.map T.v).map V.size) j (by simpa using hlt)
            have h3 := sum_take_le ((l.map T.v).map V.size) (j + 1)
            rw [List.getElem_map, List.getElem_map, hx] at h2
            rw [List.map_take] at h1
            rw [T.v_mk k n s, V.size_mk] at hN
            rw [List.length_append, List.length_cons, h1]
            omega
          have hcapp := hp.cap
          have fr3 := (Fr.refl No wr).alloc (.cells #[.int .u8 k1, .int .i64 n1, .string s1, .slice A2 l1.length cap2, .int .i64 r1] 28)
          have hPW : ∀ w', Fr No (wr.alloc (.cells #[.int .u8 k1, .int .i64 n1, .string s1, .slice A2 l1.length cap2, .int .i64 r1] 28)) w' → Ints w' lo' hi' A p.length p := fun w' f => by
            have h := hp.fr (fr.thenNo (fr3.trans f)) hh' hM'
            exact ⟨h.len, Nat.le_refl _, h.at_, h.rng⟩
          have hnone : A = none → p.length = 0 ∧ p.length = 0 := fun hA => by
            rcases List.eq_nil_or_concat p with rfl | ⟨p', x, rfl⟩
            · simp
            · obtain ⟨b', o', h, _⟩ := hp.at_ (by simp)
              rw [hA] at h; cases h
          have hrec : ∀ (w4 : World) (g4 cap4 : Nat), Fr No (wr.alloc (.cells #[.int .u8 k1, .int .i64 n1, .string s1, .slice A2 l1.length cap2, .int .i64 r1] 28)) w4 → Ints w4 g4 (g4 + 1) (some ⟨g4, 0, none⟩) cap4 (p ++ [(j : Int)]) → wr.heap.size ≤ g4 → g4 < w4.heap.size →
              Calls Tryz.prog 164 #[.agg #[.int .u8 k1, .int .i64 n1, .string s1, .slice A2 l1.length cap2, .int .i64 r1], .slice (some ⟨g4, 0, none⟩) (p.length + 1) cap4, .func (.func f) #[] cp] w4 fun e w5 => ∃ q : Bool, e = .returned (.bool q) ∧
                WalkB J Jx (pre ++ (p, (T.mk k n s (some ⟨b, o, none⟩) cap1 l r).v) :: walkL (((l.map T.v).map V.walk).take j) 0 p) M1 ((T.mk k1 n1 s1 A2 cap2 l1 r1).v.walk (p ++ [(j : Int)])) w4 q w5 := by
            intro w4 g4 cap4 f4 hi4 h0 h1
            have f04 := fr3.trans f4
            have h := ih l[j] (List.getElem_mem hlt) (pre ++ (p, (T.mk k n s (some ⟨b, o, none⟩) cap1 l r).v) :: walkL (((l.map T.v).map V.walk).take j) 0 p) M1 w4 lo hi (some ⟨g4, 0, none⟩) cap4 (p ++ [(j : Int)]) g4 (g4 + 1) (y.no hJ1 f04)
              (by rw [hx]; exact hin.no f04 (by omega)) (by have := f04.size; omega) (fun i q0 q1 q2 => hM i q0 q1 (hs1 i q2 (by omega))) hi4 (by omega) (fun i q0 q1 q2 => by have := hlt1 i q2; omega) (by rw [List.length_append, hx]; simp; omega) (by rw [hx]; exact hNN)
            rw [hx, T.val_mk, List.length_append] at h
            exact h.mono fun e w5 hw => hw.bool
          have hbx := Blk.new wr 28 #[.int .u8 k1, .int .i64 n1, .string s1, .slice A2 l1.length cap2, .int .i64 r1]
          obtain ⟨i0, hi0, hz0, hz1, hz2⟩ := info_parts int_info
          have hrng : ∀ x ∈ p ++ [(j : Int)], -9223372036854775808 ≤ x ∧ x ≤ 9223372036854775807 := fun x hx => by
            rcases List.mem_append.1 hx with hx | hx
            · exact hp.rng x hx
            · simp at hx; omega
          have HREC := hide hrec
          have HPW := hide hPW
          have HBX := hide hbx
          have HNONE := hide hnone
          have HFR := hide fr
          have HB := hide hb
          have HS1 := hide hs1
          have HN1 := hide hn1
          have HF3 := hide fr3
          have HRNG := hide hrng
          have HX := hide hx
          have HLT1 := hide (fun h => by have := hlt1 wr.heap.size h; omega : ¬ M1 wr.heap.size)
          have hcl := fun w' => Clip_any A p.length cap hcapp (by omega) w'
          clear hrec hPW hbx hnone fr hb hs1 hn1 fr3 hin hx hJ1 hlt1 ih hch hrng
          go_wp2_with fail
          go_region_held3 (fun w' => w'.cell? ⟨wr.heap.size, 0, none⟩ = some (.int .u8 k1) ∧ w'.cell? ⟨wr.heap.size, 1, none⟩ = some (.int .i64 n1) ∧ w'.cell? ⟨wr.heap.size, 2, none⟩ = some (.string s1) ∧ w'.cell? ⟨wr.heap.size, 3, none⟩ = some (.slice A2 l1.length cap2) ∧ w'.cell? ⟨wr.heap.size, 4, none⟩ = some (.int .i64 r1))
            (first | with_reducible exact blk5 (Blk.drew HBX.out) | with_reducible exact blk5 (Blk.drew (Blk.alloc HBX.out _)) | with_reducible exact HS5.out | with_reducible exact HS4.out)
            (first
              | ((refine step_append_grows rfl _ _ _ (by rfl) 3 i0 _ 1 8 Tryz.underlying36 hi0 hz0 hz1 hz2 rfl (by omega) A p.length p.length (p.map fun x => Value.int .i64 x) (by rfl) HNONE.out (by simp) (Ints.old (HPW.out _ (by repeat (first | with_reducible exact Fr.refl No _ | with_reducible refine Fr.drew ?_ | with_reducible refine Fr.alloc ?_ _)))) ⟨wr.heap.size + 1, 0, none⟩ 1 1 [.int .i64 (j : Int)] (by rfl) (by rfl) (World.news_of_block (Blk.new' _ 3 #[.int .i64 (j : Int)] (by simp))) (by simp [Value.oneCell']) (by omega) (by unfold maxLen; omega) (by omega) ?_); intro v4 w4 hown hgrow; obtain ⟨g4, cap4, rfl, hg0, hg1⟩ := hown.form (by omega); have FR4 := hide (grown_no (W := wr.alloc (.cells #[.int .u8 k1, .int .i64 n1, .string s1, .slice A2 l1.length cap2, .int .i64 r1] 28)) (by repeat (first | with_reducible exact Fr.refl No _ | with_reducible refine Fr.drew ?_ | with_reducible refine Fr.alloc ?_ _)) hgrow); have INT4 := hide (ints_of_owns (p := p ++ [(j : Int)]) (by simpa using hown) (by simp; omega) HRNG.out); have hg0' : wr.heap.size ≤ g4 := (by simp at hg0; omega); have HG0 := hide hg0'; have HS4 := hide (blk5 (Blk.fr HBX.out FR4.out fun h => h)); clear hown hgrow hg0 hg0')
              | (go_at_call 164; ((with_reducible refine (HREC.out w4 g4 cap4 FR4.out INT4.out HG0.out hg1).mono ?_); rintro e w5 ⟨q, rfl, hq⟩; have HW := hide (winv_step HFR.out HB.out HS1.out HN1.out (HF3.out.trans FR4.out) hq); have HS5 := hide (blk5 (walkb_box hq (Blk.fr HBX.out FR4.out fun h => h) HLT1.out)); clear hq))
              | (go_at_call 217; (with_reducible refine (hcl _).mono ?_); rintro e wc ⟨rfl, rfl⟩))
          all_goals
            have hW := HW.out
            cases q with
            | true =>
              have HW2 := hide (hW.1 rfl)
              clear hW
              go_wp2
              go_roundw
              case rel =>
                refine ⟨j + 1, hlt, by go_num, ?_⟩
                have h := HW2.out
                have hx' := HX.out
                rw [walkL_take _ _ (by simpa using hlt), ← List.cons_append, ← List.append_assoc, List.getElem_map, List.getElem_map, hx']
                exact h
              case measure => simp [intOf]; omega
            | false =>
              have hpost : WalkP J Jx pre M ((T.mk k n s (some ⟨b, o, none⟩) cap1 l r).v.walk p) W (.returned (.bool false)) w5 := by
                obtain ⟨M', f, hs, q', hp', hx2⟩ := hW.2 rfl
                have hx' := HX.out
                refine ⟨M', f, hs, .inr ⟨rfl, (p, (T.mk k n s (some ⟨b, o, none⟩) cap1 l r).v) :: (walkL (((l.map T.v).map V.walk).take j) 0 p ++ q'), ?_, by simpa using hx2⟩⟩
                refine prefix_cons (b := (T.mk k1 n1 s1 A2 cap2 l1 r1).v.walk (p ++ [(j : Int)])) (c := walkL (((l.map T.v).map V.walk).drop (j + 1)) (0 + (((l.map T.v).map V.walk).take (j + 1)).length) p) ?_ hp'
                rw [HWK.out]
                congr 1
                have h1 := walkL_take ((l.map T.v).map V.walk) p (j := j) (by simpa using hlt)
                rw [List.getElem_map, List.getElem_map, hx'] at h1
                rw [← List.append_assoc, ← h1, ← walkL_append, List.take_append_drop]
              have HP := hide hpost
              clear hpost hW
              go_wp2
              go_ret
              exact HP.out
        · obtain rfl : j = l.length := by omega
          have hpost : WalkP J Jx pre M ((T.mk k n s A1 cap1 l r).v.walk p) W (.returned (.bool true)) wr := by
            obtain ⟨fr, hb, M1, hJ1, hs1, _⟩ := inv
            rw [List.take_of_length_le (by simp)] at hJ1
            exact ⟨M1, fr, hs1, .inl ⟨rfl, by rw [HWK.out]; exact hJ1⟩⟩
          have HP := hide hpost
          clear hpost inv ih
          go_wp2
          go_ret
          exact HP.out
    · have hpost : WalkP J Jx pre M ((T.mk k n s A1 cap1 l r).v.walk p) W (.returned (.bool false)) W2 :=
        ⟨M2, (fr1.no (S := M)).trans frM2, fun i h1 h2 => hsub2 i h1 (by simp; omega), .inr ⟨rfl, [(p, (T.mk k n s A1 cap1 l r).v)], ⟨walkL ((l.map T.v).map V.walk) 0 p, by rw [hwk]; rfl⟩, hJx2⟩⟩
      have HP := hide hpost
      clear hpost hJx2 frM2 hsub2 ih hwk
      go_wp2
      go_ret
      exact HP.out

end Go.Proofs.YtlejelbefmkakaaGreat

/- Chapter 2: Refs. -/
namespace Go.Proofs.YtlejelbefmkakaaGreat
open Go.RowKit

/-- The references among some parts. -/
def refsOf : List (List Int × V) → List Int
  | [] => []
  | (_, .mk k _ _ _ r) :: l => if k = 4 then r :: refsOf l else refsOf l

theorem refsOf_append (a b : List (List Int × V)) : refsOf (a ++ b) = refsOf a ++ refsOf b := by
  induction a with
  | nil => rfl
  | cons x a ih =>
    obtain ⟨p, k, n, s, l, r⟩ := x
    simp only [List.cons_append, refsOf]
    split <;> simp [ih]

theorem refsOf_length (a : List (List Int × V)) : (refsOf a).length ≤ a.length := by
  induction a with
  | nil => simp [refsOf]
  | cons x a ih =>
    obtain ⟨p, k, n, s, l, r⟩ := x
    simp only [refsOf]
    split <;> simp <;> omega

theorem ref_info : (Tryz.prog.info? 22).map (fun i => (i.zero, i.size, i.bytes)) = some (some (.int .i64 0), 1, 8) := by kernel_rfl

/-- What has been collected. -/
def RefsJ (g base : Nat) (pre : List (List Int × V)) (M : Nat → Prop) (W : World) : Prop :=
  g < base ∧ base ≤ W.heap.size ∧ ∃ v, Blk W g 54 #[v] ∧ W.ownsRow base 22 1 v (refsOf pre).length ((refsOf pre).map fun r => Value.int .i64 r) ∧ ∀ i, M i ↔ (i = g ∨ v.ownBlock = some i)

theorem refs_stay {g base : Nat} {pre : List (List Int × V)} {M : Nat → Prop} {W W' : World} {S : Nat → Prop} (h : RefsJ g base pre M W) (hf : Fr S W W') (hs : ∀ i, i < W.heap.size → S i → ¬ M i) : RefsJ g base pre M W' := by
  obtain ⟨h0, h1, v, hb, ho, hM⟩ := h
  exact ⟨h0, Nat.le_trans h1 hf.size, v, hb.fr hf (fun h => hs g hb.lt h ((hM g).2 (.inl rfl))), owns_fr ho hf (fun i hi h => hs i (owns_lt ho i hi).2 h ((hM i).2 (.inr hi))), hM⟩

set_option maxRecDepth 100000 in
set_option maxHeartbeats 2000000 in
theorem refs1_any (g base : Nat) (pre : List (List Int × V)) (M : Nat → Prop) (W : World) (x : T) (A : Option Addr) (n cap : Nat) (p : List Int) (hJ : RefsJ g base pre M W) (hp : pre.length < 1000000) :
    Calls Tryz.prog 165 #[.slice A n cap, x.val, .pointer (some ⟨g, 0, none⟩)] W fun e W' => e = .returned (.bool true) ∧ ∃ M' : Nat → Prop, Fr M W W' ∧ (∀ i, M' i → i < W.heap.size → M i) ∧ RefsJ g base (pre ++ [(p, x.v)]) M' W' := by
  obtain ⟨h0, h1, v, hb, ho, hM⟩ := hJ
  have hlen := refsOf_length pre
  cases x with
  | mk k nn s A1 cap1 l r =>
    rw [T.val_mk]
    have fr1 := (Fr.refl No W).alloc (.cells #[.int .u8 k, .int .i64 nn, .string s, .slice A1 l.length cap1, .int .i64 r] 28)
    have hb1 := hb.alloc (.cells #[.int .u8 k, .int .i64 nn, .string s, .slice A1 l.length cap1, .int .i64 r] 28)
    have hbx := Blk.new W 28 #[.int .u8 k, .int .i64 nn, .string s, .slice A1 l.length cap1, .int .i64 r]
    have ho1 := ho.alloc (.cells #[.int .u8 k, .int .i64 nn, .string s, .slice A1 l.length cap1, .int .i64 r] 28)
    have q0 := hb.lt
    by_cases hk : k = 4
    · subst hk
      have hr : refsOf (pre ++ [(p, (T.mk 4 nn s A1 cap1 l r).v)]) = refsOf pre ++ [r] := by rw [refsOf_append, T.v_mk]; rfl
      obtain ⟨i0, hi0, hz0, hz1, hz2⟩ := info_parts ref_info
      have hol := owns_lt ho
      have HR := hide hr
      have HOL := hide hol
      have HM := hide hM
      have HO := hide ho1
      have HB := hide hb
      have HF := hide fr1
      have c0 := hb1.cell 0
      have f0 := hb1.frozen 0
      simp only [List.getElem?_toArray, List.getElem?_cons_zero] at c0
      obtain ⟨x0, x1, x2, x3, x4, xf⟩ := hbx.cells5
      have q1 := hbx.lt
      have q2 := hb1.lt
      generalize hL : refsOf pre = L at *
      have HL := hide hL
      have hownA := ho1.alloc (.cells #[.int .i64 r] 22)
      have hBW : ∀ w1, ((W.alloc (.cells #[.int .u8 4, .int .i64 nn, .string s, .slice A1 l.length cap1, .int .i64 r] 28)).alloc (.cells #[.int .i64 r] 22)).grownBy w1 v.ownBlock → Blk w1 g 54 #[v] := fun w1 hg =>
        (hg.block g (by simp; omega) (fun h => by have := hol g h.symm; omega)).trans (hb1.alloc (.cells #[.int .i64 r] 22))
      have HBW := hide hBW
      clear hr hol hM ho1 hb fr1 hb1 hbx ho hL hBW
      go_enter Tryz.func165, Tryz.ntmps165
      go_wp2_with (at_builtin; refine wpList_append_lies _ (by rfl) _ _ _ (by rfl) base 22 i0 _ 1 8 Tryz.underlying54 hi0 hz0 hz1 hz2 (by rfl) (by omega) v L.length (L.map fun r => Value.int .i64 r) (by rfl) hownA ⟨W.heap.size + 1, 0, none⟩ 1 1 [.int .i64 r] (by rfl) (by rfl) (World.news_of_block (Blk.new' _ 22 #[.int .i64 r] (by simp))) (by simp [Value.oneCell']) (by omega) (by unfold maxLen; omega) (by omega) (by simp; omega) (W.heap.size + 1 + 1) (by simp) ?_; intro g2 cap2 w1 hown1 hgrow hat hlt1; have hbw := HBW.out w1 hgrow; have c1 := hbw.cell 0; have f1 := hbw.frozen 0; have q5 := hbw.lt; have HBW1 := hide hbw; simp only [List.getElem?_toArray, List.getElem?_cons_zero] at c1; clear hbw)
      go_ret
      have fA : Fr M W ((W.alloc (.cells #[.int .u8 4, .int .i64 nn, .string s, .slice A1 l.length cap1, .int .i64 r] 28)).alloc (.cells #[.int .i64 r] 22)) := (HF.out.alloc _).no
      have fB : Fr M W w1 := fA.grown hgrow fun i hi hlt => (HM.out i).2 (.inr hi)
      have fC : Fr M W (w1.setCell ⟨g, 0, none⟩ (.slice (some ⟨g2, 0, none⟩) (L.length + 1) cap2)) := fB.set (fun _ => (HM.out g).2 (.inl rfl)) _
      have hg2 : base ≤ g2 := (owns_lt hown1 g2 rfl).1
      refine ⟨rfl, fun i => i = g ∨ i = g2, fC, fun i hi hlt => ?_, h0, Nat.le_trans h1 fC.size, .slice (some ⟨g2, 0, none⟩) (L.length + 1) cap2, HBW1.out.set_ 0 _, ?_, fun i => ?_⟩
      · rcases hi with rfl | rfl
        · exact (HM.out _).2 (.inl rfl)
        · rcases hat with h | h
          · exact (HM.out _).2 (.inr h)
          · omega
      · rw [HR.out, List.length_append, List.map_append]
        exact owns_fr hown1 ((Fr.refl (fun i => i = g) w1).set (fun _ => rfl) _) (fun i hi h => by simp [Value.ownBlock] at hi; have h' : i = g := h; omega)
      · simp [Value.ownBlock, eq_comm]
    · have hk' : (k == 4) = false := by simpa using hk
      have hr : refsOf (pre ++ [(p, (T.mk k nn s A1 cap1 l r).v)]) = refsOf pre := by rw [refsOf_append, T.v_mk]; simp [refsOf, hk]
      have hpost : ∃ M' : Nat → Prop, Fr M W (W.alloc (.cells #[.int .u8 k, .int .i64 nn, .string s, .slice A1 l.length cap1, .int .i64 r] 28)) ∧ (∀ i, M' i → i < W.heap.size → M i) ∧ RefsJ g base (pre ++ [(p, (T.mk k nn s A1 cap1 l r).v)]) M' (W.alloc (.cells #[.int .u8 k, .int .i64 nn, .string s, .slice A1 l.length cap1, .int .i64 r] 28)) := by
        refine ⟨M, fr1.no, fun i h _ => h, h0, Nat.le_trans h1 fr1.size, v, hb1, ?_, hM⟩
        rw [hr]; exact ho1
      have HP := hide hpost
      clear hpost hr hb hb1 hbx ho ho1 hM fr1
      go_enter Tryz.func165, Tryz.ntmps165
      go_wp2
      go_ret
      exact ⟨rfl, HP.out⟩

theorem enters_fn2 {P : Program} {f : FuncId} {fn : Func} {c : Code} (hf : P.funcs[f]? = some fn) (hname : (fn.name == "runtime.NumGoroutine") = false) (hb : fn.body = some c) : ∀ args w, (callFunc f args).run P w = .ok (.enter f args) w := by
  intro args w
  have h1 : fn.name ≠ "runtime.NumGoroutine" := by simpa using hname
  simp [callFunc, hf, h1, hb, mark]

theorem refs_yields (g base : Nat) : Yields 1000000 165 #[.pointer (some ⟨g, 0, none⟩)] (RefsJ g base) (fun _ _ _ => False) where
  enters := enters_fn2 Tryz.func165 (by kernel_rfl) rfl
  call := fun pre M W x lo hi A cap p lo' hi' hl hJ _ _ _ _ _ _ => (refs1_any g base pre M W x A p.length cap p hJ hl).mono fun e W' ⟨he, M', h1, h2, h3⟩ => ⟨M', h1, h2, .inl ⟨he, h3⟩⟩
  stay := fun pre M W W' S h hf hs => refs_stay h hf hs
  lt := fun pre M W h i hi => by
    obtain ⟨h0, h1, v, hb, ho, hM⟩ := h
    rcases (hM i).1 hi with rfl | h
    · exact hb.lt
    · exact (owns_lt ho i h).2

/-- The references of a value, in the order of the walk. -/
def V.refs (v : V) : List Int := if v.may = true then refsOf (v.walk []) else []

def RefsP (L : List Int) (w : World) (e : Ending) (w' : World) : Prop := ∃ v, e = .returned v ∧ w'.ownsRow w.heap.size 22 1 v L.length (L.map fun r => Value.int .i64 r) ∧ Fr No w w'

theorem ints_nil (w : World) : Ints w 0 0 none 0 [] := ⟨by simp, Nat.le_refl _, fun h => absurd rfl h, by simp⟩

set_option maxRecDepth 100000 in
set_option maxHeartbeats 4000000 in
theorem Refs_any (t : T) (w : World) (lo hi : Nat) (ht : t.In w lo hi) (hh : hi ≤ w.heap.size) : Calls Tryz.prog 95 #[t.val] w (RefsP t.v.refs w) := by
  have hM := fun w' h h' => may_any t w' lo hi h h'
  have hW := fun pre M W hJ h h' h2 h3 => walk_any (refs_yields (w.heap.size + 1) (w.heap.size + 1 + 1)) t pre M W lo hi none 0 [] 0 0 hJ h h' h2 (ints_nil W) (Nat.zero_le _) (fun i h0 h1 => by omega) h3
  have hst : RefsJ (w.heap.size + 1) (w.heap.size + 1 + 1) [] (fun i => i = w.heap.size + 1) ((w.alloc (.cells #[.int .u8 0] 28)).alloc (.cells #[.slice none 0 0] 54)) := ⟨by omega, by simp, .slice none 0 0, Blk.new' (w.alloc _) 54 _ (by simp), World.ownsRow_nil _ _ _ _, fun i => by simp [Value.ownBlock]⟩
  clear hst
  cases t with
  | mk k n s A cap l r =>
    rw [T.val_mk] at *
    have hst : RefsJ (w.heap.size + 1) (w.heap.size + 1 + 1) [] (fun i => i = w.heap.size + 1) ((w.alloc (.cells #[.int .u8 k, .int .i64 n, .string s, .slice A l.length cap, .int .i64 r] 28)).alloc (.cells #[.slice none 0 0] 54)) := ⟨by omega, by simp, .slice none 0 0, Blk.new' (w.alloc _) 54 _ (by simp), World.ownsRow_nil _ _ _ _, fun i => by simp [Value.ownBlock]⟩
    have fr1 : Fr No w ((w.alloc (.cells #[.int .u8 k, .int .i64 n, .string s, .slice A l.length cap, .int .i64 r] 28)).alloc (.cells #[.slice none 0 0] 54)) := ((Fr.refl No w).alloc _).alloc _
    have hK : Blk ((w.alloc (.cells #[.int .u8 k, .int .i64 n, .string s, .slice A l.length cap, .int .i64 r] 28)).alloc (.cells #[.slice none 0 0] 54)) w.heap.size 28 #[.int .u8 k, .int .i64 n, .string s, .slice A l.length cap, .int .i64 r] := (Blk.new' w 28 _ rfl).alloc _
    have hs1 : w.heap.size + 1 + 1 ≤ ((w.alloc (.cells #[.int .u8 k, .int .i64 n, .string s, .slice A l.length cap, .int .i64 r] 28)).alloc (.cells #[.slice none 0 0] 54)).heap.size := by simp
    have ht1 := ht.no fr1 hh
    generalize hu : (T.mk k n s A cap l r).v = u at *
    have HU := hide hu
    clear hu ht
    cases hm : u.may with
    | false =>
      have e1 : u.refs = [] := by simp [V.refs, hm]
      rw [e1]
      rw [hm] at hM
      clear hm e1 hW
      go_enter Tryz.func95, Tryz.ntmps95
      go_wp2_with fail
      generalize World.alloc _ (.cells #[.slice none 0 0] 54) = W0 at *
      refine (hM _ ht1 (by omega)).mono ?_
      rintro e w2 ⟨rfl, fr2⟩
      obtain ⟨h0, h1, v, hb, ho, hMM⟩ := refs_stay hst fr2 (fun _ _ h => h.elim)
      have c0 := hb.cell 0
      simp only [List.getElem?_toArray, List.getElem?_cons_zero] at c0
      have q0 := hb.lt
      have HO := hide ho
      have HF := hide (fr1.trans fr2)
      clear hst hK hM hb ho hMM fr1 fr2
      go_wp2
      go_ret
      refine ⟨v, rfl, ?_, HF.out⟩
      have h := HO.out
      exact ⟨h.1, h.2.imp id fun ⟨g, cp, cur, a, b, c⟩ => ⟨g, cp, cur, a, by omega, c⟩⟩
    | true =>
      have e1 : u.refs = refsOf (u.walk []) := by simp [V.refs, hm]
      have hsz : u.size ≤ 512 := by simp [V.may, V.fits] at hm; omega
      have hht : u.ht ≤ 16 := by
        have := ht_le_dep u (may_ok hm)
        simp [V.may, V.fits] at hm; omega
      rw [e1]
      rw [hm] at hM
      clear hm e1
      go_enter Tryz.func95, Tryz.ntmps95
      go_wp2_with fail
      generalize World.alloc _ (.cells #[.slice none 0 0] 54) = W0 at *
      refine (hM _ ht1 (by omega)).mono ?_
      rintro e w2 ⟨rfl, fr2⟩
      have hst2 := refs_stay hst fr2 (fun _ _ h => h.elim)
      obtain ⟨k0, k1, k2, k3, k4, -⟩ := (hK.fr fr2 fun h => h).cells5
      have q1 := (hK.fr fr2 fun h => h).lt
      have hs2 := fr2.size
      have hw := hW [] _ w2 hst2 (ht1.no fr2 (by omega)) (by omega) (fun i h0 h1 h2 => by have h' : i = w.heap.size + 1 := h2; omega) (by simp; omega) (by simp; omega)
      have HW := hide hw
      have HF := hide (fr1.trans fr2)
      clear hst hst2 hK hM hW hw fr1 fr2
      go_wp2_with fail
      refine HW.out.mono ?_
      rintro e w3 hq
      obtain ⟨M', f3, hs3, rfl, hJ⟩ : ∃ M' : Nat → Prop, Fr (fun i => i = w.heap.size + 1) w2 w3 ∧ (∀ i, M' i → i < w2.heap.size → i = w.heap.size + 1) ∧ e = .returned (.bool true) ∧ RefsJ (w.heap.size + 1) (w.heap.size + 1 + 1) (u.walk []) M' w3 := by
        obtain ⟨M', h1, h2, ⟨h3, h4⟩ | ⟨_, q, _, h⟩⟩ := hq
        · exact ⟨M', h1, h2, h3, by simpa using h4⟩
        · exact h.elim
      obtain ⟨h0, h1, v, hb, ho, hMM⟩ := hJ
      have c0 := hb.cell 0
      simp only [List.getElem?_toArray, List.getElem?_cons_zero] at c0
      have q0 := hb.lt
      have HO := hide ho
      have HF3 := hide (HF.out.trans' f3 (fun i hi h => by have h' : i = w.heap.size + 1 := h; omega))
      clear hb ho hMM f3 hs3 hq k0 k1 k2 k3 k4
      go_wp2
      go_ret
      refine ⟨v, rfl, ?_, HF3.out⟩
      have h := HO.out
      exact ⟨h.1, h.2.imp id fun ⟨g, cp, cur, a, b, c⟩ => ⟨g, cp, cur, a, by omega, c⟩⟩

end Go.Proofs.YtlejelbefmkakaaGreat

/- SealSealed: values whose references are brought into 1 to last, plain; what look finds, plain. -/
namespace Go.Proofs.YtlejelbefmkakaaGreat
open Go.RowKit

theorem fr_grown {w w' : World} {row : Option Nat} (h : w.grownBy w' row) : Fr (fun i => some i = row) w w' := (Fr.refl _ w).grown h fun _ hk _ => hk.symm

/-- A value whose references are brought into 1 to last. -/
def V.win (last : Int) : V → V
  | .mk k n s l r => .mk k n s (l.map (V.win last)) (if k = 4 ∧ last < r then r % last + 1 else r)
termination_by v => v

theorem V.win_mk (last k n : Int) (s : ByteArray) (l : List V) (r : Int) : (V.mk k n s l r).win last = .mk k n s (l.map (V.win last)) (if k = 4 ∧ last < r then r % last + 1 else r) := by
  rw [V.win]

theorem walkL_mem {fs : List (List Int → List (List Int × V))} {pl : List Int} {x : List Int × V} : ∀ {i : Nat}, x ∈ walkL fs i pl → ∃ f ∈ fs, ∃ q, x ∈ f q := by
  induction fs with
  | nil => intro i h; simp [walkL] at h
  | cons f fs ih =>
    intro i h
    rw [walkL, List.mem_append] at h
    rcases h with h | h
    · exact ⟨f, by simp, _, h⟩
    · obtain ⟨g, hg, q, hq⟩ := ih h
      exact ⟨g, by simp [hg], q, hq⟩

theorem refsOf_mem {r : Int} : ∀ {L : List (List Int × V)}, r ∈ refsOf L → ∃ p n s l, (p, V.mk 4 n s l r) ∈ L
  | [], h => by simp [refsOf] at h
  | (p, .mk k n s l r') :: L, h => by
    rw [refsOf] at h
    split at h
    · rename_i hk
      rcases List.mem_cons.1 h with rfl | h
      · subst hk; exact ⟨p, n, s, l, by simp⟩
      · obtain ⟨p2, n2, s2, l2, h2⟩ := refsOf_mem h
        exact ⟨p2, n2, s2, l2, by simp [h2]⟩
    · obtain ⟨p2, n2, s2, l2, h2⟩ := refsOf_mem h
      exact ⟨p2, n2, s2, l2, by simp [h2]⟩

theorem refsOf_len : ∀ (L : List (List Int × V)), (refsOf L).length ≤ L.length
  | [] => by simp [refsOf]
  | (p, .mk k n s l r) :: L => by
    have := refsOf_len L
    rw [refsOf]
    split <;> simp <;> omega

theorem refs_length (v : V) : v.refs.length ≤ 512 := by
  unfold V.refs
  split
  · rename_i h
    have h1 := refsOf_len (v.walk [])
    rw [walk_length] at h1
    simp [V.may, V.fits] at h
    omega
  · simp

theorem win_top {last : Int} (h1 : 1 ≤ last) (v : V) : ∀ (p : List Int), ∀ x ∈ (v.win last).walk p, ∀ n s l r, x.2 = V.mk 4 n s l r → r ≤ last := by
  induction v using V.ind with
  | h k n s l r ih =>
    intro p x hx n' s' l' r' e
    rw [V.win_mk, V.walk_mk] at hx
    rcases List.mem_cons.1 hx with rfl | hx
    · simp only [V.mk.injEq] at e
      obtain ⟨rfl, -, -, -, rfl⟩ := e
      have hm : r % last < last := Int.emod_lt_of_pos r (by omega)
      split <;> omega
    · obtain ⟨f, hf, q, hq⟩ := walkL_mem hx
      obtain ⟨y, hy, rfl⟩ := List.mem_map.1 hf
      obtain ⟨z, hz, rfl⟩ := List.mem_map.1 hy
      exact ih z hz q x hq n' s' l' r' e

theorem ok_low (v : V) : v.ok = true → ∀ (p : List Int), ∀ x ∈ v.walk p, ∀ n s l r, x.2 = V.mk 4 n s l r → 1 ≤ r := by
  induction v using V.ind with
  | h k n s l r ih =>
    intro ho p x hx n' s' l' r' e
    rw [V.ok_mk] at ho
    simp only [Bool.and_eq_true, List.all_eq_true] at ho
    obtain ⟨h1, h2⟩ := ho
    rw [V.walk_mk] at hx
    rcases List.mem_cons.1 hx with rfl | hx
    · simp only [V.mk.injEq] at e
      obtain ⟨rfl, rfl, rfl, rfl, rfl⟩ := e
      simp [fok] at h1
      omega
    · obtain ⟨f, hf, q, hq⟩ := walkL_mem hx
      obtain ⟨y, hy, rfl⟩ := List.mem_map.1 hf
      exact ih y hy (h2 y hy) q x hq n' s' l' r' e

theorem win_refs {last : Int} (h1 : 1 ≤ last) (v : V) : ∀ r ∈ (v.win last).refs, 1 ≤ r ∧ r ≤ last := by
  intro r hr
  unfold V.refs at hr
  split at hr
  · rename_i h
    obtain ⟨p, n, s, l, hm⟩ := refsOf_mem hr
    exact ⟨ok_low _ (may_ok h) _ _ hm _ _ _ _ rfl, win_top h1 v _ _ hm _ _ _ _ rfl⟩
  · simp at hr

/-- What look finds: -1, or how much is left. -/
def LookP (v : V) (left deep x : Int) : Prop := -1 ≤ x ∧ x ≤ 1000 ∧ (0 ≤ x → v.ok = true ∧ (v.dep : Int) ≤ deep ∧ x = left - (v.size : Int))

theorem look_may {v : V} {x : Int} (h : LookP v 512 16 x) (h0 : 0 ≤ x) : v.may = true := by
  obtain ⟨a, b, c⟩ := h.2.2 h0
  simp [V.may, V.fits, a]
  omega

/-- Where look's loop stands. -/
def LookI (l : List V) (left deep x : Int) (j : Nat) : Prop := 0 ≤ x ∧ (∀ y ∈ l.take j, y.ok = true ∧ (y.dep : Int) ≤ deep - 1) ∧ x = left - 1 - (sizeTo l j : Int)

theorem looki_step {l : List V} {left deep x y : Int} {j : Nat} (h : LookI l left deep x j) (hj : j < l.length) (hy : LookP l[j] x (deep - 1) y) (h0 : 0 ≤ y) : LookI l left deep y (j + 1) := by
  obtain ⟨a, b, c⟩ := hy.2.2 h0
  obtain ⟨h1, h2, h3⟩ := h
  refine ⟨h0, fun z hz => ?_, ?_⟩
  · rw [List.take_succ_eq_append_getElem hj, List.mem_append] at hz
    rcases hz with hz | hz
    · exact h2 z hz
    · simp at hz; subst hz; exact ⟨a, b⟩
  · rw [sizeTo_succ l j hj]
    omega

theorem looki_end {k n : Int} {s : ByteArray} {l : List V} {r left deep x : Int} (h : LookI l left deep x l.length) (hf : fok k n s l.length r = true) (hd : k = 3 → 1 ≤ deep) (hd0 : 0 ≤ deep) (hl : left ≤ 512) : LookP (.mk k n s l r) left deep x := by
  obtain ⟨h1, h2, h3⟩ := h
  rw [List.take_of_length_le (Nat.le_refl _)] at h2
  rw [sizeTo_all] at h3
  refine ⟨by omega, by omega, fun _ => ⟨?_, ?_, ?_⟩⟩
  · rw [V.ok_mk, hf, Bool.true_and, List.all_eq_true]
    exact fun y hy => (h2 y hy).1
  · rw [V.dep_mk]
    split
    · rename_i hk
      have := hd hk
      have : top (l.map V.dep) ≤ (deep - 1).toNat := top_le fun d hd => by
        obtain ⟨y, hy, rfl⟩ := List.mem_map.1 hd
        have := (h2 y hy).2
        omega
      omega
    · omega
  · rw [V.size_mk]; omega

end Go.Proofs.YtlejelbefmkakaaGreat

/- posternref09.Alike: whether two values are one. -/
namespace Go.Proofs.YtlejelbefmkakaaGreat
open Go.RowKit

theorem bytes_extA {a b : ByteArray} (h : a.toList = b.toList) : a = b := by
  obtain ⟨⟨x⟩⟩ := a
  obtain ⟨⟨y⟩⟩ := b
  rw [ByteArray.toList_eq, ByteArray.toList_eq] at h
  simp at h
  rw [h]

/-- Whether two values are one, and no block below turns. -/
def SameP (u v : V) (w : World) (e : Ending) (w' : World) : Prop := ∃ q : Bool, e = .returned (.bool q) ∧ (q = true ↔ u = v) ∧ Fr No w w'

set_option maxRecDepth 100000 in
set_option maxHeartbeats 2000000 in
theorem alike_any (t : T) : ∀ (t' : T) (w : World) (lo hi lo' hi' : Nat), t.In w lo hi → hi ≤ w.heap.size → t'.In w lo' hi' → hi' ≤ w.heap.size → Calls Tryz.prog 97 #[t.val, t'.val] w (SameP t.v t'.v w) := by
  induction t using T.ind with
  | h k n s A cap l r ih =>
    intro t' w lo hi lo' hi' ht hh ht' hh'
    cases t' with
    | mk k' n' s' A' cap' l' r' =>
      rw [T.val_mk, T.val_mk]
      have fr2 := ((Fr.refl No w).alloc (.cells #[.int .u8 k, .int .i64 n, .string s, .slice A l.length cap, .int .i64 r] 28)).alloc (.cells #[.int .u8 k', .int .i64 n', .string s', .slice A' l'.length cap', .int .i64 r'] 28)
      by_cases hk : k = k'
      case neg =>
        have hk' : (k != k') = true := by simpa using hk
        go_enter Tryz.func97, Tryz.ntmps97
        go_wp2
        go_ret
        exact ⟨false, rfl, by rw [T.v_mk, T.v_mk]; simp [hk], fr2⟩
      by_cases hn : n = n'
      case neg =>
        have hn' : (n != n') = true := by simpa using hn
        subst hk
        go_enter Tryz.func97, Tryz.ntmps97
        go_wp2
        go_ret
        exact ⟨false, rfl, by rw [T.v_mk, T.v_mk]; simp [hn], fr2⟩
      by_cases hs : s = s'
      case neg =>
        have hs' : (s.toList == s'.toList) = false := by simpa using fun h => hs (bytes_extA h)
        have hs2 : ¬ s.toList = s'.toList := fun h => hs (bytes_extA h)
        subst hk
        subst hn
        go_enter Tryz.func97, Tryz.ntmps97
        go_wp2
        go_ret
        exact ⟨false, rfl, by rw [T.v_mk, T.v_mk]; simp [hs], fr2⟩
      by_cases hr : r = r'
      case neg =>
        have hr' : (r != r') = true := by simpa using hr
        have HF2 := hide fr2
        subst hk
        subst hn
        subst hs
        go_enter Tryz.func97, Tryz.ntmps97
        go_wp2
        go_ret
        exact ⟨false, rfl, by rw [T.v_mk, T.v_mk]; simp [hr], HF2.out⟩
      by_cases hl : l.length = l'.length
      case neg =>
        have hl' : ((l.length : Int) != (l'.length : Int)) = true := by simp; omega
        subst hk
        subst hn
        subst hs
        subst hr
        go_enter Tryz.func97, Tryz.ntmps97
        go_wp2
        go_ret
        refine ⟨false, rfl, ?_, fr2⟩
        rw [T.v_mk, T.v_mk]
        simp
        intro h
        exact hl (by simpa using congrArg List.length h)
      subst hk
      subst hn
      subst hs
      subst hr
      have hlen := (T.in_mk.1 ht).1.len1
      have hl' : ((l.length : Int) != (l'.length : Int)) = false := by simp; omega
      have HL := hide hl
      clear hl
      go_enter Tryz.func97, Tryz.ntmps97
      go_wp2_with fail
      go_loopw [5] (fun i wr => ∃ j : Nat, j ≤ l.length ∧ i = .int .i64 j ∧ Fr No ((w.alloc (.cells #[.int .u8 k, .int .i64 n, .string s, .slice A l.length cap, .int .i64 r] 28)).alloc (.cells #[.int .u8 k, .int .i64 n, .string s, .slice A' l'.length cap', .int .i64 r] 28)) wr ∧ ∀ i (h : i < j) (h1 : i < l.length) (h2 : i < l'.length), l[i].v = l'[i].v) (fun i _ => l.length - (intOf i).toNat)
      case atStart =>
        exact ⟨0, Nat.zero_le _, rfl, Fr.refl _ _, fun i h => absurd h (by omega)⟩
      case round =>
        obtain ⟨j, hj, rfl, fr, hsame⟩ := hrel
        have hK := ((Blk.new' w 28 #[.int .u8 k, .int .i64 n, .string s, .slice A l.length cap, .int .i64 r] rfl).alloc (.cells #[.int .u8 k, .int .i64 n, .string s, .slice A' l'.length cap', .int .i64 r] 28)).fr fr (fun h => h)
        have hV := (Blk.new' (w.alloc (.cells #[.int .u8 k, .int .i64 n, .string s, .slice A l.length cap, .int .i64 r] 28)) 28 #[.int .u8 k, .int .i64 n, .string s, .slice A' l'.length cap', .int .i64 r] (g := w.heap.size + 1) (by simp)).fr fr (fun h => h)
        have frw := fr2.trans fr
        have hszr := fr.size
        simp at hszr
        by_cases hlt : j < l.length
        · have hlt' : j < l'.length := by have := HL.out; omega
          obtain ⟨b, o, k1, n1, s1, A1, cap1, l1, r1, rfl, hb0, hb1, hx, hin, e0, e1, e2, e3, e4⟩ := T.elem (ht.no frw hh) hlt
          obtain ⟨b', o', k2, n2, s2, A2, cap2, l2, r2, rfl, hb0', hb1', hx', hin', f0, f1, f2, f3, f4⟩ := T.elem (ht'.no frw hh') hlt'
          have IH := ih l[j] (List.getElem_mem hlt) l'[j]
          rw [hx, hx', T.val_mk, T.val_mk] at IH
          obtain ⟨c0, c1, c2, c3, c4, cf⟩ := hK.cells5
          obtain ⟨d0, d1, d2, d3, d4, df⟩ := hV.cells5
          have g0 : b < wr.heap.size := by omega
          have g1 : b' < wr.heap.size := by omega
          have g2 : w.heap.size < wr.heap.size := by omega
          have g3 : w.heap.size + 1 < wr.heap.size := by omega
          have hh0 : hi ≤ wr.heap.size := by omega
          have hh1 : hi' ≤ wr.heap.size := by omega
          have HX := hide hx
          have HX' := hide hx'
          have HF := hide fr
          have HW := hide frw
          have HT := hide ht
          have HT' := hide ht'
          have HS := hide hsame
          clear hx hx' ih hK hV fr frw ht ht' fr2 hsame
          go_wp2_with fail
          go_region_held3 (fun w' => (∀ c i, c < wr.heap.size → w'.cell? ⟨c, i, none⟩ = wr.cell? ⟨c, i, none⟩) ∧ Fr No wr w')
            (first | exact ⟨fun _ _ _ => rfl, Fr.drew (Fr.refl No wr)⟩ | (have hq : Fr No wr _ := (‹_ ∧ Fr No wr _›).2.trans ‹Fr No _ _›; exact ⟨hq.cells, hq⟩))
            (first
              | (go_at_call 97; have hs0 := (‹_ ∧ Fr No wr _›).2; ((with_reducible refine (IH _ lo hi lo' hi' ?_ ?_ ?_ ?_).mono ?_); (exact hin.no hs0 hh0); (exact Nat.le_trans hh0 hs0.size); (exact hin'.no hs0 hh1); (exact Nat.le_trans hh1 hs0.size); rintro e w2 ⟨q, rfl, hq, fr1⟩)))
          cases q with
          | false =>
            go_wp2
            go_ret
            refine ⟨false, rfl, ?_, HW.out.trans (‹_ ∧ Fr No wr _›).2⟩
            rw [T.v_mk, T.v_mk]
            simp
            intro h
            have h1 := congrArg (fun q => q[j]?) h
            simp [hlt, hlt'] at h1
            rw [HX.out, HX'.out] at h1
            exact absurd (hq.2 h1) (by simp)
          | true =>
            go_wp2
            go_roundw
            case rel =>
              refine ⟨j + 1, hlt, by go_num, HF.out.trans (‹_ ∧ Fr No wr _›).2, fun i hi h1 h2 => ?_⟩
              rcases Nat.lt_or_ge i j with h | h
              · exact HS.out i h h1 h2
              · obtain rfl : i = j := by omega
                rw [HX.out, HX'.out]
                exact hq.1 rfl
            case measure => simp [intOf]; omega
        · obtain rfl : l.length = j := by omega
          obtain ⟨c0, c1, c2, c3, c4, cf⟩ := hK.cells5
          obtain ⟨d0, d1, d2, d3, d4, df⟩ := hV.cells5
          have HS := hide hsame
          clear hsame ih
          go_wp2
          go_ret
          refine ⟨true, rfl, ?_, frw⟩
          rw [T.v_mk, T.v_mk]
          simp
          refine List.ext_getElem (by simpa using HL.out) fun i h1 h2 => ?_
          simp at h1 h2
          simpa using HS.out i h1 h1 h2

end Go.Proofs.YtlejelbefmkakaaGreat

/- posternref09: room, Great, Nothing. -/
namespace Go.Proofs.YtlejelbefmkakaaGreat
open Go.RowKit


set_option maxRecDepth 100000 in
set_option maxHeartbeats 4000000 in
theorem room_any (t : T) : ∀ (left : Int) (w : World) (lo hi : Nat), t.In w lo hi → hi ≤ w.heap.size → -3000000000000 ≤ left → left ≤ 20000 →
    Calls Tryz.prog 81 #[t.val, .int .i64 left] w fun e w' => ∃ x : Int, e = .returned (.int .i64 x) ∧ -3000000000000 ≤ x ∧ x ≤ 20000 ∧ Fr No w w' := by
  induction t using T.ind with
  | h k n s A cap l r ih =>
    intro left w lo hi ht hh hl0 hl1
    rw [T.val_mk]
    have fit := (T.in_mk.1 ht).1
    have hlen := fit.len1
    have hs1 := fit.s1
    have fr1 := (Fr.refl No w).alloc (.cells #[.int .u8 k, .int .i64 n, .string s, .slice A l.length cap, .int .i64 r] 28)
    have hK := Blk.new' w 28 #[.int .u8 k, .int .i64 n, .string s, .slice A l.length cap, .int .i64 r] rfl
    by_cases hleft : left < 0
    · clear ih
      go_enter Tryz.func81, Tryz.ntmps81
      go_wp2
      go_ret
      exact ⟨-1, rfl, by omega, by omega, fr1⟩
    · have hleft2 : decide (left < 0) = false := by simpa using hleft
      have hw : IntKind.i64.wrap (left - 1) = left - 1 := IntWalk.i64_in _ (by omega)
      have hw2 : IntKind.i64.wrap (left - 1 - (s.size : Int) / 64) = left - 1 - (s.size : Int) / 64 := IntWalk.i64_in _ (by omega)
      have hw3 : IntKind.i64.wrap ((s.size : Int) / 64) = (s.size : Int) / 64 := IntWalk.i64_in _ (by omega)
      have hb : -3000000000000 ≤ left - 1 - (s.size : Int) / 64 := by omega
      have hb1 : left - 1 - (s.size : Int) / 64 ≤ 20000 := by omega
      have HIH := hide ih
      have HT := hide ht
      clear ih ht fit
      go_enter Tryz.func81, Tryz.ntmps81
      go_wp2_with fail
      generalize left - 1 - (s.size : Int) / 64 = z at *
      go_loopw [1, 5] (fun v i wr => ∃ (j : Nat) (x : Int), j ≤ l.length ∧ i = .int .i64 (j : Int) ∧ v = .int .i64 x ∧ -3000000000000 ≤ x ∧ x ≤ 20000 ∧ Fr No (w.alloc (.cells #[.int .u8 k, .int .i64 n, .string s, .slice A l.length cap, .int .i64 r] 28)) wr) (fun _ i _ => l.length - (intOf i).toNat)
      case atStart => exact ⟨0, z, Nat.zero_le _, rfl, rfl, hb, hb1, Fr.refl _ _⟩
      case round =>
        obtain ⟨j, x, hj, rfl, rfl, hx0, hx1, fr⟩ := hrel
        obtain ⟨d0, d1, d2, d3, d4, df⟩ := (hK.fr fr fun h => h).cells5
        have q0 := (hK.fr fr fun h => h).lt
        have frw := fr1.trans fr
        by_cases hlt : j < l.length
        · by_cases hxn : 0 ≤ x
          · obtain ⟨b, o, k1, n1, s1, A1, cap1, l1, r1, rfl, hb0, hb1', hxx, hin, e0, e1, e2, e3, e4⟩ := T.elem (HT.out.no frw hh) hlt
            have hc := HIH.out l[j] (List.getElem_mem hlt) x wr lo hi (by rw [hxx]; exact hin) (by have := frw.size; omega) (by omega) (by omega)
            rw [hxx, T.val_mk] at hc
            have g0 : b < wr.heap.size := by have := frw.size; omega
            have HC := hide hc
            have HF := hide fr
            clear hc fr frw hxx hin HIH fr1
            go_wp2_with fail
            refine HC.out.mono ?_
            rintro e w2 ⟨y, rfl, hy0, hy1, fr2⟩
            have HF2 := hide (HF.out.trans fr2)
            clear fr2
            go_wp2
            go_roundw
            case rel => exact ⟨j + 1, y, hlt, by go_num, rfl, hy0, hy1, HF2.out⟩
            case measure => simp [intOf]; omega
          · have HW := hide frw
            have hxn2 : decide (x ≥ 0) = false := by simpa using hxn
            clear frw fr fr1 HIH
            go_wp2
            go_ret
            exact ⟨x, rfl, hx0, hx1, HW.out⟩
        · obtain rfl : l.length = j := by omega
          have HW := hide frw
          clear frw fr fr1 HIH
          go_wp2
          go_ret
          exact ⟨x, rfl, hx0, hx1, HW.out⟩

set_option maxRecDepth 100000 in
theorem Great_any (t : T) (w : World) (lo hi : Nat) (ht : t.In w lo hi) (hh : hi ≤ w.heap.size) : Calls Tryz.prog 16 #[t.val] w fun e w' => (∃ q : Bool, e = .returned (.bool q)) ∧ Fr No w w' := by
  obtain ⟨k, n, s, A, cap, l, r⟩ := t
  have f0 := (Fr.refl No w).alloc (.cells #[.int .u8 k, .int .i64 n, .string s, .slice A l.length cap, .int .i64 r] 28)
  have hR := room_any (T.mk k n s A cap l r) 20000 _ lo hi (ht.no f0 hh) (Nat.le_trans hh f0.size) (by omega) (by omega)
  rw [T.val_mk] at *
  have HR := hide hR
  have HF := hide f0
  clear hR f0 ht
  go_enter Tryz.func16, Tryz.ntmps16
  go_wp2_with fail
  refine HR.out.mono ?_
  rintro e w2 ⟨x, rfl, h0, h1, f2⟩
  go_wp2
  go_ret
  exact ⟨⟨_, rfl⟩, HF.out.trans f2⟩

set_option maxRecDepth 100000 in
theorem Nothing_zero (w : World) : Calls Tryz.prog 26 #[.agg #[.int .u8 0, .int .i64 0, .string ⟨#[]⟩, .slice none 0 0, .int .i64 0]] w fun e w' => e = .returned (.bool true) ∧ Fr No w w' := by
  have f0 := (Fr.refl No w).alloc (.cells #[.int .u8 0, .int .i64 0, .string ⟨#[]⟩, .slice none 0 0, .int .i64 0] 28)
  have hin := fun w' : World => (T.ow_nil (w := w') (lo := 0) (hi := 0) (k := 0) (n := 0) (s := ⟨#[]⟩) (A := none) (cap := 0) (r := 0) ⟨by decide, by decide, by decide, by decide, by decide, by decide, by decide, by decide, by decide⟩).inn
  have hA := fun w' : World => alike_any (T.mk 0 0 ⟨#[]⟩ none 0 [] 0) (T.mk 0 0 ⟨#[]⟩ none 0 [] 0) w' 0 0 0 0 (hin w') (Nat.zero_le _) (hin w') (Nat.zero_le _)
  rw [T.val_mk] at hA
  have HA := hide hA
  have HF := hide f0
  clear hA f0 hin
  go_enter Tryz.func26, Tryz.ntmps26
  go_wp2_with fail
  refine (HA.out _).mono ?_
  rintro e w2 ⟨q, rfl, hq, f2⟩
  obtain rfl : q = true := hq.2 rfl
  go_wp2
  go_ret
  exact ⟨rfl, HF.out.trans f2⟩

end Go.Proofs.YtlejelbefmkakaaGreat

/- Worlds: bare, of the things that are made here. -/
namespace Go.Proofs.YtlejelbefmkakaaGreat
open Go.RowKit

/-- A thing's sixteen cells, written out. -/
def th16 (kind home k n : Int) (s : ByteArray) (A : Option Addr) (len cap : Nat) (r n1 lost ofr byr set : Int) (full : Bool) : Array Value :=
  #[.int .u8 kind, .int .i64 home, .int .u8 k, .int .i64 n, .string s, .slice A len cap, .int .i64 r, .slice none 0 0, .int .i64 n1, .int .i64 lost, .int .i64 ofr, .int .i64 byr, .int .u8 set, .bool full, .slice none 0 0, .slice none 0 0]

/-- A thing of a kind that is made here, with just the fields of its kind. -/
def Th.Pl (x : Th) : Prop := x.n = 0 ∧ x.lost = 0 ∧ x.set = 0 ∧
  ((x.kind = 1 ∧ x.ofr = 0 ∧ x.byr = 0 ∧ x.full = false) ∨ (x.kind = 2 ∧ x.ofr = 0 ∧ x.byr = 0 ∧ x.full = false ∧ x.v = T.zero) ∨ (x.kind = 5 ∧ x.ofr = 0 ∧ x.byr = 0 ∧ x.full = false ∧ x.v = T.zero) ∨
    (x.kind = 6 ∧ x.byr = 0 ∧ x.full = false ∧ x.v = T.zero) ∨ (x.kind = 7 ∧ x.byr = 0 ∧ x.full = false) ∨ (x.kind = 13 ∧ x.byr = 0 ∧ x.v = T.zero) ∨ (x.kind = 15 ∧ x.full = false ∧ x.v = T.zero))

set_option maxRecDepth 100000 in
set_option maxHeartbeats 4000000 in
theorem bare5 (home : Int) (W : World) :
    Calls Tryz.prog 207 #[.agg (th16 5 home 0 0 ⟨#[]⟩ none 0 0 0 0 0 0 0 0 false)] W fun e w' => e = .returned (.agg (th16 5 home 0 0 ⟨#[]⟩ none 0 0 0 0 0 0 0 0 false)) ∧ Fr No W w' := by
  unfold th16
  go_enter Tryz.func207, Tryz.ntmps207
  go_wp2_with fail
  refine bodyPost_ret (v := .agg (th16 5 home 0 0 ⟨#[]⟩ none 0 0 0 0 0 0 0 0 false)) (by simp [results, Tryz.results207, th16, go_sem, *]) rfl ⟨rfl, ?_⟩
  repeat (first | with_reducible exact Fr.refl No W | with_reducible refine Fr.drew ?_ | with_reducible refine Fr.alloc ?_ _ | with_reducible refine Fr.setNew ?_ (by first | (simp; done) | (simp; omega)) _)

set_option maxRecDepth 100000 in
set_option maxHeartbeats 4000000 in
theorem bare6 (home : Int) (ofr : Int) (W : World) :
    Calls Tryz.prog 207 #[.agg (th16 6 home 0 0 ⟨#[]⟩ none 0 0 0 0 0 ofr 0 0 false)] W fun e w' => e = .returned (.agg (th16 6 home 0 0 ⟨#[]⟩ none 0 0 0 0 0 ofr 0 0 false)) ∧ Fr No W w' := by
  unfold th16
  go_enter Tryz.func207, Tryz.ntmps207
  go_wp2_with fail
  refine bodyPost_ret (v := .agg (th16 6 home 0 0 ⟨#[]⟩ none 0 0 0 0 0 ofr 0 0 false)) (by simp [results, Tryz.results207, th16, go_sem, *]) rfl ⟨rfl, ?_⟩
  repeat (first | with_reducible exact Fr.refl No W | with_reducible refine Fr.drew ?_ | with_reducible refine Fr.alloc ?_ _ | with_reducible refine Fr.setNew ?_ (by first | (simp; done) | (simp; omega)) _)

set_option maxRecDepth 100000 in
set_option maxHeartbeats 4000000 in
theorem bare7 (home : Int) (k n : Int) (s : ByteArray) (A : Option Addr) (len cap : Nat) (r : Int) (ofr : Int) (W : World) :
    Calls Tryz.prog 207 #[.agg (th16 7 home k n s A len cap r 0 0 ofr 0 0 false)] W fun e w' => e = .returned (.agg (th16 7 home k n s A len cap r 0 0 ofr 0 0 false)) ∧ Fr No W w' := by
  unfold th16
  go_enter Tryz.func207, Tryz.ntmps207
  go_upto_region 14 with (fail)
  go_region
  all_goals
    go_simp
    go_wp2_with fail
    refine bodyPost_ret (v := .agg (th16 7 home k n s A len cap r 0 0 ofr 0 0 false)) (by simp [results, Tryz.results207, th16, go_sem, *]) rfl ⟨rfl, ?_⟩
    repeat (first | with_reducible exact Fr.refl No W | with_reducible refine Fr.drew ?_ | with_reducible refine Fr.alloc ?_ _ | with_reducible refine Fr.setNew ?_ (by first | (simp; done) | (simp; omega)) _)

end Go.Proofs.YtlejelbefmkakaaGreat

/- Worlds: blank; Of of nothing; what form needs. -/
namespace Go.Proofs.YtlejelbefmkakaaGreat
open Go.RowKit

theorem Blk.cells16 {w : World} {g : Nat} {t : TypeId} {x0 x1 x2 x3 x4 x5 x6 x7 x8 x9 x10 x11 x12 x13 x14 x15 : Value} (h : Blk w g t #[x0, x1, x2, x3, x4, x5, x6, x7, x8, x9, x10, x11, x12, x13, x14, x15]) :
    w.cell? ⟨g, 0, none⟩ = some x0 ∧ w.cell? ⟨g, 1, none⟩ = some x1 ∧ w.cell? ⟨g, 2, none⟩ = some x2 ∧ w.cell? ⟨g, 3, none⟩ = some x3 ∧ w.cell? ⟨g, 4, none⟩ = some x4 ∧ w.cell? ⟨g, 5, none⟩ = some x5 ∧ w.cell? ⟨g, 6, none⟩ = some x6 ∧ w.cell? ⟨g, 7, none⟩ = some x7 ∧
    w.cell? ⟨g, 8, none⟩ = some x8 ∧ w.cell? ⟨g, 9, none⟩ = some x9 ∧ w.cell? ⟨g, 10, none⟩ = some x10 ∧ w.cell? ⟨g, 11, none⟩ = some x11 ∧ w.cell? ⟨g, 12, none⟩ = some x12 ∧ w.cell? ⟨g, 13, none⟩ = some x13 ∧ w.cell? ⟨g, 14, none⟩ = some x14 ∧ w.cell? ⟨g, 15, none⟩ = some x15 :=
  ⟨h.cell 0, h.cell 1, h.cell 2, h.cell 3, h.cell 4, h.cell 5, h.cell 6, h.cell 7, h.cell 8, h.cell 9, h.cell 10, h.cell 11, h.cell 12, h.cell 13, h.cell 14, h.cell 15⟩

/-- Is a value a zero one? -/
def blankB : V → Bool
  | .mk k n s l r => decide (k = 0) && decide (n = 0) && decide (s = ⟨#[]⟩) && decide (l.length = 0) && decide (r = 0)

theorem toList0 : (⟨#[]⟩ : ByteArray).toList = [] := by rw [ByteArray.toList_eq]

theorem bytes_ext {a b : ByteArray} (h : a.toList = b.toList) : a = b := by
  obtain ⟨⟨x⟩⟩ := a
  obtain ⟨⟨y⟩⟩ := b
  rw [ByteArray.toList_eq, ByteArray.toList_eq] at h
  simp at h
  rw [h]

set_option maxHeartbeats 2000000 in
theorem blank_w (t : T) (W : World) : Calls Tryz.prog 208 #[t.val] W fun e w' => e = .returned (.bool (blankB t.v)) ∧ Fr No W w' := by
  obtain ⟨k, n, s, A, cap, l, r⟩ := t
  rw [T.val_mk, T.v_mk]
  have hb : blankB (.mk k n s (l.map T.v) r) = (decide (k = 0) && decide (n = 0) && decide (s = ⟨#[]⟩) && decide (l.length = 0) && decide (r = 0)) := by simp [blankB]
  rw [hb]
  clear hb
  have h0 := toList0
  by_cases hk : k = 0
  · by_cases hn : n = 0
    · by_cases hs : s = ⟨#[]⟩
      · by_cases hl : l.length = 0
        · by_cases hr : r = 0
          · subst hk hn hs hr
            rw [hl]
            go_enter Tryz.func208, Tryz.ntmps208
            go_wp2
            go_ret
            exact ⟨rfl, (Fr.refl No W).alloc _⟩
          · have e1 : (r == 0) = false := by simpa using hr
            subst hk hn hs
            rw [hl]
            go_enter Tryz.func208, Tryz.ntmps208
            go_wp2
            go_ret
            exact ⟨by simp [hr], (Fr.refl No W).alloc _⟩
        · have e1 : (l.length == 0) = false := by simpa using hl
          have e2 : ((l.length : Int) == 0) = false := by simpa using hl
          subst hk hn hs
          go_enter Tryz.func208, Tryz.ntmps208
          go_wp2
          go_ret
          exact ⟨by simp [hl], (Fr.refl No W).alloc _⟩
      · have e1 : (s.toList == []) = false := by
          simp only [beq_eq_false_iff_ne, ne_eq]
          exact fun h => hs (bytes_ext (by rw [h, h0]))
        subst hk hn
        go_enter Tryz.func208, Tryz.ntmps208
        go_wp2
        go_ret
        exact ⟨by simp [hs], (Fr.refl No W).alloc _⟩
    · have e1 : (n == 0) = false := by simpa using hn
      subst hk
      go_enter Tryz.func208, Tryz.ntmps208
      go_wp2
      go_ret
      exact ⟨by simp [hn], (Fr.refl No W).alloc _⟩
  · have e1 : (k == 0) = false := by simpa using hk
    go_enter Tryz.func208, Tryz.ntmps208
    go_wp2
    go_ret
    exact ⟨by simp [hk], (Fr.refl No W).alloc _⟩

/-- Of of nothing. -/
theorem of_none (W : World) : Calls Tryz.prog 209 #[.slice none 0 0] W fun e w' => (∃ t : T, e = .returned (.tuple #[t.val, .int .i64 0])) ∧ Fr No W w' := by
  have hin : (T.row none 0 []).In W 0 0 := T.in_mk.2 ⟨⟨by decide, by decide, by decide, by decide, by decide, by decide, Nat.le_refl _, by decide, by decide⟩, fun h => absurd rfl h, by simp⟩
  have h := vOf_any none 0 [] W 0 0 hin (Nat.zero_le _)
  have he : (ofV (([] : List T).map T.v)).2 = 0 := by simp [ofV, V.may, V.fits, V.ok_mk, V.size_mk, V.dep_mk, fok, top]
  rw [he] at h
  refine h.mono ?_
  rintro e w' ⟨t', rfl, -, -, f⟩
  exact ⟨⟨t', rfl⟩, f⟩

theorem zero_may : V.zero.may = true := by simp [V.zero, V.may, V.fits, V.ok_mk, V.size_mk, V.dep_mk, fok, ByteArray.toList_eq]

theorem may_zero (W : World) : Calls Tryz.prog 86 #[T.zero.val] W fun e w' => e = .returned (.bool true) ∧ Fr No W w' := by
  have h := may_any T.zero W 0 0 (T.zero_ow _ _ _).inn (Nat.zero_le _)
  rw [T.zero_v, zero_may] at h
  exact h

end Go.Proofs.YtlejelbefmkakaaGreat

/- Worlds: names: are the references of what a thing has things? -/
namespace Go.Proofs.YtlejelbefmkakaaGreat
open Go.RowKit

section
variable {m : Wm} {lo : Nat} {W : World}

/-- Are all of some numbers things? -/
def Wm.are (m : Wm) (L : List Int) : Bool := L.all fun r => (m.get r).isSome

theorem names1_w (h : m.Ok lo W) {g : Nat} (hb : Blk W g 31 #[.pointer (some ⟨m.wb, 0, none⟩)]) (r : Int) : Calls Tryz.prog 213 #[.int .i64 r, .pointer (some ⟨g, 0, none⟩)] W fun e w' => e = .returned (.bool (!(m.get r).isSome)) ∧ w' = W := by
  have hI := Is_w h r
  have c0 : W.cell? ⟨g, 0, none⟩ = some (.pointer (some ⟨m.wb, 0, none⟩)) := hb.cell 0
  have q0 := hb.lt
  clear h hb
  generalize (m.get r).isSome = q at *
  cases q
  all_goals
    go_enter Tryz.func213, Tryz.ntmps213
    go_wp2_with fail
    refine hI.mono ?_
    rintro e w2 ⟨rfl, rfl⟩
    go_wp2
    go_ret
    exact ⟨rfl, rfl⟩

/-- A row of numbers, one of them. -/
theorem row_at {w : World} {base : Nat} {A : Option Addr} {cap : Nat} {L : List Int} (h : w.ownsRow base 22 1 (.slice A L.length cap) L.length (L.map fun r => Value.int .i64 r)) {j : Nat} (hj : j < L.length) : ∃ g, A = some ⟨g, 0, none⟩ ∧ g < w.heap.size ∧ w.cell? ⟨g, j, none⟩ = some (.int .i64 L[j]) := by
  obtain ⟨g, c, hA, hg0, hg1⟩ := h.form (by omega)
  simp only [Value.slice.injEq, true_and] at hA
  obtain ⟨rfl, rfl⟩ := hA
  have := World.ownsRow.cells h (g := g) rfl j (.int .i64 L[j]) (by simp [hj])
  rw [add_at, Nat.zero_add] at this
  exact ⟨g, rfl, hg1, this⟩

set_option maxRecDepth 100000 in
set_option maxHeartbeats 4000000 in
theorem indexR_w (h : m.Ok lo W) {g base : Nat} (hb : Blk W g 31 #[.pointer (some ⟨m.wb, 0, none⟩)]) (A : Option Addr) (cap : Nat) (L : List Int) (hr : W.ownsRow base 22 1 (.slice A L.length cap) L.length (L.map fun r => Value.int .i64 r)) (hlen : L.length ≤ 140737488351232) :
    Calls Tryz.prog 257 #[.slice A L.length cap, .func (.func 213) #[] #[.pointer (some ⟨g, 0, none⟩)]] W fun e w' => (∃ z : Int, e = .returned (.int .i64 z) ∧ ((0 ≤ z ∧ m.are L = false) ∨ (z = -1 ∧ m.are L = true))) ∧ w' = W := by
  have HB := hide (names1_w h hb)
  have HR := hide hr
  clear h hb hr
  go_enter Tryz.func257, Tryz.ntmps257
  go_wp2_with fail
  go_loopw [8] (fun i wr => ∃ j : Nat, j ≤ L.length ∧ i = .int .i64 j ∧ wr = W ∧ ∀ v ∈ L.take j, (m.get v).isSome = true) (fun i _ => L.length - (intOf i).toNat)
  case atStart => exact ⟨0, Nat.zero_le _, rfl, rfl, by simp⟩
  case round =>
    obtain ⟨j, hj, rfl, rfl, hall⟩ := hrel
    have HA := hide hall
    clear hall
    by_cases hlt : j < L.length
    · obtain ⟨b, rfl, hb1, e0⟩ := row_at HR.out hlt
      have hc := HB.out L[j]
      have htk : L.take (j + 1) = L.take j ++ [L[j]] := by rw [List.take_succ_eq_append_getElem hlt]
      have hmem : L[j] ∈ L := List.getElem_mem hlt
      generalize L[j] = u at *
      have HT := hide htk
      have HM := hide hmem
      clear htk hmem
      cases hm : (m.get u).isSome with
      | false =>
        rw [hm] at hc
        have HC := hide hc
        have hno : m.are L = false := by
          rw [Bool.eq_false_iff]
          intro h
          have := List.all_eq_true.1 h u HM.out
          rw [hm] at this
          cases this
        have HN := hide hno
        clear hc hno hm
        go_wp2_with fail
        refine HC.out.mono ?_
        rintro e w2 ⟨rfl, rfl⟩
        go_wp2
        go_ret
        exact ⟨⟨_, rfl, .inl ⟨by omega, HN.out⟩⟩, rfl⟩
      | true =>
        rw [hm] at hc
        have HC := hide hc
        have HMM := hide hm
        clear hc hm
        go_wp2_with fail
        refine HC.out.mono ?_
        rintro e w2 ⟨rfl, rfl⟩
        go_wp2
        go_roundw
        case rel =>
          refine ⟨j + 1, hlt, by go_num, trivial, fun v hv => ?_⟩
          rw [HT.out] at hv
          rcases List.mem_append.1 hv with hv | hv
          · exact HA.out v hv
          · simp at hv; subst hv; exact HMM.out
        case measure => simp [intOf]; omega
    · obtain rfl : L.length = j := by omega
      have hyes : m.are L = true := List.all_eq_true.2 fun v hv => HA.out v (by rw [List.take_of_length_le (Nat.le_refl _)]; exact hv)
      have HY := hide hyes
      clear hyes
      go_wp2
      go_ret
      exact ⟨⟨-1, rfl, .inr ⟨rfl, HY.out⟩⟩, rfl⟩

theorem containsR_w (h : m.Ok lo W) {g base : Nat} (hb : Blk W g 31 #[.pointer (some ⟨m.wb, 0, none⟩)]) (A : Option Addr) (cap : Nat) (L : List Int) (hr : W.ownsRow base 22 1 (.slice A L.length cap) L.length (L.map fun r => Value.int .i64 r)) (hlen : L.length ≤ 140737488351232) :
    Calls Tryz.prog 211 #[.slice A L.length cap, .func (.func 213) #[] #[.pointer (some ⟨g, 0, none⟩)]] W fun e w' => e = .returned (.bool (!m.are L)) ∧ w' = W := by
  have hI := indexR_w h hb A cap L hr hlen
  generalize m.are L = q at *
  clear h hb hr
  go_enter Tryz.func211, Tryz.ntmps211
  go_wp2_with fail
  refine hI.mono ?_
  rintro e w2 ⟨⟨z, rfl, hz⟩, rfl⟩
  rcases hz with ⟨h0, rfl⟩ | ⟨rfl, rfl⟩
  · have h1 : decide ((0 : Int) ≤ z) = true := by simpa using h0
    go_wp2
    go_ret
    exact ⟨rfl, rfl⟩
  · go_wp2
    go_ret
    exact ⟨rfl, rfl⟩
end

/-- held: the references of what a thing has. -/
theorem held_w (kind home k n : Int) (s : ByteArray) (A : Option Addr) (cap : Nat) (l : List T) (r n1 lost ofr byr set : Int) (full : Bool) (W : World) (hi : Nat) (ht : (T.mk k n s A cap l r).In W 0 hi) (hhi : hi ≤ W.heap.size) :
    Calls Tryz.prog 212 #[.agg (th16 kind home k n s A l.length cap r n1 lost ofr byr set full)] W (RefsP (T.mk k n s A cap l r).v.refs W) := by
  have hR := Refs_any (T.mk k n s A cap l r) (W.alloc (.cells (th16 kind home k n s A l.length cap r n1 lost ofr byr set full) 138)) 0 hi (ht.no ((Fr.refl No W).alloc _) hhi) (by simp; omega)
  rw [T.val_mk] at hR
  generalize (T.mk k n s A cap l r).v.refs = L at *
  have hb0 := Blk.new W 138 (th16 kind home k n s A l.length cap r n1 lost ofr byr set full)
  have hf0 := (Fr.refl No W).alloc (.cells (th16 kind home k n s A l.length cap r n1 lost ofr byr set full) 138)
  unfold th16 at hR hb0 hf0 ⊢
  have HR := hide hR
  have HB0 := hide hb0
  have HF0 := hide hf0
  obtain ⟨d0, d1, d2, d3, d4, d5, d6, d7, d8, d9, d10, d11, d12, d13, d14, d15⟩ := hb0.cells16
  have dq := hb0.lt
  clear ht hhi hR hb0 hf0
  go_enter Tryz.func212, Tryz.ntmps212
  go_wp2_with fail
  generalize World.alloc W _ = W0 at *
  refine HR.out.mono ?_
  rintro e w1 ⟨v, rfl, hrow, f1⟩
  have hb := HB0.out.fr f1 fun h => h
  clear d0 d1 d2 d3 d4 d5 d6 d7 d8 d9 d10 d11 d12 d13 d14 d15 dq
  obtain ⟨d0, d1, d2, d3, d4, d5, d6, d7, d8, d9, d10, d11, d12, d13, d14, d15⟩ := hb.cells16
  have dq := hb.lt
  have HROW := hide hrow
  have HF1 := hide (HF0.out.trans f1)
  have HS := hide HF0.out.size
  clear hb hrow f1
  go_wp2_with fail
  refine wp_loop_rounds 1 ?_
  rw [rounds_succ]
  go_wp2_with fail
  refine wp_loop_rounds 1 ?_
  rw [rounds_succ]
  go_wp2_with fail
  go_ret
  exact ⟨v, rfl, owns_mono HROW.out HS.out, HF1.out⟩

end Go.Proofs.YtlejelbefmkakaaGreat

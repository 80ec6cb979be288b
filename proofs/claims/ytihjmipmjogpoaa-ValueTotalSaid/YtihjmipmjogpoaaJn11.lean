/- Texts joined: S11, S12, S13, S14. -/
import Derived.Test.YtihjmipmjogpoaaJn10
/- Chapter 2: slices.symMergeCmpFunc where the second piece is one part. -/
namespace Go.Proofs.Ytihjmipmjogpoaa
open Go.RowKit

set_option maxRecDepth 100000 in
set_option maxHeartbeats 4000000 in
theorem merge_last (X A : List T) (x : T) (Y : List T) (hA : 2 ≤ A.length) (sA : A.Pairwise leT) (w : World) (lo g cap N : Nat) (hN : (X ++ A ++ x :: Y).length = N) (hN2 : N ≤ 1000000) (h : Rw w lo g cap (X ++ A ++ x :: Y)) (hE : Els w g (X ++ A ++ x :: Y)) :
    Calls Try.prog 160 #[.slice (some ⟨g, 0, none⟩) N cap, .int .i64 (X.length : Int), .int .i64 ((X.length + A.length : Nat) : Int), .int .i64 ((X.length + A.length + 1 : Nat) : Int), .func (.func 118) #[] #[]] w fun e w' => (∃ v, e = .returned v) ∧ (∃ C, C.Perm (x :: A) ∧ C.Pairwise leT ∧ Rw w' lo g cap (X ++ C ++ Y)) ∧ Fr (fun i => i = g) w w' := by
  have hsum : X.length + A.length + 1 ≤ N := by simp at hN; omega
  have H := hide h
  have HE := hide hE
  have HN := hide hN
  clear h hE hN
  obtain ⟨b, hb⟩ : ∃ b, X.length + A.length + 1 = b := ⟨_, rfl⟩
  obtain ⟨m, hm⟩ : ∃ m, X.length + A.length = m := ⟨_, rfl⟩
  obtain ⟨a, ha⟩ : ∃ a, X.length = a := ⟨_, rfl⟩
  rw [hb, hm, ha]
  have hbi : (b : Int) ≤ 1000000 := by omega
  have hmi : (m : Int) ≤ 1000000 := by omega
  have hai : (a : Int) ≤ 1000000 := by omega
  have h0 : (0 : Int) ≤ (a : Int) := by omega
  have hma : ((m : Int) - (a : Int) == 1) = false := by simp; omega
  have hbm : (b : Int) - (m : Int) = 1 := by omega
  have HA := hide ha
  have HM := hide hm
  have HB := hide hb
  clear ha hm hb
  go_enter Try.func160, Try.ntmps160
  go_wp2_with fail
  go_loopw [14, 15] (fun iv jv wr => ∃ i j : Nat, iv = .int .i64 i ∧ jv = .int .i64 j ∧ a ≤ i ∧ a ≤ j ∧ Plc A x (i - a) (j - a) ∧ Fr No w wr) (fun iv jv _ => (intOf jv).toNat - (intOf iv).toNat)
  case atStart =>
    have hmm := HM.out
    have haa := HA.out
    exact ⟨a, m, rfl, rfl, Nat.le_refl _, by omega, ⟨by omega, by omega, .inl (by omega), .inl (by omega)⟩, Fr.refl _ _⟩
  case round =>
    obtain ⟨i, j, rfl, rfl, hi, hj, pl, fr⟩ := hrel
    have hij := pl.ij
    have hjb := pl.j1
    have hmm := HM.out
    have haa := HA.out
    have hbb := HB.out
    have hjm : j ≤ m := by omega
    by_cases hlt : i < j
    · obtain ⟨c, hc⟩ : ∃ c, (i + j) / 2 = c := ⟨_, rfl⟩
      have hji : (j : Int) ≤ 1000000 := by omega
      have hii : (i : Int) ≤ 1000000 := by omega
      have hce : ((i : Int) + (j : Int)) / 2 = (c : Int) := by omega
      have hcN : c < N := by omega
      have hmN : m < N := by omega
      have hci : (c : Int) ≤ 1000000 := by omega
      have hca : a ≤ c := by omega
      have hcb : c - a < A.length := by omega
      obtain ⟨y, hy⟩ : ∃ y, A[c - a]? = some y := ⟨_, List.getElem?_eq_getElem hcb⟩
      have hLx : (X ++ A ++ x :: Y)[m]? = some x := by rw [← hmm]; simp
      have hLy : (X ++ A ++ x :: Y)[c]? = some y := by
        rw [← hy, ← at_mid (X := X) (A := A) (R := x :: Y) hcb]
        congr 1
        omega
      have hmx : x ∈ X ++ A ++ x :: Y := List.mem_of_getElem? hLx
      have hmy : y ∈ X ++ A ++ x :: Y := List.mem_of_getElem? hLy
      have hcmp := fun w2 (f : Fr No wr w2) => ((HE.out.no fr).no f).cmp hmx hmy
      have hr1 := H.out.fr fr (fun h => h)
      unfold Rw at hr1
      rw [HN.out] at hr1
      have HIJ := hide hlt
      have HPL := hide pl
      have HFR := hide fr
      have HY := hide hy
      have HC := hide hcmp
      clear pl fr hy hcmp hmx hmy hij hjb hmm hbb haa hc
      obtain ⟨k1, n1, s1, A1, c1, l1, r1⟩ := x
      obtain ⟨k2, n2, s2, A2, c2, l2, r2⟩ := y
      obtain ⟨p0, p1, p2, p3, p4, pf, pl⟩ := owns_five hr1 hLx
      obtain ⟨u0, u1, u2, u3, u4, uf, ul⟩ := owns_five hr1 hLy
      clear hr1 hLx hLy
      go_wp2_with fail
      go_still_tail 9, (by kernel_rfl)
      change wpList _ _ _ _ _ wr.drew
      have F2 := (Fr.refl No wr).drew
      generalize wr.drew = w2 at F2 ⊢
      have hc2 := HC.out w2 F2
      rw [T.val_mk, T.val_mk] at hc2
      generalize hcc : (T.mk k1 n1 s1 A1 c1 l1 r1).v.ord (T.mk k2 n2 s2 A2 c2 l2 r2).v = cc at hc2
      have HCC := hide hcc
      have HF2 := hide F2
      clear p0 p1 p2 p3 p4 pf pl u0 u1 u2 u3 u4 uf ul F2 hcc
      go_wp2_with fail
      refine hc2.mono ?_
      rintro e wc ⟨rfl, fc⟩
      have HFC := hide ((HFR.out.trans HF2.out).trans fc)
      clear fc hc2
      by_cases hneg : cc < 0
      · have hcd : decide (cc < 0) = true := by simpa using hneg
        go_wp2
        go_roundw
        case rel =>
          have q := HPL.out
          have hlt' := HIJ.out
          exact ⟨i, c, rfl, rfl, hi, hca, ⟨by omega, by omega, q.left, .inr ⟨_, HY.out, leT_of_lt (by rw [HCC.out]; exact hneg)⟩⟩, HFC.out⟩
        case measure => have := HIJ.out; simp [intOf]; omega
      · have hcd : decide (cc < 0) = false := by simpa using hneg
        go_wp2
        go_roundw
        case rel =>
          have q := HPL.out
          have hlt' := HIJ.out
          refine ⟨c + 1, j, by go_num, rfl, by omega, hj, ⟨by omega, q.j1, .inr ⟨_, ?_, leT_of_not (by rw [HCC.out]; omega)⟩, q.right⟩, HFC.out⟩
          rw [show c + 1 - a - 1 = c - a by omega]
          exact HY.out
        case measure => have := HIJ.out; simp [intOf]; omega
    · obtain rfl : i = j := by omega
      have hins := insert_row (s := i - a) (x := x) sA pl.left pl.right
      have hibB : i - a ≤ A.length := pl.j1
      have HI := hide hins
      have HFR := hide fr
      have hii : (i : Int) ≤ 1000000 := by omega
      clear hins fr pl hij hjb
      obtain ⟨wo, rfl⟩ : ∃ wo : World, wo = wr := ⟨_, rfl⟩
      go_wp2_with fail
      go_loopw [17] (fun kv wr => ∃ k t : Nat, kv = .int .i64 k ∧ k = a + t ∧ i - a ≤ t ∧ t ≤ A.length ∧ Rw wr lo g cap (X ++ (A.take t ++ x :: A.drop t) ++ Y) ∧ Fr (fun i => i = g) w wr) (fun kv _ => (intOf kv).toNat)
      case atStart => exact ⟨m, A.length, rfl, by omega, hibB, Nat.le_refl _, by have := H.out.fr HFR.out (fun h => h); simpa using this, HFR.out.no⟩
      case round =>
        obtain ⟨k, t, rfl, hk, ht, htA, hr, fr⟩ := hrel
        have haa := HA.out
        by_cases hlt2 : i - a < t
        · obtain ⟨t1, rfl⟩ : ∃ t1, t = t1 + 1 := ⟨t - 1, by omega⟩
          have htB : t1 < A.length := by omega
          obtain ⟨k0, hk0⟩ : ∃ k0, k = k0 + 1 := ⟨k - 1, by omega⟩
          have hP : (X ++ A.take t1).length = k0 := by simp; omega
          have hdr : A.drop t1 = A[t1] :: A.drop (t1 + 1) := List.drop_eq_getElem_cons htB
          have htk : A.take (t1 + 1) = A.take t1 ++ [A[t1]] := List.take_succ_eq_append_getElem htB
          have hrow : X ++ (A.take (t1 + 1) ++ x :: A.drop (t1 + 1)) ++ Y = (X ++ A.take t1) ++ A[t1] :: x :: (A.drop (t1 + 1) ++ Y) := by rw [htk]; simp only [List.append_assoc, List.cons_append, List.nil_append]
          have hrow2 : X ++ (A.take t1 ++ x :: A.drop t1) ++ Y = (X ++ A.take t1) ++ x :: A[t1] :: (A.drop (t1 + 1) ++ Y) := by rw [hdr]; simp only [List.append_assoc, List.cons_append, List.nil_append]
          obtain ⟨q1, q2, q3, q4⟩ := swap_pair (X ++ A.take t1) (A.drop (t1 + 1) ++ Y) x A[t1]
          rw [hP, ← hk0] at q2 q3
          rw [hP] at q1
          have hL : ((X ++ A.take t1) ++ A[t1] :: x :: (A.drop (t1 + 1) ++ Y)).length = N := by rw [← hrow]; have := HN.out; simp at this ⊢; omega
          rw [hrow] at hr
          clear hrow hdr htk
          generalize (X ++ A.take t1) ++ A[t1] :: x :: (A.drop (t1 + 1) ++ Y) = L at *
          have hr1 := hr
          unfold Rw at hr1
          rw [hL] at hr1
          generalize A[t1] = y at *
          obtain ⟨kx, nx, sx, Ax, cx, lx, rx⟩ := x
          obtain ⟨ky, ny, sy, Ay, cy, ly, ry⟩ := y
          obtain ⟨p0, p1, p2, p3, p4, pf, pl⟩ := owns_five hr1 q1
          obtain ⟨u0, u1, u2, u3, u4, uf, ul⟩ := owns_five hr1 q2
          have e1 : (k : Int) - 1 = (k0 : Int) := by omega
          have hik : i < k := by omega
          have hkN : k < N := by omega
          have hk0N : k0 < N := by omega
          have hki : (k : Int) ≤ 1000000 := by omega
          have hk1k : (1 : Int) ≤ (k : Int) := by omega
          have hk0i : (k0 : Int) ≤ 1000000 := by omega
          have HR := hide hr
          have HF := hide fr
          have HQ3 := hide q3
          have HR2 := hide hrow2
          have HL := hide hL
          have HK := hide hk
          have HK0 := hide hk0
          clear hr fr q1 q2 q3 q4 hrow2 hL hr1 hP haa hk hk0
          go_wp2_with fail
          go_region
          all_goals
            go_wp2
            go_roundw
            case rel =>
              refine ⟨k0, t1, by go_num, by have := HK.out; have := HK0.out; omega, by omega, by omega, ?_, ?_⟩
              · rw [HR2.out, ← HQ3.out]
                have h1 := Rw.set HR.out (j := k) (by rw [HL.out]; exact hkN) ky ny sy Ay cy ly ry
                have h2 := Rw.set h1 (j := k0) (by rw [List.length_set, HL.out]; exact hk0N) kx nx sx Ax cx lx rx
                exact h2.fr (Fr.drew (Fr.refl No _)) (fun h => h)
              · have f1 := five_fr wr g (k * 5) ky ny sy Ay ly.length cy ry
                exact Fr.drew ((HF.out.trans f1).trans (five_fr _ g (k0 * 5) kx nx sx Ax lx.length cx rx))
            case measure => have := HK0.out; simp [intOf]; omega
        · obtain rfl : t = i - a := by omega
          have hk2 : ¬ i < k := by omega
          have HR := hide hr
          have HF := hide fr
          clear hr fr hk haa
          go_wp2
          refine bodyPost_ret (results_none rfl _ _ _) rfl ?_
          exact ⟨⟨_, rfl⟩, ⟨_, HI.out.2, HI.out.1, by have := HR.out; simp only [List.append_assoc] at this ⊢; exact this⟩, HF.out⟩

end Go.Proofs.Ytihjmipmjogpoaa

/- Chapter 2: slices.symMergeCmpFunc on two pieces in order. -/
namespace Go.Proofs.Ytihjmipmjogpoaa
open Go.RowKit

/-- What a merge leaves. -/
def MergeP (X A B Y : List T) (lo g cap : Nat) (w : World) (e : Ending) (w' : World) : Prop :=
  (∃ v, e = .returned v) ∧ (∃ C, C.Perm (A ++ B) ∧ C.Pairwise leT ∧ Rw w' lo g cap (X ++ C ++ Y)) ∧ Fr (fun i => i = g) w w'

/-- The merge's contract, of so many parts at most. -/
def MergeK (k : Nat) : Prop := ∀ (X A B Y : List T) (w : World) (lo g cap N : Nat), A.length + B.length ≤ k → 0 < A.length → 0 < B.length → A.Pairwise leT → B.Pairwise leT → (X ++ A ++ B ++ Y).length = N → N ≤ 1000000 → Rw w lo g cap (X ++ A ++ B ++ Y) → Els w g (X ++ A ++ B ++ Y) →
    Calls Try.prog 160 #[.slice (some ⟨g, 0, none⟩) N cap, .int .i64 (X.length : Int), .int .i64 ((X.length + A.length : Nat) : Int), .int .i64 ((X.length + A.length + B.length : Nat) : Int), .func (.func 118) #[] #[]] w (MergeP X A B Y lo g cap w)

/-- Where a merge stands behind the rotation: both halves of what is left to do. -/
structure Half (w : World) (X P Q Y : List T) (lo g cap : Nat) (wr : World) : Prop where
  row : Rw wr lo g cap (X ++ P ++ Q ++ Y)
  fr : Fr (fun i => i = g) w wr

/-- One half: merged by a call, or in order already. -/
theorem half_call {k : Nat} (hk : MergeK k) {X A B Y : List T} {wr : World} {lo g cap N : Nat} (h : A.length + B.length ≤ k) (hA : 0 < A.length) (hB : 0 < B.length) (sA : A.Pairwise leT) (sB : B.Pairwise leT) (hN : (X ++ A ++ B ++ Y).length = N) (hN2 : N ≤ 1000000)
    (hr : Rw wr lo g cap (X ++ (A ++ B) ++ Y)) (hE : Els wr g (X ++ (A ++ B) ++ Y)) {a m b : Nat} (ha : X.length = a) (hm : X.length + A.length = m) (hb : X.length + A.length + B.length = b) :
    Calls Try.prog 160 #[.slice (some ⟨g, 0, none⟩) N cap, .int .i64 (a : Int), .int .i64 (m : Int), .int .i64 (b : Int), .func (.func 118) #[] #[]] wr fun e w' => (∃ v, e = .returned v) ∧ (∃ C, C.Perm (A ++ B) ∧ C.Pairwise leT ∧ Rw w' lo g cap (X ++ C ++ Y)) ∧ Fr (fun i => i = g) wr w' := by
  subst ha hm hb
  exact hk X A B Y wr lo g cap N h hA hB sA sB hN hN2 (by simpa using hr) (by simpa using hE)

theorem sorted_nil_left {A B : List T} (h : A.length = 0) (sB : B.Pairwise leT) : (A ++ B).Pairwise leT := by
  obtain rfl := List.eq_nil_of_length_eq_zero h
  simpa using sB
theorem sorted_nil_right {A B : List T} (h : B.length = 0) (sA : A.Pairwise leT) : (A ++ B).Pairwise leT := by
  obtain rfl := List.eq_nil_of_length_eq_zero h
  simpa using sA

/-- Between which bounds the search goes. -/
def Bnds (X A B : List T) (mid s0 r0 : Nat) : Prop := (mid < X.length + A.length ∧ s0 = mid + (X.length + A.length) - (X.length + A.length + B.length) ∧ r0 = mid) ∨ (X.length + A.length ≤ mid ∧ s0 = X.length ∧ r0 = X.length + A.length)

set_option maxRecDepth 100000 in
set_option maxHeartbeats 16000000 in
theorem merge_step (k : Nat) (hk : MergeK k) (X A B Y : List T) (hAB : A.length + B.length ≤ k + 1) (hA : 2 ≤ A.length) (hB : 2 ≤ B.length) (sA : A.Pairwise leT) (sB : B.Pairwise leT) (w : World) (lo g cap N : Nat) (hN : (X ++ A ++ B ++ Y).length = N) (hN2 : N ≤ 1000000)
    (h : Rw w lo g cap (X ++ A ++ B ++ Y)) (hE : Els w g (X ++ A ++ B ++ Y)) :
    Calls Try.prog 160 #[.slice (some ⟨g, 0, none⟩) N cap, .int .i64 (X.length : Int), .int .i64 ((X.length + A.length : Nat) : Int), .int .i64 ((X.length + A.length + B.length : Nat) : Int), .func (.func 118) #[] #[]] w (MergeP X A B Y lo g cap w) := by
  have hsum : X.length + A.length + B.length ≤ N := by simp at hN; omega
  have H := hide h
  have HE := hide hE
  have HN := hide hN
  clear h hE hN
  obtain ⟨b, hb⟩ : ∃ b, X.length + A.length + B.length = b := ⟨_, rfl⟩
  obtain ⟨m, hm⟩ : ∃ m, X.length + A.length = m := ⟨_, rfl⟩
  obtain ⟨a, ha⟩ : ∃ a, X.length = a := ⟨_, rfl⟩
  rw [hb, hm, ha]
  have hbi : (b : Int) ≤ 1000000 := by omega
  have hmi : (m : Int) ≤ 1000000 := by omega
  have hai : (a : Int) ≤ 1000000 := by omega
  have h0 : (0 : Int) ≤ (a : Int) := by omega
  have hma : ((m : Int) - (a : Int) == 1) = false := by simp; omega
  have hbm : ((b : Int) - (m : Int) == 1) = false := by simp; omega
  obtain ⟨mid, hmid⟩ : ∃ mid, (a + b) / 2 = mid := ⟨_, rfl⟩
  have hmide : ((a : Int) + (b : Int)) / 2 = (mid : Int) := by omega
  have hmidi : (mid : Int) ≤ 1000000 := by omega
  have hp : ∃ p s0 r0 : Nat, mid + m - 1 = p ∧ ((mid < X.length + A.length ∧ s0 = mid + (X.length + A.length) - (X.length + A.length + B.length) ∧ r0 = mid) ∨ (X.length + A.length ≤ mid ∧ s0 = X.length ∧ r0 = X.length + A.length)) ∧ ((mid < m ∧ s0 = mid + m - b ∧ r0 = mid) ∨ (m ≤ mid ∧ s0 = a ∧ r0 = m)) ∧ s0 ≤ r0 ∧ r0 ≤ m ∧ a ≤ s0 ∧ r0 ≤ mid ∧ mid + m - s0 ≤ b := by
    by_cases h : mid < m
    · exact ⟨_, mid + m - b, mid, rfl, .inl ⟨by omega, by rw [hb, hm], rfl⟩, .inl ⟨h, rfl, rfl⟩, by omega, by omega, by omega, by omega, by omega⟩
    · exact ⟨_, a, m, rfl, .inr ⟨by omega, ha.symm, hm.symm⟩, .inr ⟨by omega, rfl, rfl⟩, by omega, by omega, by omega, by omega, by omega⟩
  obtain ⟨p, s0, r0, hpe, hcase, hcase2, hsr, hrm, has, hrmid, hend⟩ := hp
  have hmidE : mid = (X.length + (X.length + A.length + B.length)) / 2 := by rw [hb, ha]; exact hmid.symm
  have hpi : (mid : Int) + (m : Int) - 1 = (p : Int) := by omega
  have hp2 : (p : Int) ≤ 2000000 := by omega
  have hpb : ∀ c, s0 ≤ c → c < r0 → c ≤ p ∧ p - c < N ∧ c < N := fun c h1 h2 => by omega
  have hstart : ∀ s, s0 ≤ s → s ≤ r0 → ((mid : Int) + (m : Int) - (s : Int) = ((mid + m - s : Nat) : Int)) := fun s h1 h2 => by omega
  have hcase3 : (mid < m ∧ (mid : Int) + (m : Int) - (b : Int) = (s0 : Int) ∧ mid = r0) ∨ (¬ mid < m ∧ a = s0 ∧ m = r0) := by
    rcases hcase2 with ⟨h1, h2, h3⟩ | ⟨h1, h2, h3⟩
    · exact .inl ⟨h1, by omega, h3.symm⟩
    · exact .inr ⟨by omega, h2.symm, h3.symm⟩
  have HCASE : Hid (Bnds X A B mid s0 r0) := hide hcase
  have HM := hide hm
  have HA := hide ha
  have HB := hide hb
  have HME := hide hmidE
  have HPE := hide hpe
  have HPB := hide hpb
  have HST := hide hstart
  have HK := hide hk
  have hmidA : a < mid := by omega
  have hmidB : mid < b := by omega
  clear hcase hcase2 hm ha hb hmidE hpe hpb hk hmid hend hstart
  obtain ⟨SR, hSR⟩ : ∃ SR : Nat → Nat → Prop, SR = Srch (X ++ A ++ B ++ Y) p s0 r0 := ⟨_, rfl⟩
  have HSRCH0 : Hid (SR s0 r0) := by rw [hSR]; exact (⟨Nat.le_refl _, hsr, Nat.le_refl _, .inl rfl, .inl rfl⟩ : Srch (X ++ A ++ B ++ Y) p s0 r0 s0 r0)
  have HSR := hide hSR
  clear hSR
  rcases hcase3 with ⟨hmm, hs0, rfl⟩ | ⟨hmm, rfl, rfl⟩
  all_goals
    go_enter Try.func160, Try.ntmps160
    go_wp2_with fail
    go_loopw [20, 21] (fun iv jv wr => ∃ i j : Nat, iv = .int .i64 i ∧ jv = .int .i64 j ∧ SR i j ∧ Fr No w wr) (fun iv jv _ => (intOf jv).toNat - (intOf iv).toNat)
    case atStart => exact ⟨_, _, rfl, rfl, HSRCH0.out, Fr.refl _ _⟩
    case round =>
      obtain ⟨i, j, rfl, rfl, sr, fr⟩ := hrel
      rw [HSR.out] at sr
      have hij := sr.mid
      have hi0 := sr.lo
      have hj0 := sr.hi
      by_cases hlt : i < j
      · obtain ⟨c, hc⟩ : ∃ c, (i + j) / 2 = c := ⟨_, rfl⟩
        have hji : (j : Int) ≤ 1000000 := by omega
        have hii : (i : Int) ≤ 1000000 := by omega
        have hce : ((i : Int) + (j : Int)) / 2 = (c : Int) := by omega
        obtain ⟨hcp, hpN, hcN⟩ := HPB.out c (by omega) (by omega)
        obtain ⟨q, hq⟩ : ∃ q, p - c = q := ⟨_, rfl⟩
        rw [hq] at hpN
        have hqe : (p : Int) - (c : Int) = (q : Int) := by omega
        have hci : (c : Int) ≤ 1000000 := by omega
        have hqi : (q : Int) ≤ 1000000 := by omega
        have hNL : N = (X ++ A ++ B ++ Y).length := HN.out.symm
        obtain ⟨x, hLx⟩ : ∃ x, (X ++ A ++ B ++ Y)[c]? = some x := ⟨_, List.getElem?_eq_getElem (by omega)⟩
        obtain ⟨y, hLy⟩ : ∃ y, (X ++ A ++ B ++ Y)[q]? = some y := ⟨_, List.getElem?_eq_getElem (by omega)⟩
        have hmx : x ∈ X ++ A ++ B ++ Y := List.mem_of_getElem? hLx
        have hmy : y ∈ X ++ A ++ B ++ Y := List.mem_of_getElem? hLy
        have hcmp := fun w2 (f : Fr No wr w2) => ((HE.out.no fr).no f).cmp hmy hmx
        have hr1 := H.out.fr fr (fun h => h)
        unfold Rw at hr1
        rw [HN.out] at hr1
        have hic : i ≤ c := by omega
        have hcj : c < j := by omega
        have HUP := hide (fun (hn : ¬ y.v.ord x.v < 0) => sr.up hic hcj hLx (by rw [hq]; exact hLy) hn hcp)
        have HDN := hide (fun (hn : y.v.ord x.v < 0) => sr.down hic hcj hLx (by rw [hq]; exact hLy) hn)
        have HFR := hide fr
        have HC := hide hcmp
        clear fr sr hcmp hmx hmy hij hc hq hNL
        obtain ⟨k1, n1, s1, A1, c1, l1, r1⟩ := x
        obtain ⟨k2, n2, s2, A2, c2, l2, r2⟩ := y
        obtain ⟨p0, p1, p2, p3, p4, pf, pl⟩ := owns_five hr1 hLx
        obtain ⟨u0, u1, u2, u3, u4, uf, ul⟩ := owns_five hr1 hLy
        clear hr1 hLx hLy
        go_wp2_with fail
        have hw : IntKind.i64.wrap (q : Int) = (q : Int) := IntWalk.i64_in _ (by omega)
        go_still_tail 11, (by kernel_rfl)
        clear hw
        change wpList _ _ _ _ _ wr.drew
        have F2 := (Fr.refl No wr).drew
        generalize wr.drew = w2 at F2 ⊢
        have hc2 := HC.out w2 F2
        rw [T.val_mk, T.val_mk] at hc2
        generalize (T.mk k2 n2 s2 A2 c2 l2 r2).v.ord (T.mk k1 n1 s1 A1 c1 l1 r1).v = cc at HUP HDN hc2
        have HF2 := hide F2
        clear p0 p1 p2 p3 p4 pf pl u0 u1 u2 u3 u4 uf ul F2
        go_wp2_with fail
        refine hc2.mono ?_
        rintro e wc ⟨rfl, fc⟩
        have HFC := hide ((HFR.out.trans HF2.out).trans fc)
        clear fc hc2
        by_cases hneg : cc < 0
        · have hcd : decide (cc < 0) = true := by simpa using hneg
          have HX := hide (HDN.out hneg)
          go_wp2
          go_roundw
          case rel => exact ⟨i, c, rfl, rfl, by rw [HSR.out]; exact HX.out, HFC.out⟩
          case measure => simp [intOf]; omega
        · have hcd : decide (cc < 0) = false := by simpa using hneg
          have HX := hide (HUP.out (by omega))
          go_wp2
          go_roundw
          case rel => exact ⟨c + 1, j, by go_num, rfl, by rw [HSR.out]; exact HX.out, HFC.out⟩
          case measure => simp [intOf]; omega
      · obtain rfl : i = j := by omega
        have hdone := Srch.done (X := X) (A := A) (B := B) (Y := Y) (mid := mid) sA sB HME.out (by omega) (by omega) HCASE.out (by have h1 := HPE.out; have h2 := HM.out; rw [h2, h1]; exact sr)
        obtain ⟨x, y, h1, h2, h3, h4, h5, h6, h7⟩ := hdone
        have HA' := HA.out
        have HM' := HM.out
        have HB' := HB.out
        rw [HM'] at h4
        rw [HA'] at h1 h5
        have hene := HST.out i hi0 hj0
        rw [h4] at hene
        obtain ⟨en, hen⟩ : ∃ en, m + y = en := ⟨_, rfl⟩
        rw [hen] at hene
        have hpa : ∃ A1 A2 B1 B2, A = A1 ++ A2 ∧ B = B1 ++ B2 ∧ A1.length = x ∧ B1.length = y ∧ (∀ x ∈ A1, ∀ y ∈ B2, leT x y) ∧ (∀ x ∈ B1, ∀ y ∈ A2, leT x y) :=
          ⟨A.take x, A.drop x, B.take y, B.drop y, (List.take_append_drop _ _).symm, (List.take_append_drop _ _).symm, by simp; omega, by simp; omega, h6, h7⟩
        obtain ⟨A1, A2, B1, B2, rfl, rfl, hl1, hl2, q1, q2⟩ := hpa
        have hlA : x + A2.length = (A1 ++ A2).length := by simp [hl1]
        have hlB : y + B2.length = (B1 ++ B2).length := by simp [hl2]
        have hrow := H.out.fr fr (fun h => h)
        have hels := HE.out.no fr
        have sA1 := (List.pairwise_append.1 sA).1
        have sA2 := (List.pairwise_append.1 sA).2.1
        have sB1 := (List.pairwise_append.1 sB).1
        have sB2 := (List.pairwise_append.1 sB).2.1
        have hfin : ∀ C D : List T, C.Perm (A1 ++ B1) → D.Perm (A2 ++ B2) → C.Pairwise leT → D.Pairwise leT → (C ++ D).Pairwise leT ∧ (C ++ D).Perm ((A1 ++ A2) ++ (B1 ++ B2)) := fun C D pC pD sC sD => merge_pieces leT_ord sA sB q1 q2 pC pD sC sD
        have hp1 : (X ++ (A1 ++ B1) ++ (A2 ++ B2) ++ Y).Perm (X ++ (A1 ++ A2) ++ (B1 ++ B2) ++ Y) := by
          simp only [List.append_assoc]
          refine List.Perm.append_left X (List.Perm.append_left A1 ?_)
          have hc := (List.perm_append_comm (l₁ := B1) (l₂ := A2)).append_right (B2 ++ Y)
          simp only [List.append_assoc] at hc
          exact hc
        have hrotf : x < (A1 ++ A2).length → 0 < y → ∀ wq, Rw wq lo g cap (X ++ (A1 ++ A2) ++ (B1 ++ B2) ++ Y) → Calls Try.prog 161 #[.slice (some ⟨g, 0, none⟩) N cap, .int .i64 (i : Int), .int .i64 (m : Int), .int .i64 (en : Int), .func (.func 118) #[] #[]] wq fun e w' => (∃ v, e = .returned v) ∧ Rw w' lo g cap (X ++ (A1 ++ B1) ++ (A2 ++ B2) ++ Y) ∧ Fr (fun i => i = g) wq w' := by
          intro g1 g2 wq hr
          have := rotate_any (.func (.func 118) #[] #[]) (X ++ A1) A2 B1 (B2 ++ Y) (by omega) (by omega) wq lo g cap N (by have := HN.out; simp only [List.append_assoc] at this ⊢; exact this) hN2 (by simp only [List.append_assoc] at hr ⊢; exact hr)
          rw [show ((X ++ A1).length : Int) = (i : Int) by rw [List.length_append]; omega, show (((X ++ A1).length + A2.length : Nat) : Int) = (m : Int) by rw [List.length_append]; omega, show (((X ++ A1).length + A2.length + B1.length : Nat) : Int) = (en : Int) by rw [List.length_append]; omega] at this
          exact this.mono fun e w' ⟨r1, r2, r3⟩ => ⟨r1, by simp only [List.append_assoc] at r2 ⊢; exact r2, r3⟩
        have hlf : 0 < x → 0 < y → ∀ wq, Rw wq lo g cap (X ++ (A1 ++ B1) ++ (A2 ++ B2) ++ Y) → Els wq g (X ++ (A1 ++ B1) ++ (A2 ++ B2) ++ Y) → Calls Try.prog 160 #[.slice (some ⟨g, 0, none⟩) N cap, .int .i64 (a : Int), .int .i64 (i : Int), .int .i64 (mid : Int), .func (.func 118) #[] #[]] wq fun e w' => (∃ v, e = .returned v) ∧ (∃ C, C.Perm (A1 ++ B1) ∧ C.Pairwise leT ∧ Rw w' lo g cap (X ++ C ++ (A2 ++ B2) ++ Y)) ∧ Fr (fun i => i = g) wq w' := by
          intro g1 g2 wq hr he
          have := half_call HK.out (X := X) (A := A1) (B := B1) (Y := (A2 ++ B2) ++ Y) (wr := wq) (lo := lo) (g := g) (cap := cap) (N := N) (a := a) (m := i) (b := mid) (by omega) (by omega) (by omega) sA1 sB1 (by have := HN.out; simp at this ⊢; omega) hN2 (by simp only [List.append_assoc] at hr ⊢; exact hr) (by simp only [List.append_assoc] at he ⊢; exact he) HA' (by omega) (by omega)
          exact this.mono fun e w' ⟨r1, ⟨C, r2, r3, r4⟩, r5⟩ => ⟨r1, ⟨C, r2, r3, by simp only [List.append_assoc] at r4 ⊢; exact r4⟩, r5⟩
        have hrf : x < (A1 ++ A2).length → y < (B1 ++ B2).length → ∀ (wq : World) (C : List T), C.length = x + y → Rw wq lo g cap (X ++ C ++ (A2 ++ B2) ++ Y) → Els wq g (X ++ C ++ (A2 ++ B2) ++ Y) → Calls Try.prog 160 #[.slice (some ⟨g, 0, none⟩) N cap, .int .i64 (mid : Int), .int .i64 (en : Int), .int .i64 (b : Int), .func (.func 118) #[] #[]] wq fun e w' => (∃ v, e = .returned v) ∧ (∃ D, D.Perm (A2 ++ B2) ∧ D.Pairwise leT ∧ Rw w' lo g cap (X ++ C ++ D ++ Y)) ∧ Fr (fun i => i = g) wq w' := by
          intro g1 g2 wq C hCl hr he
          have := half_call HK.out (X := X ++ C) (A := A2) (B := B2) (Y := Y) (wr := wq) (lo := lo) (g := g) (cap := cap) (N := N) (a := mid) (m := en) (b := b) (by omega) (by omega) (by omega) sA2 sB2 (by have := HN.out; simp at this ⊢; omega) hN2 (by simp only [List.append_assoc] at hr ⊢; exact hr) (by simp only [List.append_assoc] at he ⊢; exact he) (by rw [List.length_append]; omega) (by rw [List.length_append]; omega) (by rw [List.length_append]; omega)
          exact this
        have hxy : x + y = mid - a := h5
        have eni : (en : Int) ≤ 1000000 := by omega
        have t1 : (i < m) ↔ x < (A1 ++ A2).length := by omega
        have t2 : (m < en) ↔ 0 < y := by omega
        have t3 : (a < i) ↔ 0 < x := by omega
        have t4 : (i < mid) ↔ 0 < y := by omega
        have t5 : (mid < en) ↔ x < (A1 ++ A2).length := by omega
        have t6 : (en < b) ↔ y < (B1 ++ B2).length := by omega
        have hxA : x ≤ (A1 ++ A2).length := h2
        have hyB : y ≤ (B1 ++ B2).length := h3
        have HROT := hide hrotf
        have HLF := hide hlf
        have HRF := hide hrf
        have HFIN := hide hfin
        have HP1 := hide hp1
        have HROW := hide hrow
        have HELS := hide hels
        have HFR := hide fr
        have HS1 := hide sA1
        have HS2 := hide sA2
        have HS3 := hide sB1
        have HS4 := hide sB2
        have HL1 := hide hl1
        have HL2 := hide hl2
        have HL3 := hide hlA
        have HL4 := hide hlB
        have hiN : (i : Int) ≤ 1000000 := by omega
        clear hrotf hlf hrf hfin hp1 hrow hels fr sA1 sA2 sB1 sB2 sA sB q1 q2 hl1 hl2 hlA hlB h1 h4 h5 h6 h7 hen HA' HM' HB' sr hij
        by_cases g1 : x < (A1 ++ A2).length
        · by_cases g2 : 0 < y
          · by_cases g3 : 0 < x
            · by_cases g4 : y < (B1 ++ B2).length
              · have s1 := t1.2 g1
                have s2 := t2.2 g2
                have s3 := t3.2 g3
                have s4 := t4.2 g2
                have s5 := t5.2 g1
                have s6 := t6.2 g4
                clear t1 t2 t3 t4 t5 t6
                have hc1 := HROT.out g1 g2 wr HROW.out
                have HC1 := hide hc1
                clear hc1
                go_wp2_with fail
                refine HC1.out.mono ?_
                rintro e w3 ⟨⟨v3, rfl⟩, hr3, f3⟩
                have he3 := (HELS.out.fr f3).perm HP1.out
                have HR3 := hide hr3
                have HE3 := hide he3
                have HF3 := hide (HFR.out.no.trans f3)
                clear hr3 he3 f3
                have hc2 := HLF.out g3 g2 w3 HR3.out HE3.out
                have HC2 := hide hc2
                clear hc2
                go_wp2_with fail
                refine HC2.out.mono ?_
                rintro e w4 ⟨⟨v4, rfl⟩, ⟨C, pC, sC, hr4⟩, f4⟩
                have he4 := (HE3.out.fr f4).perm (((pC.append_left X).append_right (A2 ++ B2)).append_right Y)
                have hCl : C.length = x + y := by have := pC.length_eq; have e1 := HL1.out; have e2 := HL2.out; rw [List.length_append] at this; omega
                have HR4 := hide hr4
                have HE4 := hide he4
                have HF4 := hide (HF3.out.trans f4)
                have HPC := hide pC
                have HSC := hide sC
                have HCL := hide hCl
                clear hr4 he4 f4 pC sC hCl
                have hc3 := HRF.out g1 g4 w4 C HCL.out HR4.out HE4.out
                have HC3 := hide hc3
                clear hc3
                go_wp2_with fail
                refine HC3.out.mono ?_
                rintro e w5 ⟨⟨v5, rfl⟩, ⟨D, pD, sD, hr5⟩, f5⟩
                have hf := HFIN.out C D HPC.out pD HSC.out sD
                have HFF := hide hf
                have HR5 := hide hr5
                have HF5 := hide (HF4.out.trans f5)
                clear hf hr5 f5 pD sD
                go_wp2
                go_end0
                exact ⟨⟨_, rfl⟩, ⟨C ++ D, HFF.out.2, HFF.out.1, by have := HR5.out; simp only [List.append_assoc] at this ⊢; exact this⟩, HF5.out⟩
              · have s1 := t1.2 g1
                have s2 := t2.2 g2
                have s3 := t3.2 g3
                have s4 := t4.2 g2
                have s5 := t5.2 g1
                have s6 : ¬ en < b := fun h => g4 (t6.1 h)
                clear t1 t2 t3 t4 t5 t6
                have hc1 := HROT.out g1 g2 wr HROW.out
                have HC1 := hide hc1
                clear hc1
                go_wp2_with fail
                refine HC1.out.mono ?_
                rintro e w3 ⟨⟨v3, rfl⟩, hr3, f3⟩
                have he3 := (HELS.out.fr f3).perm HP1.out
                have HR3 := hide hr3
                have HE3 := hide he3
                have HF3 := hide (HFR.out.no.trans f3)
                clear hr3 he3 f3
                have hc2 := HLF.out g3 g2 w3 HR3.out HE3.out
                have HC2 := hide hc2
                clear hc2
                go_wp2_with fail
                refine HC2.out.mono ?_
                rintro e w4 ⟨⟨v4, rfl⟩, ⟨C, pC, sC, hr4⟩, f4⟩
                have he4 := (HE3.out.fr f4).perm (((pC.append_left X).append_right (A2 ++ B2)).append_right Y)
                have hCl : C.length = x + y := by have := pC.length_eq; have e1 := HL1.out; have e2 := HL2.out; rw [List.length_append] at this; omega
                have HR4 := hide hr4
                have HE4 := hide he4
                have HF4 := hide (HF3.out.trans f4)
                have HPC := hide pC
                have HSC := hide sC
                have HCL := hide hCl
                clear hr4 he4 f4 pC sC hCl
                obtain ⟨w5, rfl⟩ : ∃ w5, w5 = w4 := ⟨_, rfl⟩
                have f5 := Fr.refl (fun i => i = g) w5
                obtain ⟨D, hDe⟩ : ∃ D, D = A2 ++ B2 := ⟨_, rfl⟩
                have pD : D.Perm (A2 ++ B2) := by rw [hDe]
                have sD : D.Pairwise leT := by
                  rw [hDe]
                  have e1 := HL1.out
                  have e2 := HL2.out
                  have e3 := HL3.out
                  have e4 := HL4.out
                  by_cases h : A2.length = 0
                  · exact sorted_nil_left h HS4.out
                  · exact sorted_nil_right (by omega) HS2.out
                have hr5 : Rw w5 lo g cap (X ++ C ++ D ++ Y) := by rw [hDe]; exact HR4.out
                clear hDe
                have hf := HFIN.out C D HPC.out pD HSC.out sD
                have HFF := hide hf
                have HR5 := hide hr5
                have HF5 := hide (HF4.out.trans f5)
                clear hf hr5 f5 pD sD
                go_wp2
                go_end0
                exact ⟨⟨_, rfl⟩, ⟨C ++ D, HFF.out.2, HFF.out.1, by have := HR5.out; simp only [List.append_assoc] at this ⊢; exact this⟩, HF5.out⟩
            · by_cases g4 : y < (B1 ++ B2).length
              · have s1 := t1.2 g1
                have s2 := t2.2 g2
                have s3 : ¬ a < i := fun h => g3 (t3.1 h)
                have s4 := t4.2 g2
                have s5 := t5.2 g1
                have s6 := t6.2 g4
                clear t1 t2 t3 t4 t5 t6
                have hc1 := HROT.out g1 g2 wr HROW.out
                have HC1 := hide hc1
                clear hc1
                go_wp2_with fail
                refine HC1.out.mono ?_
                rintro e w3 ⟨⟨v3, rfl⟩, hr3, f3⟩
                have he3 := (HELS.out.fr f3).perm HP1.out
                have HR3 := hide hr3
                have HE3 := hide he3
                have HF3 := hide (HFR.out.no.trans f3)
                clear hr3 he3 f3
                obtain ⟨w4, rfl⟩ : ∃ w4, w4 = w3 := ⟨_, rfl⟩
                have f4 := Fr.refl (fun i => i = g) w4
                obtain ⟨C, hCe⟩ : ∃ C, C = A1 ++ B1 := ⟨_, rfl⟩
                have pC : C.Perm (A1 ++ B1) := by rw [hCe]
                have sC : C.Pairwise leT := by
                  rw [hCe]
                  have e1 := HL1.out
                  have e2 := HL2.out
                  by_cases h : A1.length = 0
                  · exact sorted_nil_left h HS3.out
                  · exact sorted_nil_right (by omega) HS1.out
                have hr4 : Rw w4 lo g cap (X ++ C ++ (A2 ++ B2) ++ Y) := by rw [hCe]; exact HR3.out
                clear hCe
                have he4 := (HE3.out.fr f4).perm (((pC.append_left X).append_right (A2 ++ B2)).append_right Y)
                have hCl : C.length = x + y := by have := pC.length_eq; have e1 := HL1.out; have e2 := HL2.out; rw [List.length_append] at this; omega
                have HR4 := hide hr4
                have HE4 := hide he4
                have HF4 := hide (HF3.out.trans f4)
                have HPC := hide pC
                have HSC := hide sC
                have HCL := hide hCl
                clear hr4 he4 f4 pC sC hCl
                have hc3 := HRF.out g1 g4 w4 C HCL.out HR4.out HE4.out
                have HC3 := hide hc3
                clear hc3
                go_wp2_with fail
                refine HC3.out.mono ?_
                rintro e w5 ⟨⟨v5, rfl⟩, ⟨D, pD, sD, hr5⟩, f5⟩
                have hf := HFIN.out C D HPC.out pD HSC.out sD
                have HFF := hide hf
                have HR5 := hide hr5
                have HF5 := hide (HF4.out.trans f5)
                clear hf hr5 f5 pD sD
                go_wp2
                go_end0
                exact ⟨⟨_, rfl⟩, ⟨C ++ D, HFF.out.2, HFF.out.1, by have := HR5.out; simp only [List.append_assoc] at this ⊢; exact this⟩, HF5.out⟩
              · have s1 := t1.2 g1
                have s2 := t2.2 g2
                have s3 : ¬ a < i := fun h => g3 (t3.1 h)
                have s4 := t4.2 g2
                have s5 := t5.2 g1
                have s6 : ¬ en < b := fun h => g4 (t6.1 h)
                clear t1 t2 t3 t4 t5 t6
                have hc1 := HROT.out g1 g2 wr HROW.out
                have HC1 := hide hc1
                clear hc1
                go_wp2_with fail
                refine HC1.out.mono ?_
                rintro e w3 ⟨⟨v3, rfl⟩, hr3, f3⟩
                have he3 := (HELS.out.fr f3).perm HP1.out
                have HR3 := hide hr3
                have HE3 := hide he3
                have HF3 := hide (HFR.out.no.trans f3)
                clear hr3 he3 f3
                obtain ⟨w4, rfl⟩ : ∃ w4, w4 = w3 := ⟨_, rfl⟩
                have f4 := Fr.refl (fun i => i = g) w4
                obtain ⟨C, hCe⟩ : ∃ C, C = A1 ++ B1 := ⟨_, rfl⟩
                have pC : C.Perm (A1 ++ B1) := by rw [hCe]
                have sC : C.Pairwise leT := by
                  rw [hCe]
                  have e1 := HL1.out
                  have e2 := HL2.out
                  by_cases h : A1.length = 0
                  · exact sorted_nil_left h HS3.out
                  · exact sorted_nil_right (by omega) HS1.out
                have hr4 : Rw w4 lo g cap (X ++ C ++ (A2 ++ B2) ++ Y) := by rw [hCe]; exact HR3.out
                clear hCe
                have he4 := (HE3.out.fr f4).perm (((pC.append_left X).append_right (A2 ++ B2)).append_right Y)
                have hCl : C.length = x + y := by have := pC.length_eq; have e1 := HL1.out; have e2 := HL2.out; rw [List.length_append] at this; omega
                have HR4 := hide hr4
                have HE4 := hide he4
                have HF4 := hide (HF3.out.trans f4)
                have HPC := hide pC
                have HSC := hide sC
                have HCL := hide hCl
                clear hr4 he4 f4 pC sC hCl
                obtain ⟨w5, rfl⟩ : ∃ w5, w5 = w4 := ⟨_, rfl⟩
                have f5 := Fr.refl (fun i => i = g) w5
                obtain ⟨D, hDe⟩ : ∃ D, D = A2 ++ B2 := ⟨_, rfl⟩
                have pD : D.Perm (A2 ++ B2) := by rw [hDe]
                have sD : D.Pairwise leT := by
                  rw [hDe]
                  have e1 := HL1.out
                  have e2 := HL2.out
                  have e3 := HL3.out
                  have e4 := HL4.out
                  by_cases h : A2.length = 0
                  · exact sorted_nil_left h HS4.out
                  · exact sorted_nil_right (by omega) HS2.out
                have hr5 : Rw w5 lo g cap (X ++ C ++ D ++ Y) := by rw [hDe]; exact HR4.out
                clear hDe
                have hf := HFIN.out C D HPC.out pD HSC.out sD
                have HFF := hide hf
                have HR5 := hide hr5
                have HF5 := hide (HF4.out.trans f5)
                clear hf hr5 f5 pD sD
                go_wp2
                go_end0
                exact ⟨⟨_, rfl⟩, ⟨C ++ D, HFF.out.2, HFF.out.1, by have := HR5.out; simp only [List.append_assoc] at this ⊢; exact this⟩, HF5.out⟩
          · have g3 : 0 < x := by omega
            have g4 : y < (B1 ++ B2).length := by omega
            have s1 := t1.2 g1
            have s2 : ¬ m < en := fun h => g2 (t2.1 h)
            have s3 := t3.2 g3
            have s4 : ¬ i < mid := fun h => g2 (t4.1 h)
            have s5 := t5.2 g1
            have s6 := t6.2 g4
            clear t1 t2 t3 t4 t5 t6
            obtain ⟨w3, rfl⟩ : ∃ w3, w3 = wr := ⟨_, rfl⟩
            have f3 := Fr.refl (fun i => i = g) w3
            have hr3 : Rw w3 lo g cap (X ++ (A1 ++ B1) ++ (A2 ++ B2) ++ Y) := by
              have := HROW.out
              have e1 := HL1.out
              have e2 := HL2.out
              have e3 := HL3.out
              have e4 : A2 = [] ∨ B1 = [] := by
                by_cases h : B1.length = 0
                · exact .inr (List.eq_nil_of_length_eq_zero h)
                · exact .inl (List.eq_nil_of_length_eq_zero (by omega))
              rcases e4 with rfl | rfl <;> simpa using this
            have he3 := (HELS.out.fr f3).perm HP1.out
            have HR3 := hide hr3
            have HE3 := hide he3
            have HF3 := hide (HFR.out.no.trans f3)
            clear hr3 he3 f3
            obtain ⟨w4, rfl⟩ : ∃ w4, w4 = w3 := ⟨_, rfl⟩
            have f4 := Fr.refl (fun i => i = g) w4
            obtain ⟨C, hCe⟩ : ∃ C, C = A1 ++ B1 := ⟨_, rfl⟩
            have pC : C.Perm (A1 ++ B1) := by rw [hCe]
            have sC : C.Pairwise leT := by
              rw [hCe]
              have e1 := HL1.out
              have e2 := HL2.out
              by_cases h : A1.length = 0
              · exact sorted_nil_left h HS3.out
              · exact sorted_nil_right (by omega) HS1.out
            have hr4 : Rw w4 lo g cap (X ++ C ++ (A2 ++ B2) ++ Y) := by rw [hCe]; exact HR3.out
            clear hCe
            have he4 := (HE3.out.fr f4).perm (((pC.append_left X).append_right (A2 ++ B2)).append_right Y)
            have hCl : C.length = x + y := by have := pC.length_eq; have e1 := HL1.out; have e2 := HL2.out; rw [List.length_append] at this; omega
            have HR4 := hide hr4
            have HE4 := hide he4
            have HF4 := hide (HF3.out.trans f4)
            have HPC := hide pC
            have HSC := hide sC
            have HCL := hide hCl
            clear hr4 he4 f4 pC sC hCl
            have hc3 := HRF.out g1 g4 w4 C HCL.out HR4.out HE4.out
            have HC3 := hide hc3
            clear hc3
            go_wp2_with fail
            refine HC3.out.mono ?_
            rintro e w5 ⟨⟨v5, rfl⟩, ⟨D, pD, sD, hr5⟩, f5⟩
            have hf := HFIN.out C D HPC.out pD HSC.out sD
            have HFF := hide hf
            have HR5 := hide hr5
            have HF5 := hide (HF4.out.trans f5)
            clear hf hr5 f5 pD sD
            go_wp2
            go_end0
            exact ⟨⟨_, rfl⟩, ⟨C ++ D, HFF.out.2, HFF.out.1, by have := HR5.out; simp only [List.append_assoc] at this ⊢; exact this⟩, HF5.out⟩
        · have g3 : 0 < x := by omega
          by_cases g2 : 0 < y
          · by_cases g4 : y < (B1 ++ B2).length
            · have s1 : ¬ i < m := fun h => g1 (t1.1 h)
              have s2 := t2.2 g2
              have s3 := t3.2 g3
              have s4 := t4.2 g2
              have s5 : ¬ mid < en := fun h => g1 (t5.1 h)
              have s6 := t6.2 g4
              clear t1 t2 t3 t4 t5 t6
              obtain ⟨w3, rfl⟩ : ∃ w3, w3 = wr := ⟨_, rfl⟩
              have f3 := Fr.refl (fun i => i = g) w3
              have hr3 : Rw w3 lo g cap (X ++ (A1 ++ B1) ++ (A2 ++ B2) ++ Y) := by
                have := HROW.out
                have e1 := HL1.out
                have e2 := HL2.out
                have e3 := HL3.out
                have e4 : A2 = [] ∨ B1 = [] := by
                  by_cases h : B1.length = 0
                  · exact .inr (List.eq_nil_of_length_eq_zero h)
                  · exact .inl (List.eq_nil_of_length_eq_zero (by omega))
                rcases e4 with rfl | rfl <;> simpa using this
              have he3 := (HELS.out.fr f3).perm HP1.out
              have HR3 := hide hr3
              have HE3 := hide he3
              have HF3 := hide (HFR.out.no.trans f3)
              clear hr3 he3 f3
              have hc2 := HLF.out g3 g2 w3 HR3.out HE3.out
              have HC2 := hide hc2
              clear hc2
              go_wp2_with fail
              refine HC2.out.mono ?_
              rintro e w4 ⟨⟨v4, rfl⟩, ⟨C, pC, sC, hr4⟩, f4⟩
              have he4 := (HE3.out.fr f4).perm (((pC.append_left X).append_right (A2 ++ B2)).append_right Y)
              have hCl : C.length = x + y := by have := pC.length_eq; have e1 := HL1.out; have e2 := HL2.out; rw [List.length_append] at this; omega
              have HR4 := hide hr4
              have HE4 := hide he4
              have HF4 := hide (HF3.out.trans f4)
              have HPC := hide pC
              have HSC := hide sC
              have HCL := hide hCl
              clear hr4 he4 f4 pC sC hCl
              obtain ⟨w5, rfl⟩ : ∃ w5, w5 = w4 := ⟨_, rfl⟩
              have f5 := Fr.refl (fun i => i = g) w5
              obtain ⟨D, hDe⟩ : ∃ D, D = A2 ++ B2 := ⟨_, rfl⟩
              have pD : D.Perm (A2 ++ B2) := by rw [hDe]
              have sD : D.Pairwise leT := by
                rw [hDe]
                have e1 := HL1.out
                have e2 := HL2.out
                have e3 := HL3.out
                have e4 := HL4.out
                by_cases h : A2.length = 0
                · exact sorted_nil_left h HS4.out
                · exact sorted_nil_right (by omega) HS2.out
              have hr5 : Rw w5 lo g cap (X ++ C ++ D ++ Y) := by rw [hDe]; exact HR4.out
              clear hDe
              have hf := HFIN.out C D HPC.out pD HSC.out sD
              have HFF := hide hf
              have HR5 := hide hr5
              have HF5 := hide (HF4.out.trans f5)
              clear hf hr5 f5 pD sD
              go_wp2
              go_end0
              exact ⟨⟨_, rfl⟩, ⟨C ++ D, HFF.out.2, HFF.out.1, by have := HR5.out; simp only [List.append_assoc] at this ⊢; exact this⟩, HF5.out⟩
            · have s1 : ¬ i < m := fun h => g1 (t1.1 h)
              have s2 := t2.2 g2
              have s3 := t3.2 g3
              have s4 := t4.2 g2
              have s5 : ¬ mid < en := fun h => g1 (t5.1 h)
              have s6 : ¬ en < b := fun h => g4 (t6.1 h)
              clear t1 t2 t3 t4 t5 t6
              obtain ⟨w3, rfl⟩ : ∃ w3, w3 = wr := ⟨_, rfl⟩
              have f3 := Fr.refl (fun i => i = g) w3
              have hr3 : Rw w3 lo g cap (X ++ (A1 ++ B1) ++ (A2 ++ B2) ++ Y) := by
                have := HROW.out
                have e1 := HL1.out
                have e2 := HL2.out
                have e3 := HL3.out
                have e4 : A2 = [] ∨ B1 = [] := by
                  by_cases h : B1.length = 0
                  · exact .inr (List.eq_nil_of_length_eq_zero h)
                  · exact .inl (List.eq_nil_of_length_eq_zero (by omega))
                rcases e4 with rfl | rfl <;> simpa using this
              have he3 := (HELS.out.fr f3).perm HP1.out
              have HR3 := hide hr3
              have HE3 := hide he3
              have HF3 := hide (HFR.out.no.trans f3)
              clear hr3 he3 f3
              have hc2 := HLF.out g3 g2 w3 HR3.out HE3.out
              have HC2 := hide hc2
              clear hc2
              go_wp2_with fail
              refine HC2.out.mono ?_
              rintro e w4 ⟨⟨v4, rfl⟩, ⟨C, pC, sC, hr4⟩, f4⟩
              have he4 := (HE3.out.fr f4).perm (((pC.append_left X).append_right (A2 ++ B2)).append_right Y)
              have hCl : C.length = x + y := by have := pC.length_eq; have e1 := HL1.out; have e2 := HL2.out; rw [List.length_append] at this; omega
              have HR4 := hide hr4
              have HE4 := hide he4
              have HF4 := hide (HF3.out.trans f4)
              have HPC := hide pC
              have HSC := hide sC
              have HCL := hide hCl
              clear hr4 he4 f4 pC sC hCl
              obtain ⟨w5, rfl⟩ : ∃ w5, w5 = w4 := ⟨_, rfl⟩
              have f5 := Fr.refl (fun i => i = g) w5
              obtain ⟨D, hDe⟩ : ∃ D, D = A2 ++ B2 := ⟨_, rfl⟩
              have pD : D.Perm (A2 ++ B2) := by rw [hDe]
              have sD : D.Pairwise leT := by
                rw [hDe]
                have e1 := HL1.out
                have e2 := HL2.out
                have e3 := HL3.out
                have e4 := HL4.out
                by_cases h : A2.length = 0
                · exact sorted_nil_left h HS4.out
                · exact sorted_nil_right (by omega) HS2.out
              have hr5 : Rw w5 lo g cap (X ++ C ++ D ++ Y) := by rw [hDe]; exact HR4.out
              clear hDe
              have hf := HFIN.out C D HPC.out pD HSC.out sD
              have HFF := hide hf
              have HR5 := hide hr5
              have HF5 := hide (HF4.out.trans f5)
              clear hf hr5 f5 pD sD
              go_wp2
              go_end0
              exact ⟨⟨_, rfl⟩, ⟨C ++ D, HFF.out.2, HFF.out.1, by have := HR5.out; simp only [List.append_assoc] at this ⊢; exact this⟩, HF5.out⟩
          · have g4 : y < (B1 ++ B2).length := by omega
            have s1 : ¬ i < m := fun h => g1 (t1.1 h)
            have s2 : ¬ m < en := fun h => g2 (t2.1 h)
            have s3 := t3.2 g3
            have s4 : ¬ i < mid := fun h => g2 (t4.1 h)
            have s5 : ¬ mid < en := fun h => g1 (t5.1 h)
            have s6 := t6.2 g4
            clear t1 t2 t3 t4 t5 t6
            obtain ⟨w3, rfl⟩ : ∃ w3, w3 = wr := ⟨_, rfl⟩
            have f3 := Fr.refl (fun i => i = g) w3
            have hr3 : Rw w3 lo g cap (X ++ (A1 ++ B1) ++ (A2 ++ B2) ++ Y) := by
              have := HROW.out
              have e1 := HL1.out
              have e2 := HL2.out
              have e3 := HL3.out
              have e4 : A2 = [] ∨ B1 = [] := by
                by_cases h : B1.length = 0
                · exact .inr (List.eq_nil_of_length_eq_zero h)
                · exact .inl (List.eq_nil_of_length_eq_zero (by omega))
              rcases e4 with rfl | rfl <;> simpa using this
            have he3 := (HELS.out.fr f3).perm HP1.out
            have HR3 := hide hr3
            have HE3 := hide he3
            have HF3 := hide (HFR.out.no.trans f3)
            clear hr3 he3 f3
            obtain ⟨w4, rfl⟩ : ∃ w4, w4 = w3 := ⟨_, rfl⟩
            have f4 := Fr.refl (fun i => i = g) w4
            obtain ⟨C, hCe⟩ : ∃ C, C = A1 ++ B1 := ⟨_, rfl⟩
            have pC : C.Perm (A1 ++ B1) := by rw [hCe]
            have sC : C.Pairwise leT := by
              rw [hCe]
              have e1 := HL1.out
              have e2 := HL2.out
              by_cases h : A1.length = 0
              · exact sorted_nil_left h HS3.out
              · exact sorted_nil_right (by omega) HS1.out
            have hr4 : Rw w4 lo g cap (X ++ C ++ (A2 ++ B2) ++ Y) := by rw [hCe]; exact HR3.out
            clear hCe
            have he4 := (HE3.out.fr f4).perm (((pC.append_left X).append_right (A2 ++ B2)).append_right Y)
            have hCl : C.length = x + y := by have := pC.length_eq; have e1 := HL1.out; have e2 := HL2.out; rw [List.length_append] at this; omega
            have HR4 := hide hr4
            have HE4 := hide he4
            have HF4 := hide (HF3.out.trans f4)
            have HPC := hide pC
            have HSC := hide sC
            have HCL := hide hCl
            clear hr4 he4 f4 pC sC hCl
            obtain ⟨w5, rfl⟩ : ∃ w5, w5 = w4 := ⟨_, rfl⟩
            have f5 := Fr.refl (fun i => i = g) w5
            obtain ⟨D, hDe⟩ : ∃ D, D = A2 ++ B2 := ⟨_, rfl⟩
            have pD : D.Perm (A2 ++ B2) := by rw [hDe]
            have sD : D.Pairwise leT := by
              rw [hDe]
              have e1 := HL1.out
              have e2 := HL2.out
              have e3 := HL3.out
              have e4 := HL4.out
              by_cases h : A2.length = 0
              · exact sorted_nil_left h HS4.out
              · exact sorted_nil_right (by omega) HS2.out
            have hr5 : Rw w5 lo g cap (X ++ C ++ D ++ Y) := by rw [hDe]; exact HR4.out
            clear hDe
            have hf := HFIN.out C D HPC.out pD HSC.out sD
            have HFF := hide hf
            have HR5 := hide hr5
            have HF5 := hide (HF4.out.trans f5)
            clear hf hr5 f5 pD sD
            go_wp2
            go_end0
            exact ⟨⟨_, rfl⟩, ⟨C ++ D, HFF.out.2, HFF.out.1, by have := HR5.out; simp only [List.append_assoc] at this ⊢; exact this⟩, HF5.out⟩

end Go.Proofs.Ytihjmipmjogpoaa

/- Chapter 2: slices.stableCmpFunc, SortStableFunc on a row of values. -/
namespace Go.Proofs.Ytihjmipmjogpoaa
open Go.RowKit

theorem mergeK (k : Nat) : MergeK k := by
  induction k with
  | zero => intro X A B Y w lo g cap N h hA; omega
  | succ k ih =>
    intro X A B Y w lo g cap N h hA hB sA sB hN hN2 hr hE
    by_cases hA1 : A.length = 1
    · obtain ⟨x, rfl⟩ := List.length_eq_one_iff.1 hA1
      have := merge_one X x B Y hB sB w lo g cap N (by simpa using hN) hN2 (by simpa using hr) (by simpa using hE)
      exact this.mono fun e w' ⟨h1, ⟨C, h2, h3, h4⟩, h5⟩ => ⟨h1, ⟨C, by simpa using h2, h3, h4⟩, h5⟩
    · by_cases hB1 : B.length = 1
      · obtain ⟨x, rfl⟩ := List.length_eq_one_iff.1 hB1
        have := merge_last X A x Y (by omega) sA w lo g cap N (by simpa using hN) hN2 (by simpa using hr) (by simpa using hE)
        exact this.mono fun e w' ⟨h1, ⟨C, h2, h3, h4⟩, h5⟩ => ⟨h1, ⟨C, h2.trans (List.perm_append_singleton x A).symm, h3, h4⟩, h5⟩
      · exact merge_step k ih X A B Y h (by omega) (by omega) sA sB w lo g cap N hN hN2 hr hE

theorem merge_any {X A B Y : List T} {w : World} {lo g cap N a m b : Nat} (hA : 0 < A.length) (hB : 0 < B.length) (sA : A.Pairwise leT) (sB : B.Pairwise leT) (hN : (X ++ A ++ B ++ Y).length = N) (hN2 : N ≤ 1000000) (hr : Rw w lo g cap (X ++ A ++ B ++ Y)) (hE : Els w g (X ++ A ++ B ++ Y))
    (ha : X.length = a) (hm : X.length + A.length = m) (hb : X.length + A.length + B.length = b) :
    Calls Try.prog 160 #[.slice (some ⟨g, 0, none⟩) N cap, .int .i64 (a : Int), .int .i64 (m : Int), .int .i64 (b : Int), .func (.func 118) #[] #[]] w (MergeP X A B Y lo g cap w) := by
  subst ha hm hb
  exact mergeK _ X A B Y w lo g cap N (Nat.le_refl _) hA hB sA sB hN hN2 hr hE

/-- insertionSort, of no part or some. -/
theorem insertion_all {X A Y : List T} {w : World} {lo g cap N a b : Nat} (hN : (X ++ A ++ Y).length = N) (hN2 : N ≤ 1000000) (h : Rw w lo g cap (X ++ A ++ Y)) (hE : Els w g (X ++ A ++ Y)) (ha : X.length = a) (hb : X.length + A.length = b) :
    Calls Try.prog 159 #[.slice (some ⟨g, 0, none⟩) N cap, .int .i64 (a : Int), .int .i64 (b : Int), .func (.func 118) #[] #[]] w fun e w' => (∃ v, e = .returned v) ∧ (∃ C, C.Perm A ∧ C.Pairwise leT ∧ Rw w' lo g cap (X ++ C ++ Y)) ∧ Fr (fun i => i = g) w w' := by
  subst ha hb
  by_cases hA : A.length = 0
  · obtain rfl := List.eq_nil_of_length_eq_zero hA
    have := insertion_none X Y w lo g cap N (by simpa using hN) hN2 (by simpa using h)
    exact this.mono fun e w' ⟨h1, h2⟩ => ⟨h1, ⟨[], .refl _, .nil, by rw [h2]; exact h⟩, by rw [h2]; exact Fr.refl _ _⟩
  · exact insertion_any X A Y (by omega) w lo g cap N hN hN2 h hE

/-- Where the first loop of stable stands. -/
structure St1 (w : World) (lo g cap N : Nat) (L C : List T) (i a b : Nat) (wr : World) : Prop where
  a_ : a = i * 20
  b_ : b = a + 20
  aN : a ≤ N
  perm : C.Perm L
  chk : ∀ k, k < i → Ck 20 k C
  row : Rw wr lo g cap C
  fr : Fr (fun i => i = g) w wr

/-- Where the second loop stands. -/
structure St2 (w : World) (lo g cap : Nat) (L C : List T) (bs : Nat) (wr : World) : Prop where
  bs1 : 20 ≤ bs
  perm : C.Perm L
  chk : ∀ k, Ck bs k C
  row : Rw wr lo g cap C
  fr : Fr (fun i => i = g) w wr

/-- Where the loop within it stands. -/
structure St3 (w : World) (lo g cap N : Nat) (L C : List T) (bs i a b : Nat) (wr : World) : Prop where
  a_ : a = i * (2 * bs)
  b_ : b = a + 2 * bs
  aN : a ≤ N
  perm : C.Perm L
  chk : ∀ k, k < i → Ck (2 * bs) k C
  old : ∀ k, 2 * i ≤ k → Ck bs k C
  row : Rw wr lo g cap C
  fr : Fr (fun i => i = g) w wr

theorem St1.next {w : World} {lo g cap N : Nat} {L X A Y : List T} {i a b : Nat} {wr w2 : World} (h : St1 w lo g cap N L (X ++ A ++ Y) i a b wr) (hb : b ≤ N) (hX : X.length = a) (hA : A.length = b - a) {C : List T} (pC : C.Perm A) (sC : C.Pairwise leT) (hr : Rw w2 lo g cap (X ++ C ++ Y)) (f : Fr (fun i => i = g) wr w2) :
    St1 w lo g cap N L (X ++ C ++ Y) (i + 1) b (b + 20) w2 := by
  have ha := h.a_
  have hbb := h.b_
  exact ⟨by omega, rfl, hb, ((pC.append_left X).append_right Y).trans h.perm, ck_first (by omega) (by rw [pC.length_eq]; omega) sC h.chk, hr, h.fr.trans f⟩

theorem St1.last {w : World} {lo g cap N : Nat} {L X A Y : List T} {i a b : Nat} {wr w2 : World} (h : St1 w lo g cap N L (X ++ A ++ Y) i a b wr) (hb : ¬ b ≤ N) (hX : X.length = a) (hA : A.length = N - a) (hY : Y.length = 0) {C : List T} (pC : C.Perm A) (sC : C.Pairwise leT) (hr : Rw w2 lo g cap (X ++ C ++ Y)) (f : Fr (fun i => i = g) wr w2) :
    St2 w lo g cap L (X ++ C) 20 w2 := by
  have ha := h.a_
  have hbb := h.b_
  obtain rfl := List.eq_nil_of_length_eq_zero hY
  have hk := h.chk
  have hp := h.perm
  rw [List.append_nil] at hk hp hr
  exact ⟨Nat.le_refl _, (pC.append_left X).trans hp, ck_firstLast (by omega) (by rw [pC.length_eq]; omega) sC hk, hr, h.fr.trans f⟩

theorem St3.next {w : World} {lo g cap N : Nat} {L X A B Y : List T} {bs i a b b' : Nat} {wr w2 : World} (h : St3 w lo g cap N L (X ++ A ++ B ++ Y) bs i a b wr) (hb : b ≤ N) (hX : X.length = a) (hA : A.length = bs) (hB : B.length = bs) (hb' : b' = b + 2 * bs) {C : List T} (pC : C.Perm (A ++ B)) (sC : C.Pairwise leT) (hr : Rw w2 lo g cap (X ++ C ++ Y)) (f : Fr (fun i => i = g) wr w2) :
    St3 w lo g cap N L (X ++ C ++ Y) bs (i + 1) b b' w2 := by
  have ha := h.a_
  have hbb := h.b_
  have hc := ck_merge (X := X) (A := A) (B := B) (Y := Y) (C := C) (by omega) hA hB (by rw [pC.length_eq, List.length_append]; omega) sC h.chk h.old
  refine ⟨by rw [Nat.succ_mul]; omega, hb', hb, ?_, hc.1, hc.2, hr, h.fr.trans f⟩
  have := (pC.append_left X).append_right Y
  exact (by simpa only [List.append_assoc] using this : (X ++ C ++ Y).Perm (X ++ A ++ B ++ Y)).trans h.perm

theorem St3.done {w : World} {lo g cap N : Nat} {L X A : List T} {bs i a b : Nat} {wr w2 : World} (h : St3 w lo g cap N L (X ++ A) bs i a b wr) (hb : ¬ b ≤ N) (hN : (X ++ A).length = N) (h20 : 20 ≤ bs) (hX : X.length = a) {C : List T} (pC : C.Perm A) (sC : C.Pairwise leT) (hr : Rw w2 lo g cap (X ++ C)) (f : Fr (fun i => i = g) wr w2) :
    St2 w lo g cap L (X ++ C) (2 * bs) w2 := by
  have ha := h.a_
  have hbb := h.b_
  rw [List.length_append] at hN
  exact ⟨by omega, (pC.append_left X).trans h.perm, ck_mergeLast (by omega) (by rw [pC.length_eq]; omega) sC h.chk, hr, h.fr.trans f⟩

end Go.Proofs.Ytihjmipmjogpoaa

/- Chapter 2: slices.stableCmpFunc on a row of values: the walk. -/
namespace Go.Proofs.Ytihjmipmjogpoaa
open Go.RowKit

set_option maxRecDepth 100000 in
set_option maxHeartbeats 8000000 in
theorem stable_any (L : List T) (w : World) (lo g cap N : Nat) (hN : L.length = N) (hN2 : N ≤ 1000000) (h : Rw w lo g cap L) (hE : Els w g L) :
    Calls Try.prog 153 #[.slice (some ⟨g, 0, none⟩) N cap, .int .i64 (N : Int), .func (.func 118) #[] #[]] w fun e w' => (∃ v, e = .returned v) ∧ (∃ C, C.Perm L ∧ C.Pairwise leT ∧ Rw w' lo g cap C) ∧ Fr (fun i => i = g) w w' := by
  have hni : (N : Int) ≤ 1000000 := by omega
  have H := hide h
  have HE := hide hE
  have HN := hide hN
  clear h hE hN
  have hels : ∀ (C : List T) (wr : World), C.Perm L → Fr (fun i => i = g) w wr → Els wr g C := fun C wr p f => (HE.out.fr f).perm p
  have HELS := hide hels
  have hlen : ∀ (C : List T), C.Perm L → C.length = N := fun C p => by rw [p.length_eq]; exact HN.out
  have HLEN := hide hlen
  clear hels hlen
  go_enter Try.func153, Try.ntmps153
  go_wp2_with fail
  go_loopw [7, 8] (fun av bv wr => ∃ (a b i : Nat) (C : List T), av = .int .i64 a ∧ bv = .int .i64 b ∧ St1 w lo g cap N L C i a b wr) (fun av _ _ => N - (intOf av).toNat)
  case atStart => exact ⟨0, 20, 0, L, rfl, rfl, rfl, rfl, Nat.zero_le _, .refl _, fun k h => by omega, H.out, Fr.refl _ _⟩
  case round =>
    obtain ⟨a, b, i, C, rfl, rfl, st⟩ := hrel
    have haN := st.aN
    have hba : b ≤ a + 20 := Nat.le_of_eq st.b_
    have hbb : a + 20 ≤ b := Nat.le_of_eq st.b_.symm
    have hCl := HLEN.out C st.perm
    have hai : (a : Int) ≤ 1000000 := by omega
    have hbi : (b : Int) ≤ 1000020 := by omega
    by_cases hbN : b ≤ N
    · obtain ⟨X, A, Y, rfl, hX, hA⟩ := part_at C (lo := a) (hi := b) (by omega) (by omega)
      have hc := insertion_all (X := X) (A := A) (Y := Y) (w := wr) (a := a) (b := b) hCl hN2 st.row (HELS.out _ _ st.perm st.fr) hX (by omega)
      have HC := hide hc
      have HST := hide st
      have HX := hide hX
      have HAL := hide hA
      clear hc st hX hA hCl
      go_wp2_with fail
      refine HC.out.mono ?_
      rintro e w2 ⟨⟨v, rfl⟩, ⟨C, pC, sC, hr⟩, f⟩
      have HNX := hide (HST.out.next hbN HX.out HAL.out pC sC hr f)
      clear pC sC hr f
      have hab : a < b := by omega
      go_wp2
      go_roundw
      case rel => exact ⟨b, b + 20, i + 1, _, rfl, by go_num, HNX.out⟩
      case measure => simp [intOf]; omega
    · obtain ⟨X, A, Y, rfl, hX, hA⟩ := part_at C (lo := a) (hi := N) (by omega) (by omega)
      have hY : Y.length = 0 := by simp at hCl; omega
      have hc := insertion_all (X := X) (A := A) (Y := Y) (w := wr) (a := a) (b := N) hCl hN2 st.row (HELS.out _ _ st.perm st.fr) hX (by omega)
      have HC := hide hc
      have HST := hide st
      have HX := hide hX
      have HAL := hide hA
      have HY := hide hY
      clear hc st hX hA hCl hY
      go_wp2_with fail
      refine HC.out.mono ?_
      rintro e w2 ⟨⟨v, rfl⟩, ⟨C, pC, sC, hr⟩, f⟩
      have HNX := hide (HST.out.last hbN HX.out HAL.out HY.out pC sC hr f)
      clear pC sC hr f
      obtain ⟨wo, rfl⟩ : ∃ wo : World, wo = wr := ⟨_, rfl⟩
      go_wp2_with fail
      go_loopw [6] (fun sv wr => ∃ (bs : Nat) (C : List T), sv = .int .i64 bs ∧ St2 w lo g cap L C bs wr) (fun sv _ => N - (intOf sv).toNat)
      case atStart => exact ⟨20, _, rfl, HNX.out⟩
      case round =>
        obtain ⟨bs, D, rfl, st⟩ := hrel
        have h20 := st.bs1
        by_cases hlt : bs < N
        · obtain ⟨d, hd⟩ : ∃ d, 2 * bs = d := ⟨_, rfl⟩
          have hdi : (2 : Int) * (bs : Int) = (d : Int) := by omega
          have hdi' : (bs : Int) * 2 = (d : Int) := by omega
          have hd2 : (d : Int) ≤ 2000000 := by omega
          have hbsi : (bs : Int) ≤ 1000000 := by omega
          have HS2 := hide st
          have HD := hide hd
          clear st hd
          obtain ⟨wo2, rfl⟩ : ∃ wo2 : World, wo2 = wr := ⟨_, rfl⟩
          go_wp2_with fail
          go_loopw [7, 8] (fun av bv wr => ∃ (a b i : Nat) (C : List T), av = .int .i64 a ∧ bv = .int .i64 b ∧ St3 w lo g cap N L C bs i a b wr) (fun av _ _ => N - (intOf av).toNat)
          case atStart => exact ⟨0, d, 0, D, rfl, rfl, by simp, by have := HD.out; omega, Nat.zero_le _, HS2.out.perm, fun k h => by omega, fun k _ => HS2.out.chk k, HS2.out.row, HS2.out.fr⟩
          case round =>
            obtain ⟨a, b, i, C, rfl, rfl, st⟩ := hrel
            have haN := st.aN
            have hba : b ≤ a + 2 * bs := Nat.le_of_eq st.b_
            have hbb : a + 2 * bs ≤ b := Nat.le_of_eq st.b_.symm
            have hCl := HLEN.out C st.perm
            have hai : (a : Int) ≤ 1000000 := by omega
            have hbi : (b : Int) ≤ 3000000 := by omega
            have hDD := HD.out
            obtain ⟨m, hm⟩ : ∃ m, a + bs = m := ⟨_, rfl⟩
            have hme : (a : Int) + (bs : Int) = (m : Int) := by omega
            have hmi : (m : Int) ≤ 2000000 := by omega
            by_cases hbN : b ≤ N
            · obtain ⟨X, A0, Y, rfl, hX, hA0⟩ := part_at C (lo := a) (hi := m) (by omega) (by omega)
              have hY0 : Y.length = N - m := by simp at hCl; omega
              obtain ⟨B, Y, rfl, hB⟩ : ∃ B Y', Y = B ++ Y' ∧ B.length = bs := ⟨Y.take bs, Y.drop bs, (List.take_append_drop _ _).symm, by simp; omega⟩
              have e0 : X ++ A0 ++ (B ++ Y) = X ++ A0 ++ B ++ Y := by simp
              rw [e0] at st hCl
              have hA : A0.length = bs := by omega
              have hs := ck_two (X := X) (A := A0) (B := B) (Y := Y) (by have := st.a_; omega) hA st.old
              have hc := merge_any (X := X) (A := A0) (B := B) (Y := Y) (w := wr) (a := a) (m := m) (b := b) (by omega) (by omega) hs.1 (hs.2 (.inl hB)) hCl hN2 st.row (HELS.out _ _ st.perm st.fr) hX (by omega) (by omega)
              have HC := hide hc
              have HST := hide st
              have HX := hide hX
              have HAL := hide hA
              have HBL := hide hB
              have HMM := hide hm
              clear hc st hX hA hA0 hB hCl hY0 e0 hs hDD hm
              go_wp2_with fail
              refine HC.out.mono ?_
              rintro e w2 ⟨⟨v, rfl⟩, ⟨C, pC, sC, hr⟩, f⟩
              have HNX := hide (HST.out.next (b' := b + d) hbN HX.out HAL.out HBL.out (by have := HD.out; omega) pC sC hr f)
              clear pC sC hr f
              have hab : a < b := by omega
              go_wp2
              go_roundw
              case rel => exact ⟨b, b + d, i + 1, _, rfl, by go_num, HNX.out⟩
              case measure => simp [intOf]; omega
            · obtain ⟨X, A0, Y, rfl, hX, hA0⟩ := part_at C (lo := a) (hi := N) (by omega) (by omega)
              obtain rfl : Y = [] := List.eq_nil_of_length_eq_zero (by simp at hCl; omega)
              rw [List.append_nil] at st hCl
              by_cases hmN : m < N
              · obtain ⟨A, B, rfl, hA⟩ : ∃ A B, A0 = A ++ B ∧ A.length = bs := ⟨A0.take bs, A0.drop bs, (List.take_append_drop _ _).symm, by simp; omega⟩
                have hB : B.length = N - m := by simp at hA0; omega
                have e0 : X ++ (A ++ B) = X ++ A ++ B ++ [] := by simp
                have hr0 := st.row
                have hp0 := st.perm
                have hl0 := hCl
                have ho0 := st.old
                rw [e0] at hr0 hp0 hl0 ho0
                have hs := ck_two (X := X) (A := A) (B := B) (Y := []) (by have := st.a_; omega) hA ho0
                have hc := merge_any (X := X) (A := A) (B := B) (Y := []) (w := wr) (a := a) (m := m) (b := N) (by omega) (by omega) hs.1 (hs.2 (.inr ⟨by omega, rfl⟩)) hl0 hN2 hr0 (HELS.out _ _ hp0 st.fr) hX (by omega) (by omega)
                have HC := hide hc
                have HST := hide st
                have HX := hide hX
                have HCL := hide hCl
                have HMM := hide hm
                clear hc st hX hA hA0 hB hCl e0 hs hDD hm hr0 hp0 hl0 ho0
                go_wp2_with fail
                refine HC.out.mono ?_
                rintro e w2 ⟨⟨v, rfl⟩, ⟨C, pC, sC, hr⟩, f⟩
                rw [List.append_nil] at hr
                have HNX := hide (HST.out.done hbN HCL.out h20 HX.out pC sC hr f)
                clear pC sC hr f
                go_wp2
                go_roundw
                case rel => exact ⟨d, _, rfl, by have := HNX.out; rw [HD.out] at this; exact this⟩
                case measure => have := HD.out; simp [intOf]; omega
              · have hs := ck_half (X := X) (A := A0) (by have := st.a_; omega) (by omega) st.old
                have HNX := hide (st.done hbN hCl h20 hX (.refl _) hs st.row (Fr.refl _ _))
                clear st hX hA0 hCl hs hDD hm
                go_wp2
                go_roundw
                case rel => exact ⟨d, _, rfl, by have := HNX.out; rw [HD.out] at this; exact this⟩
                case measure => have := HD.out; simp [intOf]; omega
        · have hDl := HLEN.out D st.perm
          have hs : D.Pairwise leT := (ck_zero (by omega)).1 (st.chk 0)
          have HS := hide hs
          have HST := hide st
          clear hs st hDl
          go_wp2
          go_end0
          exact ⟨⟨_, rfl⟩, ⟨D, HST.out.perm, HS.out, HST.out.row⟩, HST.out.fr⟩

end Go.Proofs.Ytihjmipmjogpoaa

/- Texts joined: Y9, Z1, Z2, Z3, Z4, E2, E3, E4, E6. -/
import Derived.Test.YtihjmipmjogpoaaJn6
import Derived.WalkLawsBesides
/- Chapter 2: Read. -/
namespace Go.Proofs.Ytihjmipmjogpoaa
open Go.RowKit

abbrev zeroVal : Value := .agg #[.int .u8 0, .int .i64 0, .string ⟨#[]⟩, .slice none 0 0, .int .i64 0]

/-- What Read leaves. -/
structure ReadP (s : ByteArray) (w : World) (e : Ending) (w' : World) : Prop where
  fr : Fr No w w'
  big : 262144 < s.size → e = .returned (.tuple #[zeroVal, .int .i64 4])
  no : s.size ≤ 262144 → (∀ u n', parse 16 s 512 ≠ some (u, ⟨#[]⟩, n')) → e = .returned (.tuple #[zeroVal, .int .i64 20])
  yes : ∀ u n', s.size ≤ 262144 → parse 16 s 512 = some (u, ⟨#[]⟩, n') → ∃ t : T, t.v = u ∧ e = .returned (.tuple #[t.val, .int .i64 0]) ∧ t.In w' w.heap.size w'.heap.size

theorem notEmpty {s : ByteArray} (h : ¬ s = ⟨#[]⟩) : s.toList.isEmpty = false := by
  cases s with
  | mk a =>
    rw [Lib.toList_data]
    cases hl : a.toList with
    | nil => exact absurd (by rw [show a = #[] from by simpa using hl]) h
    | cons x l => rfl

set_option maxRecDepth 100000 in
set_option maxHeartbeats 4000000 in
theorem Read_any (s : ByteArray) (w : World) : Calls Try.prog 48 #[.string s] w (ReadP s w) := by
  have fr1 := (Fr.refl No w).alloc (.cells #[.int .u8 0, .int .i64 0, .string ⟨#[]⟩, .slice none 0 0, .int .i64 0] 27)
  have hK := Blk.new' w 27 #[.int .u8 0, .int .i64 0, .string ⟨#[]⟩, .slice none 0 0, .int .i64 0] rfl
  by_cases hbig : 262144 < s.size
  · have hb' : (262144 : Int) < (s.size : Int) := by omega
    go_enter Try.func48, Try.ntmps48
    go_wp2
    refine bodyPost_ret (v := (.tuple #[.agg #[.int .u8 0, .int .i64 0, .string ⟨#[]⟩, .slice none 0 0, .int .i64 0], .int .i64 4])) (by simp [results, Try.results48, go_sem, *]) rfl ?_
    refine ⟨?_, fun _ => rfl, (fun h => by omega), (fun _ _ h => by omega)⟩
    repeat (first | with_reducible exact fr1 | with_reducible refine Fr.setNew ?_ (Nat.le_refl _) _)
  · have hb' : ¬ (262144 : Int) < (s.size : Int) := by omega
    have hF := fun w => Front_any s w (by omega)
    have hsz : (w.alloc (.cells #[.int .u8 0, .int .i64 0, .string ⟨#[]⟩, .slice none 0 0, .int .i64 0] 27)).heap.size = w.heap.size + 1 := by simp
    go_enter Try.func48, Try.ntmps48
    go_wp2_with fail
    generalize World.alloc w _ = W0 at *
    refine (hF W0).mono ?_
    rintro e w2 hq
    have hK2 := hK.fr hq.fr (fun h => h)
    have hs2 := hq.fr.size
    have HF2 := hide (fr1.trans hq.fr)
    obtain ⟨k0, k1, k2, k3, k4, kf⟩ := hK2.cells5
    have kq := hK2.lt
    cases hp : parse 16 s 512 with
    | none =>
      have he := hq.no hp
      subst he
      have HP := hide hp
      clear hq hp hF hK hK2 fr1
      go_wp2
      refine bodyPost_ret (v := (.tuple #[.agg #[.int .u8 0, .int .i64 0, .string ⟨#[]⟩, .slice none 0 0, .int .i64 0], .int .i64 20])) (by simp [results, Try.results48, go_sem, *]) rfl ?_
      refine ⟨?_, (fun h => absurd h hbig), fun _ _ => rfl, (fun _ _ _ h => by rw [HP.out] at h; cases h)⟩
      have f := HF2.out
      repeat (first | with_reducible exact f | with_reducible refine Fr.setNew ?_ (by first | (simp; done) | (simp; omega)) _ | with_reducible refine Fr.alloc ?_ _)
    | some tv =>
      obtain ⟨u, s3, n3⟩ := tv
      obtain ⟨⟨k1, m1, t1, A1, cap1, l1, q1⟩, rfl, rfl, ht⟩ := hq.yes u s3 n3 hp
      rw [T.val_mk]
      have HP := hide hp
      have HT := hide ht
      clear hq hp hF hK hK2 fr1 ht
      by_cases hs3 : s3 = ⟨#[]⟩
      · subst hs3
        go_wp2
        refine bodyPost_ret (v := (.tuple #[.agg #[.int .u8 k1, .int .i64 m1, .string t1, .slice A1 l1.length cap1, .int .i64 q1], .int .i64 0])) (by simp [results, Try.results48, go_sem, *]) rfl ?_
        refine ⟨?_, (fun h => absurd h hbig), (fun _ h => absurd HP.out (h _ _)), fun u n' _ h => ?_⟩
        · have f := HF2.out
          repeat (first | with_reducible exact f | with_reducible refine Fr.setNew ?_ (by first | (simp; done) | (simp; omega)) _ | with_reducible refine Fr.alloc ?_ _)
        · rw [HP.out] at h
          cases h
          refine ⟨T.mk k1 m1 t1 A1 cap1 l1 q1, rfl, rfl, ?_⟩
          refine (T.In.fr (S := fun i => i = w.heap.size) HT.out ?_ (by omega) (fun i h0 h1 h2 => by have h' : i = w.heap.size := h2; omega)).more (by omega) (by simp)
          repeat (first | with_reducible exact Fr.refl _ w2 | with_reducible refine Fr.set ?_ (by simp) _ | with_reducible refine Fr.alloc ?_ _)
      · have hs4 : s3.toList.isEmpty = false := notEmpty hs3
        go_wp2
        refine bodyPost_ret (v := (.tuple #[.agg #[.int .u8 0, .int .i64 0, .string ⟨#[]⟩, .slice none 0 0, .int .i64 0], .int .i64 20])) (by simp [results, Try.results48, go_sem, *]) rfl ?_
        refine ⟨?_, (fun h => absurd h hbig), fun _ _ => rfl, (fun _ _ _ h => by rw [HP.out] at h; cases h; exact absurd rfl hs3)⟩
        have f := HF2.out
        repeat (first | with_reducible exact f | with_reducible refine Fr.setNew ?_ (by first | (simp; done) | (simp; omega)) _ | with_reducible refine Fr.alloc ?_ _)

end Go.Proofs.Ytihjmipmjogpoaa

/- Chapter 2: Parts. -/
namespace Go.Proofs.Ytihjmipmjogpoaa
open Go.RowKit

theorem Parts_any (t : T) (w : World) (lo hi : Nat) (ht : t.In w lo hi) (hh : hi ≤ w.heap.size) :
    Calls Try.prog 56 #[t.val] w fun e w' => e = .returned (.int .i64 (t.v.meas : Int)) ∧ Fr No w w' := by
  have IH := fun w' h h' => measure_any t w' lo hi h h'
  cases t with
  | mk k n s A cap l r =>
    rw [T.val_mk] at *
    generalize (T.mk k n s A cap l r).v.meas = z at *
    go_enter Try.func56, Try.ntmps56
    go_wp2_with fail
    refine (IH _ (ht.no ((Fr.refl No w).alloc _) hh) (by simp; omega)).mono ?_
    rintro e w2 ⟨rfl, fr2⟩
    go_wp2
    go_ret
    exact ⟨rfl, ((Fr.refl No w).alloc _).trans fr2⟩

end Go.Proofs.Ytihjmipmjogpoaa

/- Chapter 2: Each: the function that it gives. -/
namespace Go.Proofs.Ytihjmipmjogpoaa
open Go.RowKit

/-- What Each gives. -/
structure EachP (v : V) (w : World) (e : Ending) (w' : World) : Prop where
  fr : Fr No w w'
  no : v.may = false → e = .returned (.func (.func 103) #[] #[])
  yes : v.may = true → ∃ (k n : Int) (s : ByteArray) (A : Option Addr) (cap : Nat) (l : List T) (r : Int), e = .returned (.func (.func 105) #[] #[.pointer (some ⟨w.heap.size, 0, none⟩)]) ∧
    (T.mk k n s A cap l r).v = v ∧ Blk w' w.heap.size 27 #[.int .u8 k, .int .i64 n, .string s, .slice A l.length cap, .int .i64 r] ∧ (T.mk k n s A cap l r).In w' (w.heap.size + 1) w'.heap.size

theorem Each_no (t : T) (w : World) (lo hi : Nat) (ht : t.In w lo hi) (hh : hi ≤ w.heap.size) (hm : t.v.may = false) : Calls Try.prog 41 #[t.val] w (EachP t.v w) := by
  have hM := fun w' h h' => may_any t w' lo hi h h'
  rw [hm] at hM
  cases t with
  | mk k n s A cap l r =>
    rw [T.val_mk] at *
    generalize (T.mk k n s A cap l r).v = u at *
    go_enter Try.func41, Try.ntmps41
    go_wp2_with fail
    refine (hM _ (ht.no ((Fr.refl No w).alloc _) hh) (by simp; omega)).mono ?_
    rintro e w2 ⟨rfl, fr2⟩
    have HM := hide hm
    clear hm hM
    go_wp2
    go_ret
    exact ⟨((Fr.refl No w).alloc _).trans fr2, fun _ => rfl, fun h => by rw [HM.out] at h; cases h⟩

end Go.Proofs.Ytihjmipmjogpoaa

/- Chapter 2: Each: of a value that may be. -/
namespace Go.Proofs.Ytihjmipmjogpoaa
open Go.RowKit

set_option maxHeartbeats 1000000 in
theorem Each_yes (t : T) (w : World) (lo hi : Nat) (ht : t.In w lo hi) (hh : hi ≤ w.heap.size) (hm : t.v.may = true) : Calls Try.prog 41 #[t.val] w (EachP t.v w) := by
  have hM := fun w' h h' => may_any t w' lo hi h h'
  have hO := own_any t
  rw [hm] at hM
  cases t with
  | mk k n s A cap l r =>
    rw [T.val_mk] at *
    have fr1 := (Fr.refl No w).alloc (.cells #[.int .u8 k, .int .i64 n, .string s, .slice A l.length cap, .int .i64 r] 27)
    have hK := Blk.new' w 27 #[.int .u8 k, .int .i64 n, .string s, .slice A l.length cap, .int .i64 r] rfl
    have ht1 := ht.no fr1 hh
    have hs1 := Nat.le_trans hh fr1.size
    have hsz : (w.alloc (.cells #[.int .u8 k, .int .i64 n, .string s, .slice A l.length cap, .int .i64 r] 27)).heap.size = w.heap.size + 1 := by simp
    generalize (T.mk k n s A cap l r).v = u at *
    go_enter Try.func41, Try.ntmps41
    go_wp2_with fail
    generalize World.alloc w _ = W0 at *
    refine (hM _ ht1 hs1).mono ?_
    rintro e w2 ⟨rfl, fr2⟩
    have hK2 := hK.fr fr2 fun h => h
    obtain ⟨c0, c1, c2, c3, c4, cf⟩ := hK2.cells5
    have q0 := hK2.lt
    have hO2 := hO w2 lo hi (ht1.no fr2 hs1) (Nat.le_trans hs1 fr2.size)
    have HO := hide hO2
    have HM := hide hm
    have HF := hide (fr1.trans fr2)
    have HK := hide hK2
    have hs2 := fr2.size
    clear hm hM hO hO2 fr1 fr2 hK hK2 ht ht1
    go_wp2_with fail
    refine HO.out.mono ?_
    rintro e w4 ⟨⟨k3, n3, s3, A3, cap3, l3, r3⟩, rfl, hv3, how, fr4⟩
    rw [T.val_mk]
    have hK4 := HK.out.fr fr4 fun h => h
    obtain ⟨d0, d1, d2, d3, d4, df⟩ := hK4.cells5
    have q4 := hK4.lt
    have HF4 := hide (HF.out.trans fr4)
    have HOW := hide how
    have HV := hide hv3
    have HK4 := hide hK4
    clear hK4 fr4 how hv3 c0 c1 c2 c3 c4 cf
    go_wp2
    go_ret
    refine ⟨?_, (fun h => by rw [HM.out] at h; cases h), fun _ => ⟨k3, n3, s3, A3, cap3, l3, r3, rfl, HV.out, ?_, ?_⟩⟩
    · have f := HF4.out
      repeat (first | with_reducible exact f | with_reducible refine Fr.setNew ?_ (Nat.le_refl _) _)
    · simpa using HK4.out.five 0 (.int .u8 k3) (.int .i64 n3) (.string s3) (.slice A3 l3.length cap3) (.int .i64 r3)
    · refine (T.In.fr (S := fun i => i = w.heap.size) HOW.out.inn ?_ (Nat.le_refl _) (fun i h0 h1 h2 => by have h' : i = w.heap.size := h2; omega)).more (by omega) (by simp)
      repeat (first | with_reducible exact Fr.refl _ w4 | with_reducible refine Fr.set ?_ (by simp) _)

end Go.Proofs.Ytihjmipmjogpoaa

/- Chapter 2: the closed value of awake. -/
namespace Go.Proofs.Ytihjmipmjogpoaa
open Go.RowKit

/-- The value that awake builds. -/
def awV : V := .mk 3 0 ⟨#[]⟩ [.mk 1 1 ⟨#[]⟩ [] 0, .mk 3 0 ⟨#[]⟩ [.mk 4 0 ⟨#[]⟩ [] 7] 0] 0
def awB : List Nat := [3, 0, 2, 1, 128, 0, 0, 0, 0, 0, 0, 1, 3, 0, 1, 4, 0, 0, 0, 7]
def awS : ByteArray := ⟨#[3, 0, 2, 1, 128, 0, 0, 0, 0, 0, 0, 1, 3, 0, 1, 4, 0, 0, 0, 7]⟩

theorem aw_enc : awV.enc = awB := by simp [awV, awB, V.enc_mk, hiB]
theorem aw_parse : parse 16 awS 512 = some (awV, ⟨#[]⟩, 508) := by
  rfl

end Go.Proofs.Ytihjmipmjogpoaa

/- Chapter 2: order, Order, Same. -/
namespace Go.Proofs.Ytihjmipmjogpoaa
open Go.RowKit

def cmpI (a b : Int) : Int := if a < b then -1 else if b < a then 1 else 0
def cmpS (a b : ByteArray) : Int := if Op.bytesLess a.toList b.toList = true then -1 else if a.toList == b.toList then 0 else 1

def ordL : List (V → Int) → List V → Int
  | [], [] => 0
  | [], _ :: _ => -1
  | _ :: _, [] => 1
  | f :: fs, v :: vs => if f v = 0 then ordL fs vs else f v

def ordOf (k n : Int) (s : ByteArray) (ps : List (V → Int)) (r : Int) : V → Int
  | .mk k' n' s' l' r' => if k = k' then (if k = 1 then cmpI n n' else if k = 2 then cmpS s s' else if k = 4 then cmpI r r' else ordL ps l') else cmpI k k'

/-- How two values that may be are ordered: -1, 0, 1. -/
def V.ord : V → V → Int
  | .mk k n s l r => ordOf k n s (l.map V.ord) r
termination_by v => v

theorem V.ord_mk (k n : Int) (s : ByteArray) (l : List V) (r : Int) : (V.mk k n s l r).ord = ordOf k n s (l.map V.ord) r := by rw [V.ord]

theorem cmpI_range (a b : Int) : cmpI a b = -1 ∨ cmpI a b = 0 ∨ cmpI a b = 1 := by
  unfold cmpI
  split
  · simp
  · split <;> simp
theorem cmpS_range (a b : ByteArray) : cmpS a b = -1 ∨ cmpS a b = 0 ∨ cmpS a b = 1 := by
  unfold cmpS
  split
  · simp
  · split <;> simp

theorem ordL_range : ∀ (fs : List (V → Int)) (vs : List V), (∀ f ∈ fs, ∀ v, f v = -1 ∨ f v = 0 ∨ f v = 1) → ordL fs vs = -1 ∨ ordL fs vs = 0 ∨ ordL fs vs = 1
  | [], [], _ => by simp [ordL]
  | [], _ :: _, _ => by simp [ordL]
  | _ :: _, [], _ => by simp [ordL]
  | f :: fs, v :: vs, h => by
    unfold ordL
    split
    · exact ordL_range fs vs fun f hf => h f (by simp [hf])
    · exact h f (by simp) v

theorem ord_range (u : V) : ∀ v : V, u.ord v = -1 ∨ u.ord v = 0 ∨ u.ord v = 1 := by
  induction u using V.ind with
  | h k n s l r ih =>
    intro v
    cases v with
    | mk k' n' s' l' r' =>
      rw [V.ord_mk, ordOf]
      split
      · split
        · exact cmpI_range _ _
        split
        · exact cmpS_range _ _
        split
        · exact cmpI_range _ _
        refine ordL_range _ _ fun f hf v => ?_
        obtain ⟨x, hx, rfl⟩ := List.mem_map.1 hf
        exact ih x hx v
      · exact cmpI_range _ _

theorem ordL_skip : ∀ (j : Nat) (fs : List (V → Int)) (vs : List V), j ≤ fs.length → j ≤ vs.length → (∀ (i : Nat) (f : V → Int) (v : V), i < j → fs[i]? = some f → vs[i]? = some v → f v = 0) → ordL fs vs = ordL (fs.drop j) (vs.drop j)
  | 0, _, _, _, _, _ => by simp
  | j + 1, [], _, h, _, _ => by simp at h
  | j + 1, _ :: _, [], _, h, _ => by simp at h
  | j + 1, f :: fs, v :: vs, h, h', hz => by
    have h0 := hz 0 f v (by omega) rfl rfl
    rw [List.drop_succ_cons, List.drop_succ_cons]
    conv => lhs; unfold ordL
    rw [if_pos h0]
    exact ordL_skip j fs vs (by simpa using h) (by simpa using h') fun i f v hi h1 h2 => hz (i + 1) f v (by omega) (by simpa using h1) (by simpa using h2)

theorem nanK (a : Int) (w : World) : Calls Try.prog 154 #[.int .u8 a] w fun e w' => e = .returned (.bool false) ∧ w' = w := by
  go_enter Try.func154, Try.ntmps154
  go_wp2
  go_ret
  exact ⟨by simp, rfl⟩

theorem cmpK_any (a b : Int) (w : World) : Calls Try.prog 145 #[.int .u8 a, .int .u8 b] w fun e w' => e = .returned (.int .i64 (cmpI a b)) ∧ w' = w := by
  have hN := nanK
  rcases Int.lt_trichotomy a b with h | h | h
  · have e1 : cmpI a b = -1 := by simp [cmpI, h]
    rw [e1]
    clear e1
    go_enter Try.func145, Try.ntmps145
    go_wp2_with fail
    refine (hN _ _).mono ?_
    rintro e w' ⟨rfl, rfl⟩
    go_wp2_with fail
    refine (hN _ _).mono ?_
    rintro e w' ⟨rfl, rfl⟩
    go_wp2
    go_ret
    exact ⟨rfl, rfl⟩
  · subst h
    have e1 : cmpI a a = 0 := by simp [cmpI]
    rw [e1]
    clear e1
    go_enter Try.func145, Try.ntmps145
    go_wp2_with fail
    refine (hN _ _).mono ?_
    rintro e w' ⟨rfl, rfl⟩
    go_wp2_with fail
    refine (hN _ _).mono ?_
    rintro e w' ⟨rfl, rfl⟩
    go_wp2
    go_ret
    exact ⟨rfl, rfl⟩
  · have h' : ¬ a < b := by omega
    have e1 : cmpI a b = 1 := by simp [cmpI, h, h']
    rw [e1]
    clear e1
    go_enter Try.func145, Try.ntmps145
    go_wp2_with fail
    refine (hN _ _).mono ?_
    rintro e w' ⟨rfl, rfl⟩
    go_wp2_with fail
    refine (hN _ _).mono ?_
    rintro e w' ⟨rfl, rfl⟩
    go_wp2
    go_ret
    exact ⟨rfl, rfl⟩

theorem nanN (a : Int) (w : World) : Calls Try.prog 155 #[.int .i64 a] w fun e w' => e = .returned (.bool false) ∧ w' = w := by
  go_enter Try.func155, Try.ntmps155
  go_wp2
  go_ret
  exact ⟨by simp, rfl⟩

theorem cmpN_any (a b : Int) (w : World) : Calls Try.prog 146 #[.int .i64 a, .int .i64 b] w fun e w' => e = .returned (.int .i64 (cmpI a b)) ∧ w' = w := by
  have hN := nanN
  rcases Int.lt_trichotomy a b with h | h | h
  · have e1 : cmpI a b = -1 := by simp [cmpI, h]
    rw [e1]
    clear e1
    go_enter Try.func146, Try.ntmps146
    go_wp2_with fail
    refine (hN _ _).mono ?_
    rintro e w' ⟨rfl, rfl⟩
    go_wp2_with fail
    refine (hN _ _).mono ?_
    rintro e w' ⟨rfl, rfl⟩
    go_wp2
    go_ret
    exact ⟨rfl, rfl⟩
  · subst h
    have e1 : cmpI a a = 0 := by simp [cmpI]
    rw [e1]
    clear e1
    go_enter Try.func146, Try.ntmps146
    go_wp2_with fail
    refine (hN _ _).mono ?_
    rintro e w' ⟨rfl, rfl⟩
    go_wp2_with fail
    refine (hN _ _).mono ?_
    rintro e w' ⟨rfl, rfl⟩
    go_wp2
    go_ret
    exact ⟨rfl, rfl⟩
  · have h' : ¬ a < b := by omega
    have e1 : cmpI a b = 1 := by simp [cmpI, h, h']
    rw [e1]
    clear e1
    go_enter Try.func146, Try.ntmps146
    go_wp2_with fail
    refine (hN _ _).mono ?_
    rintro e w' ⟨rfl, rfl⟩
    go_wp2_with fail
    refine (hN _ _).mono ?_
    rintro e w' ⟨rfl, rfl⟩
    go_wp2
    go_ret
    exact ⟨rfl, rfl⟩

theorem nanR (a : Int) (w : World) : Calls Try.prog 157 #[.int .i64 a] w fun e w' => e = .returned (.bool false) ∧ w' = w := by
  go_enter Try.func157, Try.ntmps157
  go_wp2
  go_ret
  exact ⟨by simp, rfl⟩

theorem cmpR_any (a b : Int) (w : World) : Calls Try.prog 148 #[.int .i64 a, .int .i64 b] w fun e w' => e = .returned (.int .i64 (cmpI a b)) ∧ w' = w := by
  have hN := nanR
  rcases Int.lt_trichotomy a b with h | h | h
  · have e1 : cmpI a b = -1 := by simp [cmpI, h]
    rw [e1]
    clear e1
    go_enter Try.func148, Try.ntmps148
    go_wp2_with fail
    refine (hN _ _).mono ?_
    rintro e w' ⟨rfl, rfl⟩
    go_wp2_with fail
    refine (hN _ _).mono ?_
    rintro e w' ⟨rfl, rfl⟩
    go_wp2
    go_ret
    exact ⟨rfl, rfl⟩
  · subst h
    have e1 : cmpI a a = 0 := by simp [cmpI]
    rw [e1]
    clear e1
    go_enter Try.func148, Try.ntmps148
    go_wp2_with fail
    refine (hN _ _).mono ?_
    rintro e w' ⟨rfl, rfl⟩
    go_wp2_with fail
    refine (hN _ _).mono ?_
    rintro e w' ⟨rfl, rfl⟩
    go_wp2
    go_ret
    exact ⟨rfl, rfl⟩
  · have h' : ¬ a < b := by omega
    have e1 : cmpI a b = 1 := by simp [cmpI, h, h']
    rw [e1]
    clear e1
    go_enter Try.func148, Try.ntmps148
    go_wp2_with fail
    refine (hN _ _).mono ?_
    rintro e w' ⟨rfl, rfl⟩
    go_wp2_with fail
    refine (hN _ _).mono ?_
    rintro e w' ⟨rfl, rfl⟩
    go_wp2
    go_ret
    exact ⟨rfl, rfl⟩

theorem nanS (a : ByteArray) (w : World) : Calls Try.prog 156 #[.string a] w fun e w' => e = .returned (.bool false) ∧ w' = w := by
  go_enter Try.func156, Try.ntmps156
  go_wp2
  go_ret
  exact ⟨by simp, rfl⟩

theorem cmpS_any (a b : ByteArray) (w : World) : Calls Try.prog 147 #[.string a, .string b] w fun e w' => e = .returned (.int .i64 (cmpS a b)) ∧ w' = w := by
  have hN := nanS
  cases h : Op.bytesLess a.toList b.toList with
  | true =>
    have e1 : cmpS a b = -1 := by simp [cmpS, h]
    rw [e1]
    clear e1
    go_enter Try.func147, Try.ntmps147
    go_wp2_with fail
    refine (hN _ _).mono ?_
    rintro e w' ⟨rfl, rfl⟩
    go_wp2_with fail
    refine (hN _ _).mono ?_
    rintro e w' ⟨rfl, rfl⟩
    go_wp2
    go_ret
    exact ⟨rfl, rfl⟩
  | false =>
    cases h' : a.toList == b.toList with
    | true =>
      have e1 : cmpS a b = 0 := by simp [cmpS, h, h']
      rw [e1]
      clear e1
      go_enter Try.func147, Try.ntmps147
      go_wp2_with fail
      refine (hN _ _).mono ?_
      rintro e w' ⟨rfl, rfl⟩
      go_wp2_with fail
      refine (hN _ _).mono ?_
      rintro e w' ⟨rfl, rfl⟩
      go_wp2
      go_ret
      exact ⟨rfl, rfl⟩
    | false =>
      have e1 : cmpS a b = 1 := by simp [cmpS, h, h']
      rw [e1]
      clear e1
      go_enter Try.func147, Try.ntmps147
      go_wp2_with fail
      refine (hN _ _).mono ?_
      rintro e w' ⟨rfl, rfl⟩
      go_wp2_with fail
      refine (hN _ _).mono ?_
      rintro e w' ⟨rfl, rfl⟩
      go_wp2
      go_ret
      exact ⟨rfl, rfl⟩

theorem ordL_done {fs : List (V → Int)} {vs : List V} (h : fs.length ≤ vs.length) (hz : ∀ (i : Nat) (f : V → Int) (v : V), i < fs.length → fs[i]? = some f → vs[i]? = some v → f v = 0) : ordL fs vs = if fs.length < vs.length then -1 else 0 := by
  rw [ordL_skip fs.length fs vs (Nat.le_refl _) h hz, List.drop_length]
  by_cases hl : fs.length < vs.length
  · rw [if_pos hl, List.drop_eq_getElem_cons hl]; rfl
  · rw [if_neg hl, List.drop_of_length_le (by omega)]; rfl

theorem ordL_more {fs : List (V → Int)} {vs : List V} (h : vs.length < fs.length) (hz : ∀ (i : Nat) (f : V → Int) (v : V), i < vs.length → fs[i]? = some f → vs[i]? = some v → f v = 0) : ordL fs vs = 1 := by
  rw [ordL_skip vs.length fs vs (by omega) (Nat.le_refl _) hz, List.drop_length, List.drop_eq_getElem_cons h]; rfl

theorem ordL_at {fs : List (V → Int)} {vs : List V} {j : Nat} {f : V → Int} {v : V} (hz : ∀ (i : Nat) (f : V → Int) (v : V), i < j → fs[i]? = some f → vs[i]? = some v → f v = 0) (h1 : fs[j]? = some f) (h2 : vs[j]? = some v) (hne : f v ≠ 0) : ordL fs vs = f v := by
  obtain ⟨l1, e1⟩ := List.getElem?_eq_some_iff.1 h1
  obtain ⟨l2, e2⟩ := List.getElem?_eq_some_iff.1 h2
  rw [ordL_skip j fs vs (by omega) (by omega) hz, List.drop_eq_getElem_cons l1, List.drop_eq_getElem_cons l2, e1, e2]
  unfold ordL
  rw [if_neg hne]

end Go.Proofs.Ytihjmipmjogpoaa

/- Chapter 2: order of two values; Order, Same. -/
namespace Go.Proofs.Ytihjmipmjogpoaa
open Go.RowKit

/-- The first m parts are equal. -/
def EqTo (fs : List (V → Int)) (vs : List V) (m : Nat) : Prop := ∀ (i : Nat) (f : V → Int) (v : V), i < m → fs[i]? = some f → vs[i]? = some v → f v = 0

theorem EqTo.zero (fs : List (V → Int)) (vs : List V) : EqTo fs vs 0 := fun i f v h => by omega

theorem EqTo.succ {fs : List (V → Int)} {vs : List V} {m : Nat} (h : EqTo fs vs m) {f : V → Int} {v : V} (h1 : fs[m]? = some f) (h2 : vs[m]? = some v) (h0 : f v = 0) : EqTo fs vs (m + 1) := by
  intro i g u hi g1 g2
  rcases Nat.lt_or_ge i m with hlt | hge
  · exact h i g u hlt g1 g2
  · obtain rfl : i = m := by omega
    rw [h1] at g1
    rw [h2] at g2
    injection g1 with g1
    injection g2 with g2
    subst g1 g2
    exact h0

set_option maxRecDepth 100000 in
set_option maxHeartbeats 4000000 in
/-- slices.CompareFunc by order. -/
theorem cf_any (A : Option Addr) (cap : Nat) (l : List T) (A' : Option Addr) (cap' : Nat) (l' : List T) (w : World) (lo hi lo' hi' : Nat) (h : (T.row A cap l).In w lo hi) (hh : hi ≤ w.heap.size) (h' : (T.row A' cap' l').In w lo' hi') (hh' : hi' ≤ w.heap.size)
    (hI : ∀ x ∈ l, ∀ (x' : T) (w : World) (lo hi lo' hi' : Nat), x.In w lo hi → hi ≤ w.heap.size → x'.In w lo' hi' → hi' ≤ w.heap.size → Calls Try.prog 118 #[x.val, x'.val] w fun e w' => e = .returned (.int .i64 (x.v.ord x'.v)) ∧ Fr No w w') :
    Calls Try.prog 149 #[.slice A l.length cap, .slice A' l'.length cap', .func (.func 118) #[] #[]] w fun e w' => e = .returned (.int .i64 (ordL (l.map fun x => x.v.ord) (l'.map T.v))) ∧ Fr No w w' := by
  unfold T.row at h h'
  have hl := (T.in_mk.1 h).1.len1
  have hl' := (T.in_mk.1 h').1.len1
  have HI := hide hI
  clear hI
  go_enter Try.func149, Try.ntmps149
  go_wp2_with fail
  go_loopw [13] (fun i wr => ∃ j : Nat, j ≤ l.length ∧ j ≤ l'.length ∧ i = .int .i64 j ∧ Fr No w wr ∧ EqTo (l.map fun x => x.v.ord) (l'.map T.v) j) (fun i _ => l.length - (intOf i).toNat)
  case atStart => exact ⟨0, Nat.zero_le _, Nat.zero_le _, rfl, Fr.refl _ _, EqTo.zero _ _⟩
  case round =>
    obtain ⟨j, hj, hj', rfl, fr, heq⟩ := hrel
    have HE := hide heq
    clear heq
    by_cases hlt : j < l.length
    · obtain ⟨b, o, k1, n1, s1, A1, cap1, l1, r1, rfl, hb0, hb1, hx, hin, e0, e1, e2, e3, e4⟩ := T.elem (h.no fr hh) hlt
      have g0 : b < wr.heap.size := by have := fr.size; omega
      by_cases hlt' : j < l'.length
      · obtain ⟨b', o', k2, n2, s2, A2, cap2, l2, r2, rfl, hb0', hb1', hx', hin', f0, f1, f2, f3, f4⟩ := T.elem (h'.no fr hh') hlt'
        have g1 : b' < wr.heap.size := by have := fr.size; omega
        have IH := HI.out l[j] (List.getElem_mem hlt) l'[j]
        have hg1 : (l.map fun x => x.v.ord)[j]? = some (T.mk k1 n1 s1 A1 cap1 l1 r1).v.ord := by rw [List.getElem?_map, List.getElem?_eq_getElem hlt, hx]; rfl
        have hg2 : (l'.map T.v)[j]? = some (T.mk k2 n2 s2 A2 cap2 l2 r2).v := by rw [List.getElem?_map, List.getElem?_eq_getElem hlt', hx']; rfl
        rw [hx, hx', T.val_mk, T.val_mk] at IH
        have hc := ord_range (T.mk k1 n1 s1 A1 cap1 l1 r1).v (T.mk k2 n2 s2 A2 cap2 l2 r2).v
        generalize hcc : (T.mk k1 n1 s1 A1 cap1 l1 r1).v.ord (T.mk k2 n2 s2 A2 cap2 l2 r2).v = c at *
        have hge : ¬ l'.length ≤ j := by omega
        have fr2 := (((Fr.refl No wr).alloc (.cells #[.int .u8 k1, .int .i64 n1, .string s1, .slice A1 l1.length cap1, .int .i64 r1] 27)).alloc (.cells #[.int .u8 k2, .int .i64 n2, .string s2, .slice A2 l2.length cap2, .int .i64 r2] 27))
        have hsz := fr.size
        have HI1 := hide (hin.no fr2 (by omega))
        have HI2 := hide (hin'.no fr2 (by omega))
        have HH1 := hide (Nat.le_trans hh (Nat.le_trans hsz fr2.size))
        have HH2 := hide (Nat.le_trans hh' (Nat.le_trans hsz fr2.size))
        have HF := hide (fr.trans fr2)
        have HC := hide hcc
        have HG1 := hide hg1
        have HG2 := hide hg2
        clear hx hx' hin hin' fr fr2 hcc hg1 hg2
        go_wp2_with fail
        refine (IH _ lo hi lo' hi' HI1.out HH1.out HI2.out HH2.out).mono ?_
        rintro e w2 ⟨rfl, fr3⟩
        have HF3 := hide (HF.out.trans fr3)
        clear fr3
        have HZ : Hid (c ≠ 0 → ordL (l.map fun x => x.v.ord) (l'.map T.v) = c) := fun hne => by
          have hc' := HC.out
          exact (ordL_at HE.out HG1.out HG2.out (by rw [hc']; exact hne)).trans hc'
        rcases hc with rfl | rfl | rfl
        · go_wp2
          go_ret
          exact ⟨by rw [HZ.out (by decide)]; rfl, HF3.out⟩
        · go_wp2
          go_roundw
          case rel => exact ⟨j + 1, hlt, hlt', by go_num, HF3.out, HE.out.succ HG1.out HG2.out HC.out⟩
          case measure => simp [intOf]; omega
        · go_wp2
          go_ret
          exact ⟨by rw [HZ.out (by decide)]; rfl, HF3.out⟩
      · obtain rfl : j = l'.length := by omega
        have hz : ordL (l.map fun x => x.v.ord) (l'.map T.v) = 1 := ordL_more (by simpa using hlt) (fun i f v hi => HE.out i f v (by simpa using hi))
        have HZ := hide hz
        have HF := hide fr
        clear hz fr hin hx
        go_wp2
        go_ret
        exact ⟨by rw [HZ.out]; rfl, HF.out.alloc _⟩
    · obtain rfl : j = l.length := by omega
      have hz : ordL (l.map fun x => x.v.ord) (l'.map T.v) = if l.length < l'.length then -1 else 0 := by
        have := ordL_done (fs := l.map fun x => x.v.ord) (vs := l'.map T.v) (by simpa using hj') (fun i f v hi => HE.out i f v (by simpa using hi))
        simpa using this
      have HZ := hide hz
      clear hz
      by_cases hlt2 : l.length < l'.length
      · go_wp2
        go_ret
        exact ⟨by rw [HZ.out, if_pos hlt2]; rfl, fr⟩
      · go_wp2
        go_ret
        exact ⟨by rw [HZ.out, if_neg hlt2]; rfl, fr⟩

set_option maxRecDepth 100000 in
set_option maxHeartbeats 4000000 in
/-- value.order. -/
theorem order_any (t : T) : ∀ (t' : T) (w : World) (lo hi lo' hi' : Nat), t.In w lo hi → hi ≤ w.heap.size → t'.In w lo' hi' → hi' ≤ w.heap.size → Calls Try.prog 118 #[t.val, t'.val] w fun e w' => e = .returned (.int .i64 (t.v.ord t'.v)) ∧ Fr No w w' := by
  induction t using T.ind with
  | h k n s A cap l r ih =>
    intro t' w lo hi lo' hi' ht hh ht' hh'
    cases t' with
    | mk k' n' s' A' cap' l' r' =>
      rw [T.val_mk, T.val_mk]
      have fr2 := ((Fr.refl No w).alloc (.cells #[.int .u8 k, .int .i64 n, .string s, .slice A l.length cap, .int .i64 r] 27)).alloc (.cells #[.int .u8 k', .int .i64 n', .string s', .slice A' l'.length cap', .int .i64 r'] 27)
      have hord : (T.mk k n s A cap l r).v.ord (T.mk k' n' s' A' cap' l' r').v = if k = k' then (if k = 1 then cmpI n n' else if k = 2 then cmpS s s' else if k = 4 then cmpI r r' else ordL (l.map fun x => x.v.ord) (l'.map T.v)) else cmpI k k' := by
        rw [T.v_mk, T.v_mk, V.ord_mk, ordOf, List.map_map]; rfl
      rw [hord]
      have fit := (T.in_mk.1 ht).1
      have fit' := (T.in_mk.1 ht').1
      have k0 := fit.k0
      have k1 := fit.k1
      have k0' := fit'.k0
      have k1' := fit'.k1
      by_cases hk : k = k'
      case neg =>
        have hk' : (k != k') = true := by simpa using hk
        have hC := cmpK_any k k'
        rw [if_neg hk]
        have HK := hide hk
        clear hk ih hord
        go_enter Try.func118, Try.ntmps118
        go_wp2_with fail
        refine (hC _).mono ?_
        rintro e w' ⟨rfl, rfl⟩
        go_wp2
        go_ret
        exact ⟨rfl, fr2⟩
      subst hk
      rw [if_pos rfl]
      by_cases h1 : k = 1
      · subst h1
        have hC := cmpN_any n n'
        rw [if_pos rfl]
        clear ih hord
        go_enter Try.func118, Try.ntmps118
        go_wp2_with fail
        refine (hC _).mono ?_
        rintro e w' ⟨rfl, rfl⟩
        go_wp2
        go_ret
        exact ⟨rfl, fr2⟩
      rw [if_neg h1]
      by_cases h2 : k = 2
      · subst h2
        have hC := cmpS_any s s'
        rw [if_pos rfl]
        clear ih hord
        go_enter Try.func118, Try.ntmps118
        go_wp2_with fail
        refine (hC _).mono ?_
        rintro e w' ⟨rfl, rfl⟩
        go_wp2
        go_ret
        exact ⟨rfl, fr2⟩
      rw [if_neg h2]
      by_cases h4 : k = 4
      · subst h4
        have hC := cmpR_any r r'
        rw [if_pos rfl]
        clear ih hord
        go_enter Try.func118, Try.ntmps118
        go_wp2_with fail
        refine (hC _).mono ?_
        rintro e w' ⟨rfl, rfl⟩
        go_wp2
        go_ret
        exact ⟨rfl, fr2⟩
      rw [if_neg h4]
      have h1' : (k == 1) = false := by simpa using h1
      have h2' : (k == 2) = false := by simpa using h2
      have h4' : (k == 4) = false := by simpa using h4
      have hin : (T.row A cap l).In w lo hi := T.in_mk.2 ⟨⟨by omega, by omega, by omega, by omega, by simp [ByteArray.size], fit.len1, fit.cap1, by omega, by omega⟩, (T.in_mk.1 ht).2⟩
      have hin' : (T.row A' cap' l').In w lo' hi' := T.in_mk.2 ⟨⟨by omega, by omega, by omega, by omega, by simp [ByteArray.size], fit'.len1, fit'.cap1, by omega, by omega⟩, (T.in_mk.1 ht').2⟩
      have hC := fun w1 (f : Fr No w w1) => cf_any A cap l A' cap' l' w1 lo hi lo' hi' (hin.no f hh) (Nat.le_trans hh f.size) (hin'.no f hh') (Nat.le_trans hh' f.size) ih
      have HC := hide hC
      have HF := hide fr2
      clear hC hin hin' ih hord h1 h2 h4 fr2
      go_enter Try.func118, Try.ntmps118
      go_wp2_with fail
      refine (HC.out _ HF.out).mono ?_
      rintro e w' ⟨rfl, fr3⟩
      go_wp2
      go_ret
      exact ⟨rfl, HF.out.trans fr3⟩

end Go.Proofs.Ytihjmipmjogpoaa

/- Chapter 2: Order, Same. -/
namespace Go.Proofs.Ytihjmipmjogpoaa
open Go.RowKit

def V.same2 (u v : V) : Bool := u.may && v.may && decide (u.ord v = 0)

set_option maxRecDepth 100000 in
set_option maxHeartbeats 4000000 in
/-- value.Same. -/
theorem vsame_any (a b : T) (w : World) (lo hi : Nat) (ha : a.In w lo hi) (hb : b.In w lo hi) (hh : hi ≤ w.heap.size) : Calls Try.prog 54 #[a.val, b.val] w fun e w' => e = .returned (.bool (a.v.same2 b.v)) ∧ Fr No w w' := by
  have hMa := fun w' h h' => may_any a w' lo hi h h'
  have hMb := fun w' h h' => may_any b w' lo hi h h'
  have hO := fun w' h h' h'' => order_any a b w' lo hi lo hi h h'' h' h''
  have hr := ord_range a.v b.v
  cases a with
  | mk k n s A cap l r =>
  cases b with
  | mk k' n' s' A' cap' l' r' =>
    rw [T.val_mk] at *
    rw [T.val_mk] at *
    generalize hu : (T.mk k n s A cap l r).v = u at *
    generalize hv : (T.mk k' n' s' A' cap' l' r').v = v at *
    have fr1 := ((Fr.refl No w).alloc (.cells #[.int .u8 k, .int .i64 n, .string s, .slice A l.length cap, .int .i64 r] 27)).alloc (.cells #[.int .u8 k', .int .i64 n', .string s', .slice A' l'.length cap', .int .i64 r'] 27)
    have hK := (Blk.new' w 27 #[.int .u8 k, .int .i64 n, .string s, .slice A l.length cap, .int .i64 r] rfl).alloc (.cells #[.int .u8 k', .int .i64 n', .string s', .slice A' l'.length cap', .int .i64 r'] 27)
    have hV := Blk.new' (w.alloc (.cells #[.int .u8 k, .int .i64 n, .string s, .slice A l.length cap, .int .i64 r] 27)) 27 #[.int .u8 k', .int .i64 n', .string s', .slice A' l'.length cap', .int .i64 r'] (g := w.heap.size + 1) (by simp)
    have ha1 := ha.no fr1 hh
    have hb1 := hb.no fr1 hh
    have hs1 := Nat.le_trans hh fr1.size
    have HU := hide hu
    have HV := hide hv
    clear hu hv ha hb
    cases hma : u.may with
    | false =>
      have e1 : u.same2 v = false := by simp [V.same2, hma]
      rw [hma] at hMa
      rw [e1]
      clear hma e1
      go_enter Try.func54, Try.ntmps54
      go_wp2_with fail
      refine (hMa _ ha1 hs1).mono ?_
      rintro e w2 ⟨rfl, fr2⟩
      go_wp2
      go_ret
      exact ⟨rfl, fr1.trans fr2⟩
    | true =>
      rw [hma] at hMa
      cases hmb : v.may with
      | false =>
        have e1 : u.same2 v = false := by simp [V.same2, hmb]
        rw [hmb] at hMb
        rw [e1]
        clear hma hmb e1
        go_enter Try.func54, Try.ntmps54
        go_wp2_with fail
        generalize World.alloc _ _ = W0 at *
        refine (hMa _ ha1 hs1).mono ?_
        rintro e w2 ⟨rfl, fr2⟩
        obtain ⟨v0, v1, v2, v3, v4, -⟩ := (hV.fr fr2 fun h => h).cells5
        have hb2 := hb1.no fr2 hs1
        have hs2 := Nat.le_trans hs1 fr2.size
        have HF := hide (fr1.trans fr2)
        clear fr1 fr2 hK hV
        go_wp2_with fail
        refine (hMb _ hb2 hs2).mono ?_
        rintro e w3 ⟨rfl, fr3⟩
        go_wp2
        go_ret
        exact ⟨rfl, HF.out.trans fr3⟩
      | true =>
        have e1 : u.same2 v = decide (u.ord v = 0) := by simp [V.same2, hma, hmb]
        rw [hmb] at hMb
        rw [e1]
        generalize u.ord v = c at *
        clear hma hmb e1
        go_enter Try.func54, Try.ntmps54
        go_wp2_with fail
        generalize World.alloc _ _ = W0 at *
        refine (hMa _ ha1 hs1).mono ?_
        rintro e w2 ⟨rfl, fr2⟩
        have hK2 := hK.fr fr2 fun h => h
        have hV2 := hV.fr fr2 fun h => h
        obtain ⟨v0, v1, v2, v3, v4, -⟩ := hV2.cells5
        have ha2 := ha1.no fr2 hs1
        have hb2 := hb1.no fr2 hs1
        have hs2 := Nat.le_trans hs1 fr2.size
        have HF := hide (fr1.trans fr2)
        clear fr1 fr2 hK hV
        go_wp2_with fail
        refine (hMb _ hb2 hs2).mono ?_
        rintro e w3 ⟨rfl, fr3⟩
        clear v0 v1 v2 v3 v4
        obtain ⟨v0, v1, v2, v3, v4, -⟩ := (hV2.fr fr3 fun h => h).cells5
        obtain ⟨c0, c1, c2, c3, c4, -⟩ := (hK2.fr fr3 fun h => h).cells5
        have ha3 := ha2.no fr3 hs2
        have hb3 := hb2.no fr3 hs2
        have hs3 := Nat.le_trans hs2 fr3.size
        have HF3 := hide (HF.out.trans fr3)
        clear fr3 hK2 hV2
        go_wp2_with fail
        refine (hO _ ha3 hb3 hs3).mono ?_
        rintro e w4 ⟨rfl, fr4⟩
        have HF4 := hide (HF3.out.trans fr4)
        clear fr4
        rcases hr with rfl | rfl | rfl
        all_goals
          go_wp2
          go_ret
          exact ⟨rfl, HF4.out⟩

set_option maxRecDepth 100000 in
set_option maxHeartbeats 4000000 in
/-- value.Order. -/
theorem vorder_any (a b : T) (w : World) (lo hi : Nat) (ha : a.In w lo hi) (hb : b.In w lo hi) (hh : hi ≤ w.heap.size) :
    Calls Try.prog 55 #[a.val, b.val] w fun e w' => e = .returned (.tuple #[.int .i64 (if (a.v.may && b.v.may) = true then a.v.ord b.v else 0), .int .i64 (if (a.v.may && b.v.may) = true then 0 else 2)]) ∧ Fr No w w' := by
  have hMa := fun w' h h' => may_any a w' lo hi h h'
  have hMb := fun w' h h' => may_any b w' lo hi h h'
  have hO := fun w' h h' h'' => order_any a b w' lo hi lo hi h h'' h' h''
  cases a with
  | mk k n s A cap l r =>
  cases b with
  | mk k' n' s' A' cap' l' r' =>
    rw [T.val_mk] at *
    rw [T.val_mk] at *
    generalize hu : (T.mk k n s A cap l r).v = u at *
    generalize hv : (T.mk k' n' s' A' cap' l' r').v = v at *
    have fr1 := ((Fr.refl No w).alloc (.cells #[.int .u8 k, .int .i64 n, .string s, .slice A l.length cap, .int .i64 r] 27)).alloc (.cells #[.int .u8 k', .int .i64 n', .string s', .slice A' l'.length cap', .int .i64 r'] 27)
    have hK := (Blk.new' w 27 #[.int .u8 k, .int .i64 n, .string s, .slice A l.length cap, .int .i64 r] rfl).alloc (.cells #[.int .u8 k', .int .i64 n', .string s', .slice A' l'.length cap', .int .i64 r'] 27)
    have hV := Blk.new' (w.alloc (.cells #[.int .u8 k, .int .i64 n, .string s, .slice A l.length cap, .int .i64 r] 27)) 27 #[.int .u8 k', .int .i64 n', .string s', .slice A' l'.length cap', .int .i64 r'] (g := w.heap.size + 1) (by simp)
    have ha1 := ha.no fr1 hh
    have hb1 := hb.no fr1 hh
    have hs1 := Nat.le_trans hh fr1.size
    have HU := hide hu
    have HV := hide hv
    clear hu hv ha hb
    cases hma : u.may with
    | false =>
      rw [hma] at hMa
      simp only [Bool.false_and, Bool.false_eq_true, if_false]
      clear hma
      go_enter Try.func55, Try.ntmps55
      go_wp2_with fail
      refine (hMa _ ha1 hs1).mono ?_
      rintro e w2 ⟨rfl, fr2⟩
      go_wp2
      go_ret2
      exact ⟨rfl, fr1.trans fr2⟩
    | true =>
      rw [hma] at hMa
      cases hmb : v.may with
      | false =>
        rw [hmb] at hMb
        simp only [Bool.and_false, Bool.false_eq_true, if_false]
        clear hma hmb
        go_enter Try.func55, Try.ntmps55
        go_wp2_with fail
        generalize World.alloc _ _ = W0 at *
        refine (hMa _ ha1 hs1).mono ?_
        rintro e w2 ⟨rfl, fr2⟩
        obtain ⟨v0, v1, v2, v3, v4, -⟩ := (hV.fr fr2 fun h => h).cells5
        have hb2 := hb1.no fr2 hs1
        have hs2 := Nat.le_trans hs1 fr2.size
        have HF := hide (fr1.trans fr2)
        clear fr1 fr2 hK hV
        go_wp2_with fail
        refine (hMb _ hb2 hs2).mono ?_
        rintro e w3 ⟨rfl, fr3⟩
        go_wp2
        go_ret2
        exact ⟨rfl, HF.out.trans fr3⟩
      | true =>
        rw [hmb] at hMb
        simp only [Bool.and_true, if_true]
        generalize u.ord v = c at *
        clear hma hmb
        go_enter Try.func55, Try.ntmps55
        go_wp2_with fail
        generalize World.alloc _ _ = W0 at *
        refine (hMa _ ha1 hs1).mono ?_
        rintro e w2 ⟨rfl, fr2⟩
        have hK2 := hK.fr fr2 fun h => h
        have hV2 := hV.fr fr2 fun h => h
        obtain ⟨v0, v1, v2, v3, v4, -⟩ := hV2.cells5
        have ha2 := ha1.no fr2 hs1
        have hb2 := hb1.no fr2 hs1
        have hs2 := Nat.le_trans hs1 fr2.size
        have HF := hide (fr1.trans fr2)
        clear fr1 fr2 hK hV
        go_wp2_with fail
        refine (hMb _ hb2 hs2).mono ?_
        rintro e w3 ⟨rfl, fr3⟩
        clear v0 v1 v2 v3 v4
        obtain ⟨v0, v1, v2, v3, v4, -⟩ := (hV2.fr fr3 fun h => h).cells5
        obtain ⟨c0, c1, c2, c3, c4, -⟩ := (hK2.fr fr3 fun h => h).cells5
        have ha3 := ha2.no fr3 hs2
        have hb3 := hb2.no fr3 hs2
        have hs3 := Nat.le_trans hs2 fr3.size
        have HF3 := hide (HF.out.trans fr3)
        clear fr3 hK2 hV2
        go_wp2_with fail
        refine (hO _ ha3 hb3 hs3).mono ?_
        rintro e w4 ⟨rfl, fr4⟩
        go_wp2
        go_ret2
        exact ⟨rfl, HF3.out.trans fr4⟩

end Go.Proofs.Ytihjmipmjogpoaa

/- Chapter 2: At. -/
namespace Go.Proofs.Ytihjmipmjogpoaa
open Go.RowKit

/-- What At answers: the part, the error. -/
def atOf (v : V) (p : List Int) : V × Int := if v.may = true then (match vAt p v with | some x => (x, 0) | none => (V.zero, 22)) else (V.zero, 2)

set_option maxRecDepth 100000 in
set_option maxHeartbeats 4000000 in
theorem At_any (t : T) (w : World) (lo hi : Nat) (ht : t.In w lo hi) (hh : hi ≤ w.heap.size) (A : Option Addr) (cap : Nat) (p : List Int) (lo' hi' : Nat) (hp : Ints w lo' hi' A cap p) (hh' : hi' ≤ w.heap.size) :
    Calls Try.prog 68 #[t.val, .slice A p.length cap] w (OwnE (atOf t.v p).1 (atOf t.v p).2 w) := by
  have hM := fun w' h h' => may_any t w' lo hi h h'
  have hF := fun w' h h' h1 h2 => find2_any t w' lo hi h h' A cap p lo' hi' h1 h2
  have hO := own_any
  cases t with
  | mk k n s A1 cap1 l r =>
    rw [T.val_mk] at *
    generalize hu : (T.mk k n s A1 cap1 l r).v = u at *
    have fr1 : Fr No w ((w.alloc (.cells #[.int .u8 k, .int .i64 n, .string s, .slice A1 l.length cap1, .int .i64 r] 27)).alloc (.cells #[.int .u8 0, .int .i64 0, .string ⟨#[]⟩, .slice none 0 0, .int .i64 0] 27)) := ((Fr.refl No w).alloc _).alloc _
    have hK : Blk ((w.alloc (.cells #[.int .u8 k, .int .i64 n, .string s, .slice A1 l.length cap1, .int .i64 r] 27)).alloc (.cells #[.int .u8 0, .int .i64 0, .string ⟨#[]⟩, .slice none 0 0, .int .i64 0] 27)) w.heap.size 27 #[.int .u8 k, .int .i64 n, .string s, .slice A1 l.length cap1, .int .i64 r] := (Blk.new' w 27 _ rfl).alloc _
    have hZ : Blk ((w.alloc (.cells #[.int .u8 k, .int .i64 n, .string s, .slice A1 l.length cap1, .int .i64 r] 27)).alloc (.cells #[.int .u8 0, .int .i64 0, .string ⟨#[]⟩, .slice none 0 0, .int .i64 0] 27)) (w.heap.size + 1) 27 #[.int .u8 0, .int .i64 0, .string ⟨#[]⟩, .slice none 0 0, .int .i64 0] := Blk.new' (w.alloc _) 27 _ (by simp)
    have ht1 := ht.no fr1 hh
    have hp1 := hp.no fr1 hh'
    have hs0 : w.heap.size + 2 ≤ ((w.alloc (.cells #[.int .u8 k, .int .i64 n, .string s, .slice A1 l.length cap1, .int .i64 r] 27)).alloc (.cells #[.int .u8 0, .int .i64 0, .string ⟨#[]⟩, .slice none 0 0, .int .i64 0] 27)).heap.size := by simp
    have HU := hide hu
    clear hu ht hp
    cases hm : u.may with
    | false =>
      have e1 : atOf u p = (V.zero, 2) := by simp [atOf, hm]
      rw [e1]
      rw [hm] at hM
      clear hm e1 hF
      go_enter Try.func68, Try.ntmps68
      go_wp2_with fail
      generalize World.alloc _ (.cells #[.int .u8 0, .int .i64 0, .string ⟨#[]⟩, .slice none 0 0, .int .i64 0] 27) = W0 at *
      refine (hM _ ht1 (by omega)).mono ?_
      rintro e w2 ⟨rfl, fr2⟩
      have hZ2 := hZ.fr fr2 fun h => h
      obtain ⟨d0, d1, d2, d3, d4, df⟩ := hZ2.cells5
      have q0 := hZ2.lt
      have HF := hide (fr1.trans fr2)
      clear fr1 fr2 hK hZ hZ2 hM
      go_wp2
      refine bodyPost_ret (v := .tuple #[.agg #[.int .u8 0, .int .i64 0, .string ⟨#[]⟩, .slice none 0 0, .int .i64 0], .int .i64 2]) (by simp [results, Try.results68, go_sem, *]) rfl ?_
      have hF2 := HF.out
      refine ⟨T.zero, rfl, T.zero_v, T.zero_ow _ _ _, ?_⟩
      repeat (first | with_reducible exact hF2 | with_reducible refine Fr.setNew ?_ (by first | (simp; done) | (simp; omega)) _)
    | true =>
      have e1 : atOf u p = (match vAt p u with | some x => (x, 0) | none => (V.zero, 22)) := by simp [atOf, hm]
      have E1 := hide e1
      rw [hm] at hM
      clear hm e1
      go_enter Try.func68, Try.ntmps68
      go_wp2_with fail
      generalize World.alloc _ (.cells #[.int .u8 0, .int .i64 0, .string ⟨#[]⟩, .slice none 0 0, .int .i64 0] 27) = W0 at *
      refine (hM _ ht1 (by omega)).mono ?_
      rintro e w2 ⟨rfl, fr2⟩
      have hZ2 := hZ.fr fr2 fun h => h
      obtain ⟨c0, c1, c2, c3, c4, cf⟩ := (hK.fr fr2 fun h => h).cells5
      have ht2 := ht1.no fr2 (by omega)
      have hp2 := hp1.no fr2 (by omega)
      have hs2 := fr2.size
      have HF := hide (fr1.trans fr2)
      clear fr1 fr2 hK hZ hM
      go_wp2_with fail
      refine (hF _ ht2 (by omega) hp2 (by omega)).mono ?_
      rintro e w3 ⟨fr3, hP⟩
      have hZ3 := hZ2.fr fr3 fun h => h
      have hs3 := fr3.size
      have HF3 := hide (HF.out.trans fr3)
      clear c0 c1 c2 c3 c4 cf hF hZ2 fr3
      rcases hP with ⟨⟨k2, n2, s2, A2, cap2, l2, r2⟩, rfl, hv, hin⟩ | ⟨rfl, hv⟩
      · have e2 : atOf u p = ((T.mk k2 n2 s2 A2 cap2 l2 r2).v, 0) := by rw [E1.out, hv]
        have E2 := hide e2
        rw [T.val_mk]
        have frB := (Fr.refl No w3).alloc (.cells #[.int .u8 k2, .int .i64 n2, .string s2, .slice A2 l2.length cap2, .int .i64 r2] 27)
        have hinB := hin.no frB (by omega)
        have hO1 := hO (T.mk k2 n2 s2 A2 cap2 l2 r2) (w3.alloc (.cells #[.int .u8 k2, .int .i64 n2, .string s2, .slice A2 l2.length cap2, .int .i64 r2] 27)) lo hi hinB (Nat.le_trans (by omega) frB.size)
        rw [T.val_mk] at hO1
        have HO := hide hO1
        have HZB := hide (hZ3.alloc (.cells #[.int .u8 k2, .int .i64 n2, .string s2, .slice A2 l2.length cap2, .int .i64 r2] 27))
        have HFB := hide (HF3.out.alloc (.cells #[.int .u8 k2, .int .i64 n2, .string s2, .slice A2 l2.length cap2, .int .i64 r2] 27))
        have hsB : w.heap.size + 2 ≤ (w3.alloc (.cells #[.int .u8 k2, .int .i64 n2, .string s2, .slice A2 l2.length cap2, .int .i64 r2] 27)).heap.size := by simp; omega
        have HSB := hide hsB
        clear e2 hv hin frB hinB hO1 hZ3 hO hsB
        go_wp2_with fail
        refine HO.out.mono ?_
        rintro e w4 ⟨⟨k3, n3, s3, A3, cap3, l3, r3⟩, rfl, hv3, how, fr4⟩
        rw [T.val_mk]
        have hZ4 := HZB.out.fr fr4 fun h => h
        obtain ⟨d0, d1, d2, d3, d4, df⟩ := hZ4.cells5
        have q0 := hZ4.lt
        have HF4 := hide (HFB.out.trans fr4)
        have HV3 := hide hv3
        have HOW := hide how
        have hs5 := HSB.out
        have hs6 := fr4.size
        clear hZ4 fr4 hv3 how
        go_wp2
        refine bodyPost_ret (v := .tuple #[.agg #[.int .u8 k3, .int .i64 n3, .string s3, .slice A3 l3.length cap3, .int .i64 r3], .int .i64 0]) (by simp [results, Try.results68, go_sem, *]) rfl ?_
        have hF2 := HF4.out
        have hO2 := HOW.out
        refine ⟨T.mk k3 n3 s3 A3 cap3 l3 r3, by rw [E2.out]; rfl, by rw [E2.out]; exact HV3.out, ?_, ?_⟩
        · refine ((hO2.fr (S := (· = w.heap.size + 1)) ?_ (Nat.le_refl _) (fun i h0 h1 h2 => by have h' : i = w.heap.size + 1 := h2; omega)).more (by omega) (by simp))
          repeat (first | with_reducible exact Fr.refl _ w4 | with_reducible refine Fr.set ?_ (by simp) _)
        · repeat (first | with_reducible exact hF2 | with_reducible refine Fr.setNew ?_ (by first | (simp; done) | (simp; omega)) _)
      · have e2 : atOf u p = (V.zero, 22) := by rw [E1.out, hv]
        have E2 := hide e2
        clear e2 hv hO
        have HZ3 := hide (hZ3.alloc (.cells #[.int .u8 0, .int .i64 0, .string ⟨#[]⟩, .slice none 0 0, .int .i64 0] 27))
        obtain ⟨d0, d1, d2, d3, d4, df⟩ := hZ3.cells5
        have q0 := hZ3.lt
        clear hZ3
        go_wp2
        refine bodyPost_ret (v := .tuple #[.agg #[.int .u8 0, .int .i64 0, .string ⟨#[]⟩, .slice none 0 0, .int .i64 0], .int .i64 22]) (by simp [results, Try.results68, go_sem, *]) rfl ?_
        have hF2 := HF3.out
        refine ⟨T.zero, by rw [E2.out]; rfl, by rw [E2.out]; exact T.zero_v, T.zero_ow _ _ _, ?_⟩
        repeat (first | with_reducible exact hF2 | with_reducible refine Fr.setNew ?_ (by first | (simp; done) | (simp; omega)) _ | with_reducible refine Fr.alloc ?_ _)

end Go.Proofs.Ytihjmipmjogpoaa

/- Texts joined: A4. -/
import Derived.Test.YtihjmipmjogpoaaJn14
import Derived.Deep.Cut
import Derived.WalkLawsBesides
/- Chapter 2: ValueBack: what it computes. -/
namespace Go.Proofs.Ytihjmipmjogpoaa
open Go.RowKit

/-- A row of values in a block that is known whole. -/
theorem row_blk {w : World} {g lo hi cap : Nat} {l : List T} (h : Blk w g 27 (rowCells l).toArray) (hl : ∀ x ∈ l, x.In w lo hi) (h0 : lo ≤ g) (h1 : g < hi) (hc : l.length ≤ cap) (hlen : l.length * 64 ≤ 140737488351232) : (T.row (some ⟨g, 0, none⟩) cap l).In w lo hi := by
  refine T.in_mk.2 ⟨⟨by decide, by decide, by decide, by decide, by decide, hlen, hc, by decide, by decide⟩, fun _ => ⟨g, 0, rfl, h0, h1, fun i x hx c u hu => ?_⟩, hl⟩
  rw [h.cell, Nat.zero_add]
  simpa using rowCells_get l i c x u hx hu

theorem rng_in {w : World} {lo hi : Nat} (t : T) : t.In w lo hi → t.v.rng = true := by
  induction t using T.ind with
  | h k n s A cap l r ih =>
    intro h
    obtain ⟨f, _, hx⟩ := T.in_mk.1 h
    rw [T.v_mk, V.rng_mk]
    simp only [Bool.and_eq_true, decide_eq_true_eq, List.all_eq_true]
    refine ⟨⟨f.n0, f.n1⟩, fun v hv => ?_⟩
    obtain ⟨x, hx', rfl⟩ := List.mem_map.1 hv
    exact ih x hx' (hx x hx')

/-- Two values that came in, boxed, in a world behind. -/
structure AB (w wi : World) (k n : Int) (s : ByteArray) (A : Option Addr) (cap : Nat) (l : List T) (r : Int) (k' n' : Int) (s' : ByteArray) (A' : Option Addr) (cap' : Nat) (l' : List T) (r' : Int) : Prop where
  ba : Blk wi w.heap.size 27 #[.int .u8 k, .int .i64 n, .string s, .slice A l.length cap, .int .i64 r]
  bb : Blk wi (w.heap.size + 1) 27 #[.int .u8 k', .int .i64 n', .string s', .slice A' l'.length cap', .int .i64 r']
  ia : (T.mk k n s A cap l r).In wi 0 w.heap.size
  ib : (T.mk k' n' s' A' cap' l' r').In wi 0 w.heap.size
  f : Fr No w wi

theorem AB.fr {w wi wj : World} {k n : Int} {s : ByteArray} {A : Option Addr} {cap : Nat} {l : List T} {r : Int} {k' n' : Int} {s' : ByteArray} {A' : Option Addr} {cap' : Nat} {l' : List T} {r' : Int} (h : AB w wi k n s A cap l r k' n' s' A' cap' l' r') (f : Fr No wi wj) : AB w wj k n s A cap l r k' n' s' A' cap' l' r' :=
  ⟨h.ba.fr f fun h => h, h.bb.fr f fun h => h, h.ia.no f h.f.size, h.ib.no f h.f.size, h.f.trans f⟩

theorem encS_size {v : V} (h : v.may = true) : v.encS.size ≤ 132608 := by
  have h1 := enc_length v (may_ok h)
  have h2 : v.size ≤ 512 := by simp [V.may, V.fits] at h; omega
  rw [encS_eq, ofB_size]
  omega

theorem bytes_yes {t : T} {w : World} {lo hi : Nat} (ht : t.In w lo hi) (hh : hi ≤ w.heap.size) (h : t.v.hasBytes) : Calls Try.prog 46 #[t.val] w fun e w' => e = .returned (.tuple #[.string t.v.encS, .int .i64 0]) ∧ Fr No w w' :=
  (Bytes_any t w lo hi ht hh).mono fun _ _ hp => ⟨hp.2.1 h, hp.1⟩

theorem bytes_no {t : T} {w : World} {lo hi : Nat} (ht : t.In w lo hi) (hh : hi ≤ w.heap.size) (h : ¬ t.v.hasBytes) : Calls Try.prog 46 #[t.val] w fun e w' => e = .returned (.tuple #[.string ⟨#[]⟩, .int .i64 2]) ∧ Fr No w w' :=
  (Bytes_any t w lo hi ht hh).mono fun _ _ hp => ⟨hp.2.2 h, hp.1⟩

theorem bytes_some {t : T} {w : World} {lo hi : Nat} (ht : t.In w lo hi) (hh : hi ≤ w.heap.size) : Calls Try.prog 46 #[t.val] w fun e w' => (∃ (s : ByteArray) (n : Int), e = .returned (.tuple #[.string s, .int .i64 n])) ∧ Fr No w w' := by
  by_cases h : t.v.hasBytes
  · exact (bytes_yes ht hh h).mono fun _ _ ⟨a, b⟩ => ⟨⟨_, _, a⟩, b⟩
  · exact (bytes_no ht hh h).mono fun _ _ ⟨a, b⟩ => ⟨⟨_, _, a⟩, b⟩

/-- Read, of bytes that are none; of bytes that are a value's. -/
theorem read_no {s : ByteArray} (w : World) (h : 262144 < s.size ∨ ∀ u n', parse 16 s 512 ≠ some (u, ⟨#[]⟩, n')) : Calls Try.prog 48 #[.string s] w fun e w' => (∃ n : Int, e = .returned (.tuple #[.agg #[.int .u8 0, .int .i64 0, .string ⟨#[]⟩, .slice none 0 0, .int .i64 0], .int .i64 n]) ∧ (n = 20 ∨ n = 4)) ∧ Fr No w w' := by
  refine (Read_any s w).mono fun e w' hp => ⟨?_, hp.fr⟩
  by_cases hb : 262144 < s.size
  · exact ⟨4, hp.big hb, .inr rfl⟩
  · exact ⟨20, hp.no (by omega) (h.resolve_left hb), .inl rfl⟩

theorem read_yes {s : ByteArray} (w : World) {u : V} {n' : Nat} (h : s.size ≤ 262144) (hp : parse 16 s 512 = some (u, ⟨#[]⟩, n')) : Calls Try.prog 48 #[.string s] w fun e w' => (∃ (k n : Int) (s : ByteArray) (A : Option Addr) (cap : Nat) (l : List T) (r : Int), e = .returned (.tuple #[.agg #[.int .u8 k, .int .i64 n, .string s, .slice A l.length cap, .int .i64 r], .int .i64 0]) ∧ (T.mk k n s A cap l r).v = u ∧ (T.mk k n s A cap l r).In w' w.heap.size w'.heap.size) ∧ Fr No w w' := by
  refine (Read_any s w).mono fun e w' hq => ⟨?_, hq.fr⟩
  obtain ⟨⟨k, n, s, A, cap, l, r⟩, h1, h2, h3⟩ := hq.yes u n' h hp
  exact ⟨k, n, s, A, cap, l, r, h2, h1, h3⟩

theorem front_yes {s : ByteArray} (w : World) {u : V} {s' : ByteArray} {n' : Nat} (h : s.size ≤ 4000000) (hp : parse 16 s 512 = some (u, s', n')) : Calls Try.prog 51 #[.string s] w fun e w' => (∃ (k n : Int) (sx : ByteArray) (A : Option Addr) (cap : Nat) (l : List T) (r : Int), e = .returned (.tuple #[.agg #[.int .u8 k, .int .i64 n, .string sx, .slice A l.length cap, .int .i64 r], .string s', .int .i64 0]) ∧ (T.mk k n sx A cap l r).v = u ∧ (T.mk k n sx A cap l r).In w' w.heap.size w'.heap.size) ∧ Fr No w w' := by
  refine (Front_any s w h).mono fun e w' hq => ⟨?_, hq.fr⟩
  obtain ⟨⟨k, n, s, A, cap, l, r⟩, h1, h2, h3⟩ := hq.yes u s' n' hp
  exact ⟨k, n, s, A, cap, l, r, h2, h1, h3⟩

set_option maxRecDepth 100000 in
set_option maxHeartbeats 16000000 in
theorem valueBack_any (a b : T) (s : ByteArray) (w : World) (ha : a.In w 0 w.heap.size) (hb : b.In w 0 w.heap.size) (hs : s.size ≤ 9223372036854775807) : Calls Try.prog 10 #[a.val, b.val, .string s] w fun e w' => e = .returned (.bool true) ∧ Fr No w w' := by
  have ra := rng_in a ha
  have rb := rng_in b hb
  cases a with
  | mk k n sa A cap l r =>
  cases b with
  | mk k' n' sb A' cap' l' r' =>
    rw [T.val_mk, T.val_mk]
    have fr0 := ((Fr.refl No w).alloc (.cells #[.int .u8 k, .int .i64 n, .string sa, .slice A l.length cap, .int .i64 r] 27)).alloc (.cells #[.int .u8 k', .int .i64 n', .string sb, .slice A' l'.length cap', .int .i64 r'] 27)
    have hab0 : AB w ((w.alloc (.cells #[.int .u8 k, .int .i64 n, .string sa, .slice A l.length cap, .int .i64 r] 27)).alloc (.cells #[.int .u8 k', .int .i64 n', .string sb, .slice A' l'.length cap', .int .i64 r'] 27)) k n sa A cap l r k' n' sb A' cap' l' r' :=
      ⟨(Blk.new w 27 _).alloc _, Blk.new' _ 27 _ (by simp), ha.no fr0 (Nat.le_refl _), hb.no fr0 (Nat.le_refl _), fr0⟩
    have HRA := hide ra
    have HRB := hide rb
    clear ra rb fr0 ha hb
    go_enter Try.func10, Try.ntmps10
    go_wp2_with fail
    have hbl := Blk.new ((w.alloc (.cells #[.int .u8 k, .int .i64 n, .string sa, .slice A l.length cap, .int .i64 r] 27)).alloc (.cells #[.int .u8 k', .int .i64 n', .string sb, .slice A' l'.length cap', .int .i64 r'] 27)) 27 #[.int .u8 k, .int .i64 n, .string sa, .slice A l.length cap, .int .i64 r, .int .u8 k', .int .i64 n', .string sb, .slice A' l'.length cap', .int .i64 r']
    have hab1 := hab0.fr ((Fr.refl No _).alloc (.cells #[.int .u8 k, .int .i64 n, .string sa, .slice A l.length cap, .int .i64 r, .int .u8 k', .int .i64 n', .string sb, .slice A' l'.length cap', .int .i64 r'] 27))
    have hsz : ((w.alloc (.cells #[.int .u8 k, .int .i64 n, .string sa, .slice A l.length cap, .int .i64 r] 27)).alloc (.cells #[.int .u8 k', .int .i64 n', .string sb, .slice A' l'.length cap', .int .i64 r'] 27)).heap.size = w.heap.size + 1 + 1 := by simp
    rw [hsz] at hbl
    clear hab0 hsz
    generalize World.alloc (World.alloc (World.alloc w _) _) _ = w1 at *
    have hrow : (T.row (some ⟨w.heap.size + 1 + 1, 0, none⟩) 2 [T.mk k n sa A cap l r, T.mk k' n' sb A' cap' l' r']).In w1 0 w1.heap.size :=
      row_blk hbl (fun x hx => by
        simp at hx
        rcases hx with rfl | rfl
        · exact T.In.more (Nat.le_refl _) hab1.f.size _ hab1.ia
        · exact T.In.more (Nat.le_refl _) hab1.f.size _ hab1.ib) (Nat.zero_le _) hbl.lt (by simp) (by simp)
    refine (smallAll_any _ _ _ w1 0 _ hrow (Nat.le_refl _)).mono ?_
    rintro e w2 ⟨⟨q, rfl, -⟩, f2⟩
    have H2 := hide (hab1.fr f2)
    have G2 := hide (hab1.fr f2).f
    clear hab1 hbl hrow f2
    cases q with
    | false =>
      go_wp2_with fail
      refine (awake_any _).mono ?_
      rintro e w3 ⟨rfl, f3⟩
      go_wp2
      go_ret
      exact ⟨rfl, G2.out.trans f3⟩
    | true =>
    by_cases hbig : (1048576 : Int) < (s.size : Int)
    · go_wp2_with fail
      refine (awake_any _).mono ?_
      rintro e w3 ⟨rfl, f3⟩
      go_wp2
      go_ret
      exact ⟨rfl, G2.out.trans f3⟩
    have hbig' : s.size ≤ 1048576 := by omega
    obtain ⟨c0, c1, c2, c3, c4, -⟩ := H2.out.ba.cells5
    have q0 := H2.out.ba.lt
    generalize hu : (T.mk k n sa A cap l r).v = u at *
    generalize hv : (T.mk k' n' sb A' cap' l' r').v = v at *
    have HU := hide hu
    have HV := hide hv
    clear hu hv
    by_cases hub : u.hasBytes
    case neg =>
      have hB := bytes_no H2.out.ia H2.out.f.size (by rw [HU.out]; exact hub)
      rw [T.val_mk] at hB
      have HB := hide hB
      clear hB hub
      go_wp2_with fail
      refine HB.out.mono ?_
      rintro e w3 ⟨rfl, f3⟩
      have H3 := hide (H2.out.fr f3)
      clear c0 c1 c2 c3 c4 q0 f3
      obtain ⟨c0, c1, c2, c3, c4, -⟩ := H3.out.bb.cells5
      have q0 := H3.out.bb.lt
      have hB2 := bytes_some H3.out.ib H3.out.f.size
      rw [T.val_mk] at hB2
      have HB2 := hide hB2
      clear hB2
      go_wp2_with fail
      refine HB2.out.mono ?_
      rintro e w4 ⟨⟨s4, n4, rfl⟩, f4⟩
      have G := hide (H3.out.fr f4).f
      clear c0 c1 c2 c3 c4 q0 f4
      go_upto_region 18 with fail
      by_cases hp : 262144 < s.size ∨ ∀ u n', parse 16 s 512 ≠ some (u, ⟨#[]⟩, n')
      · have HP := hide hp
        clear hp
        go_wp2_with fail
        refine (read_no _ HP.out).mono ?_
        rintro e wa ⟨⟨n9, rfl, hn9⟩, fa⟩
        have GA := hide (G.out.trans fa)
        clear fa
        rcases hn9 with rfl | rfl
        all_goals
          go_wp2_with fail
          refine (awake_any _).mono ?_
          rintro e wb ⟨rfl, fb⟩
          go_wp2
          go_ret
          exact ⟨rfl, (GA.out.alloc _).trans fb⟩
      · have hpy : s.size ≤ 262144 ∧ ∃ u n', parse 16 s 512 = some (u, ⟨#[]⟩, n') := by
          refine ⟨by omega, Classical.byContradiction fun h => hp (.inr fun u n' e => h ⟨u, n', e⟩)⟩
        obtain ⟨hps, u9, n9, hpe⟩ := hpy
        obtain ⟨h91, h92, h93⟩ := parse_has hpe
        rw [app_nil] at h93
        have HPE := hide hpe
        have H91 := hide h91
        have H93 := hide h93
        clear hp hpe h91 h92 h93
        go_wp2_with fail
        refine (read_yes _ hps HPE.out).mono ?_
        rintro e wa ⟨⟨k9, m9, sx9, A9, cap9, l9, r9, rfl, hv9, hin9⟩, fa⟩
        have GA := hide (G.out.trans fa)
        have hB9 := bytes_yes (hin9.no ((Fr.refl No wa).alloc (.cells #[.int .u8 k9, .int .i64 m9, .string sx9, .slice A9 l9.length cap9, .int .i64 r9] 27)) (Nat.le_refl _)) (by simp) (by rw [hv9]; exact H91.out)
        rw [T.val_mk, hv9, ← H93.out] at hB9
        have HB9 := hide hB9
        clear fa hv9 hin9 hB9
        go_wp2_with fail
        refine HB9.out.mono ?_
        rintro e wb ⟨rfl, fb⟩
        have GB := hide ((GA.out.alloc _).trans fb)
        clear fb
        go_wp2_with fail
        refine (awake_any _).mono ?_
        rintro e wc ⟨rfl, fc⟩
        go_wp2
        go_ret
        exact ⟨rfl, GB.out.trans fc⟩
    case pos =>
    have huS := encS_size hub.1
    have hB := bytes_yes H2.out.ia H2.out.f.size (by rw [HU.out]; exact hub)
    rw [T.val_mk, HU.out] at hB
    have hfb := front_back hub HRA.out s
    have hrb := read_back hub HRA.out
    have hself := same2_self hub.1
    have HB := hide hB
    have HFB := hide hfb
    have HRD := hide hrb
    have HUB := hide hub
    have HSELF := hide hself
    clear hB hub hfb hrb hself
    go_wp2_with fail
    refine HB.out.mono ?_
    rintro e w3 ⟨rfl, f3⟩
    have H3 := hide (H2.out.fr f3)
    clear c0 c1 c2 c3 c4 q0 f3
    obtain ⟨c0, c1, c2, c3, c4, -⟩ := H3.out.bb.cells5
    have q0 := H3.out.bb.lt
    have HWB := hide (Classical.em v.hasBytes)
    have hB2 : ∃ (s4 : ByteArray) (n4 : Int), ((v.hasBytes ∧ s4 = v.encS ∧ n4 = 0) ∨ n4 = 2) ∧ Calls Try.prog 46 #[.agg #[.int .u8 k', .int .i64 n', .string sb, .slice A' l'.length cap', .int .i64 r']] w3 fun e w' => e = .returned (.tuple #[.string s4, .int .i64 n4]) ∧ Fr No w3 w' := by
      rcases HWB.out with h | h
      · have hc := bytes_yes H3.out.ib H3.out.f.size (by rw [HV.out]; exact h)
        rw [T.val_mk, HV.out] at hc
        exact ⟨_, _, .inl ⟨h, rfl, rfl⟩, hc⟩
      · have hc := bytes_no H3.out.ib H3.out.f.size (by rw [HV.out]; exact h)
        rw [T.val_mk] at hc
        exact ⟨_, _, .inr rfl, hc⟩
    obtain ⟨s4, n4, hs4, hc4⟩ := hB2
    have HC4 := hide hc4
    have HS4 := hide hs4
    clear hc4 hs4
    go_wp2_with fail
    refine HC4.out.mono ?_
    rintro e w4 ⟨rfl, f4⟩
    have H4 := hide (H3.out.fr f4)
    clear c0 c1 c2 c3 c4 q0 f4
    go_wp2_with fail
    refine (front_yes w4 ?_ HFB.out).mono ?_
    · rw [app_size]; omega
    rintro e w5 ⟨⟨k5, n5, sx5, A5, cap5, l5, r5, rfl, hv5, hin5⟩, f5⟩
    have H5 := hide (H4.out.fr f5)
    have HV5 := hide hv5
    have HIN5 := hide hin5
    clear f5 hv5 hin5
    go_wp2_with fail
    have f6 := (Fr.refl No w5).alloc (.cells #[.int .u8 k5, .int .i64 n5, .string sx5, .slice A5 l5.length cap5, .int .i64 r5] 27)
    have hX6 : Blk (w5.alloc (.cells #[.int .u8 k5, .int .i64 n5, .string sx5, .slice A5 l5.length cap5, .int .i64 r5] 27)) w5.heap.size 27 #[.int .u8 k5, .int .i64 n5, .string sx5, .slice A5 l5.length cap5, .int .i64 r5] := Blk.new w5 27 _
    have H6 := hide (H5.out.fr f6)
    have HIN6 := hide (HIN5.out.no f6 (Nat.le_refl _))
    have HS6 := hide f6.size
    generalize World.alloc w5 _ = w6 at *
    generalize hgx : w5.heap.size = gx at *
    generalize hgx4 : w4.heap.size = gx4 at *
    clear f6 HIN5 hgx hgx4
    refine (read_yes w6 ?_ HRD.out).mono ?_
    · omega
    rintro e w7 ⟨⟨k7, n7, sx7, A7, cap7, l7, r7, rfl, hv7, hin7⟩, f7⟩
    have H7 := hide (H6.out.fr f7)
    have HV7 := hide hv7
    have HIN7 := hide hin7
    have hX7 := hX6.fr f7 fun h => h
    have HINX7 := hide (HIN6.out.no f7 HS6.out)
    have HSX7 := hide (Nat.le_trans HS6.out f7.size)
    clear f7 hv7 hin7 hX6
    have fe := (Fr.refl No w7).alloc (.cells #[.int .u8 k7, .int .i64 n7, .string sx7, .slice A7 l7.length cap7, .int .i64 r7] 27)
    have H8 := hide (H7.out.fr fe)
    have hX8 := hX7.fr fe fun h => h
    have hY8 : Blk (w7.alloc (.cells #[.int .u8 k7, .int .i64 n7, .string sx7, .slice A7 l7.length cap7, .int .i64 r7] 27)) w7.heap.size 27 #[.int .u8 k7, .int .i64 n7, .string sx7, .slice A7 l7.length cap7, .int .i64 r7] := Blk.new w7 27 _
    have HINX8 := hide (HINX7.out.no fe HSX7.out)
    have HINY8 := hide (HIN7.out.no fe (Nat.le_refl _))
    have HSX8 := hide (Nat.le_trans HSX7.out fe.size)
    have HSY8 := hide fe.size
    obtain ⟨c0, c1, c2, c3, c4, -⟩ := H7.out.ba.cells5
    obtain ⟨x0, x1, x2, x3, x4, -⟩ := hX7.cells5
    have q0 := H7.out.ba.lt
    have q1 := hX7.lt
    clear fe
    go_wp2_with fail
    generalize World.alloc w7 _ = w8 at *
    have hsm := vsame_any (T.mk k5 n5 sx5 A5 cap5 l5 r5) (T.mk k n sa A cap l r) w8 0 w8.heap.size (T.In.more (Nat.zero_le _) HSX8.out _ HINX8.out) (T.In.more (Nat.zero_le _) H8.out.f.size _ H8.out.ia) (Nat.le_refl _)
    rw [T.val_mk, T.val_mk, HV5.out, HU.out, HSELF.out] at hsm
    refine hsm.mono ?_
    rintro e w9 ⟨rfl, f9⟩
    have H9 := hide (H8.out.fr f9)
    have hY9 := hY8.fr f9 fun h => h
    have HINY9 := hide (HINY8.out.no f9 HSY8.out)
    have HSY9 := hide (Nat.le_trans HSY8.out f9.size)
    clear hsm f9 c0 c1 c2 c3 c4 x0 x1 x2 x3 x4 q0 q1 hY8 hX8 hX7
    obtain ⟨c0, c1, c2, c3, c4, -⟩ := H9.out.ba.cells5
    obtain ⟨x0, x1, x2, x3, x4, -⟩ := hY9.cells5
    have q0 := H9.out.ba.lt
    have q1 := hY9.lt
    go_wp2_with fail
    have hsm := vsame_any (T.mk k7 n7 sx7 A7 cap7 l7 r7) (T.mk k n sa A cap l r) w9 0 w9.heap.size (T.In.more (Nat.zero_le _) HSY9.out _ HINY9.out) (T.In.more (Nat.zero_le _) H9.out.f.size _ H9.out.ia) (Nat.le_refl _)
    rw [T.val_mk, T.val_mk, HV7.out, HU.out, HSELF.out] at hsm
    refine hsm.mono ?_
    rintro e w10 ⟨rfl, f10⟩
    have H10 := hide (H9.out.fr f10)
    clear hsm f10 c0 c1 c2 c3 c4 x0 x1 x2 x3 x4 q0 q1 hY9
    rcases HS4.out with ⟨hvb, rfl, rfl⟩ | rfl
    case inr =>
      have G := hide H10.out.f
      go_upto_region 18 with fail
      by_cases hp : 262144 < s.size ∨ ∀ u n', parse 16 s 512 ≠ some (u, ⟨#[]⟩, n')
      · have HP := hide hp
        clear hp
        go_wp2_with fail
        refine (read_no _ HP.out).mono ?_
        rintro e wa ⟨⟨n9, rfl, hn9⟩, fa⟩
        have GA := hide (G.out.trans fa)
        clear fa
        rcases hn9 with rfl | rfl
        all_goals
          go_wp2_with fail
          refine (awake_any _).mono ?_
          rintro e wb ⟨rfl, fb⟩
          go_wp2
          go_ret
          exact ⟨rfl, (GA.out.alloc _).trans fb⟩
      · have hpy : s.size ≤ 262144 ∧ ∃ u n', parse 16 s 512 = some (u, ⟨#[]⟩, n') := by
          refine ⟨by omega, Classical.byContradiction fun h => hp (.inr fun u n' e => h ⟨u, n', e⟩)⟩
        obtain ⟨hps, u9, n9, hpe⟩ := hpy
        obtain ⟨h91, h92, h93⟩ := parse_has hpe
        rw [app_nil] at h93
        have HPE := hide hpe
        have H91 := hide h91
        have H93 := hide h93
        clear hp hpe h91 h92 h93
        go_wp2_with fail
        refine (read_yes _ hps HPE.out).mono ?_
        rintro e wa ⟨⟨k9, m9, sx9, A9, cap9, l9, r9, rfl, hv9, hin9⟩, fa⟩
        have GA := hide (G.out.trans fa)
        have hB9 := bytes_yes (hin9.no ((Fr.refl No wa).alloc (.cells #[.int .u8 k9, .int .i64 m9, .string sx9, .slice A9 l9.length cap9, .int .i64 r9] 27)) (Nat.le_refl _)) (by simp) (by rw [hv9]; exact H91.out)
        rw [T.val_mk, hv9, ← H93.out] at hB9
        have HB9 := hide hB9
        clear fa hv9 hin9 hB9
        go_wp2_with fail
        refine HB9.out.mono ?_
        rintro e wb ⟨rfl, fb⟩
        have GB := hide ((GA.out.alloc _).trans fb)
        clear fb
        go_wp2_with fail
        refine (awake_any _).mono ?_
        rintro e wc ⟨rfl, fc⟩
        go_wp2
        go_ret
        exact ⟨rfl, GB.out.trans fc⟩
    have hq : ∃ q : Bool, (u.encS.toList == v.encS.toList) = q ∧ u.same2 v = q := by
      refine ⟨_, rfl, ?_⟩
      rw [Bool.eq_iff_iff, same2_iff HUB.out.1 hvb.1, ← encS_inj HUB.out hvb HRA.out HRB.out]
      simp only [beq_iff_eq]
      exact ⟨fun h => by rw [h], fun h => bytes_ext h⟩
    obtain ⟨q, hq1, hq2⟩ := hq
    obtain ⟨c0, c1, c2, c3, c4, -⟩ := H10.out.ba.cells5
    obtain ⟨x0, x1, x2, x3, x4, -⟩ := H10.out.bb.cells5
    have q0 := H10.out.ba.lt
    have q1 := H10.out.bb.lt
    have hsm := vsame_any (T.mk k n sa A cap l r) (T.mk k' n' sb A' cap' l' r') w10 0 w10.heap.size (T.In.more (Nat.zero_le _) H10.out.f.size _ H10.out.ia) (T.In.more (Nat.zero_le _) H10.out.f.size _ H10.out.ib) (Nat.le_refl _)
    rw [T.val_mk, T.val_mk, HU.out, HV.out, hq2] at hsm
    have HSM := hide hsm
    have HQ2 := hide hq2
    have HVB := hide hvb
    clear hsm hq2 hvb
    go_wp2_with fail
    refine HSM.out.mono ?_
    rintro e w11 ⟨rfl, f11⟩
    have H11 := hide (H10.out.fr f11)
    clear f11 c0 c1 c2 c3 c4 x0 x1 x2 x3 x4 q0 q1
    obtain ⟨c0, c1, c2, c3, c4, -⟩ := H11.out.ba.cells5
    obtain ⟨x0, x1, x2, x3, x4, -⟩ := H11.out.bb.cells5
    have q0 := H11.out.ba.lt
    have q1 := H11.out.bb.lt
    have hkk : (k = k' ∧ (k = 1 ∨ k = 4)) ∨ ¬ (k = k' ∧ (k = 1 ∨ k = 4)) := Classical.em _
    rcases hkk with ⟨rfl, hk14⟩ | hno
    case inr =>
      have G := hide H11.out.f
      by_cases e1 : k = k'
      · subst e1
        have e2 : (k == 1) = false := by simp; intro h; exact hno ⟨rfl, .inl h⟩
        have e3 : (k == 4) = false := by simp; intro h; exact hno ⟨rfl, .inr h⟩
        clear hno
        cases q with
        | true =>
          go_upto_region 18 with fail
          by_cases hp : 262144 < s.size ∨ ∀ u n', parse 16 s 512 ≠ some (u, ⟨#[]⟩, n')
          · have HP := hide hp
            clear hp
            go_wp2_with fail
            refine (read_no _ HP.out).mono ?_
            rintro e wa ⟨⟨n9, rfl, hn9⟩, fa⟩
            have GA := hide (G.out.trans fa)
            clear fa
            rcases hn9 with rfl | rfl
            all_goals
              go_wp2_with fail
              refine (awake_any _).mono ?_
              rintro e wb ⟨rfl, fb⟩
              go_wp2
              go_ret
              exact ⟨rfl, (GA.out.alloc _).trans fb⟩
          · have hpy : s.size ≤ 262144 ∧ ∃ u n', parse 16 s 512 = some (u, ⟨#[]⟩, n') := by
              refine ⟨by omega, Classical.byContradiction fun h => hp (.inr fun u n' e => h ⟨u, n', e⟩)⟩
            obtain ⟨hps, u9, n9, hpe⟩ := hpy
            obtain ⟨h91, h92, h93⟩ := parse_has hpe
            rw [app_nil] at h93
            have HPE := hide hpe
            have H91 := hide h91
            have H93 := hide h93
            clear hp hpe h91 h92 h93
            go_wp2_with fail
            refine (read_yes _ hps HPE.out).mono ?_
            rintro e wa ⟨⟨k9, m9, sx9, A9, cap9, l9, r9, rfl, hv9, hin9⟩, fa⟩
            have GA := hide (G.out.trans fa)
            have hB9 := bytes_yes (hin9.no ((Fr.refl No wa).alloc (.cells #[.int .u8 k9, .int .i64 m9, .string sx9, .slice A9 l9.length cap9, .int .i64 r9] 27)) (Nat.le_refl _)) (by simp) (by rw [hv9]; exact H91.out)
            rw [T.val_mk, hv9, ← H93.out] at hB9
            have HB9 := hide hB9
            clear fa hv9 hin9 hB9
            go_wp2_with fail
            refine HB9.out.mono ?_
            rintro e wb ⟨rfl, fb⟩
            have GB := hide ((GA.out.alloc _).trans fb)
            clear fb
            go_wp2_with fail
            refine (awake_any _).mono ?_
            rintro e wc ⟨rfl, fc⟩
            go_wp2
            go_ret
            exact ⟨rfl, GB.out.trans fc⟩
        | false =>
          go_upto_region 18 with fail
          by_cases hp : 262144 < s.size ∨ ∀ u n', parse 16 s 512 ≠ some (u, ⟨#[]⟩, n')
          · have HP := hide hp
            clear hp
            go_wp2_with fail
            refine (read_no _ HP.out).mono ?_
            rintro e wa ⟨⟨n9, rfl, hn9⟩, fa⟩
            have GA := hide (G.out.trans fa)
            clear fa
            rcases hn9 with rfl | rfl
            all_goals
              go_wp2_with fail
              refine (awake_any _).mono ?_
              rintro e wb ⟨rfl, fb⟩
              go_wp2
              go_ret
              exact ⟨rfl, (GA.out.alloc _).trans fb⟩
          · have hpy : s.size ≤ 262144 ∧ ∃ u n', parse 16 s 512 = some (u, ⟨#[]⟩, n') := by
              refine ⟨by omega, Classical.byContradiction fun h => hp (.inr fun u n' e => h ⟨u, n', e⟩)⟩
            obtain ⟨hps, u9, n9, hpe⟩ := hpy
            obtain ⟨h91, h92, h93⟩ := parse_has hpe
            rw [app_nil] at h93
            have HPE := hide hpe
            have H91 := hide h91
            have H93 := hide h93
            clear hp hpe h91 h92 h93
            go_wp2_with fail
            refine (read_yes _ hps HPE.out).mono ?_
            rintro e wa ⟨⟨k9, m9, sx9, A9, cap9, l9, r9, rfl, hv9, hin9⟩, fa⟩
            have GA := hide (G.out.trans fa)
            have hB9 := bytes_yes (hin9.no ((Fr.refl No wa).alloc (.cells #[.int .u8 k9, .int .i64 m9, .string sx9, .slice A9 l9.length cap9, .int .i64 r9] 27)) (Nat.le_refl _)) (by simp) (by rw [hv9]; exact H91.out)
            rw [T.val_mk, hv9, ← H93.out] at hB9
            have HB9 := hide hB9
            clear fa hv9 hin9 hB9
            go_wp2_with fail
            refine HB9.out.mono ?_
            rintro e wb ⟨rfl, fb⟩
            have GB := hide ((GA.out.alloc _).trans fb)
            clear fb
            go_wp2_with fail
            refine (awake_any _).mono ?_
            rintro e wc ⟨rfl, fc⟩
            go_wp2
            go_ret
            exact ⟨rfl, GB.out.trans fc⟩
      · have e2 : (k == k') = false := by simpa using e1
        clear hno e1
        cases q with
        | true =>
          go_upto_region 18 with fail
          by_cases hp : 262144 < s.size ∨ ∀ u n', parse 16 s 512 ≠ some (u, ⟨#[]⟩, n')
          · have HP := hide hp
            clear hp
            go_wp2_with fail
            refine (read_no _ HP.out).mono ?_
            rintro e wa ⟨⟨n9, rfl, hn9⟩, fa⟩
            have GA := hide (G.out.trans fa)
            clear fa
            rcases hn9 with rfl | rfl
            all_goals
              go_wp2_with fail
              refine (awake_any _).mono ?_
              rintro e wb ⟨rfl, fb⟩
              go_wp2
              go_ret
              exact ⟨rfl, (GA.out.alloc _).trans fb⟩
          · have hpy : s.size ≤ 262144 ∧ ∃ u n', parse 16 s 512 = some (u, ⟨#[]⟩, n') := by
              refine ⟨by omega, Classical.byContradiction fun h => hp (.inr fun u n' e => h ⟨u, n', e⟩)⟩
            obtain ⟨hps, u9, n9, hpe⟩ := hpy
            obtain ⟨h91, h92, h93⟩ := parse_has hpe
            rw [app_nil] at h93
            have HPE := hide hpe
            have H91 := hide h91
            have H93 := hide h93
            clear hp hpe h91 h92 h93
            go_wp2_with fail
            refine (read_yes _ hps HPE.out).mono ?_
            rintro e wa ⟨⟨k9, m9, sx9, A9, cap9, l9, r9, rfl, hv9, hin9⟩, fa⟩
            have GA := hide (G.out.trans fa)
            have hB9 := bytes_yes (hin9.no ((Fr.refl No wa).alloc (.cells #[.int .u8 k9, .int .i64 m9, .string sx9, .slice A9 l9.length cap9, .int .i64 r9] 27)) (Nat.le_refl _)) (by simp) (by rw [hv9]; exact H91.out)
            rw [T.val_mk, hv9, ← H93.out] at hB9
            have HB9 := hide hB9
            clear fa hv9 hin9 hB9
            go_wp2_with fail
            refine HB9.out.mono ?_
            rintro e wb ⟨rfl, fb⟩
            have GB := hide ((GA.out.alloc _).trans fb)
            clear fb
            go_wp2_with fail
            refine (awake_any _).mono ?_
            rintro e wc ⟨rfl, fc⟩
            go_wp2
            go_ret
            exact ⟨rfl, GB.out.trans fc⟩
        | false =>
          go_upto_region 18 with fail
          by_cases hp : 262144 < s.size ∨ ∀ u n', parse 16 s 512 ≠ some (u, ⟨#[]⟩, n')
          · have HP := hide hp
            clear hp
            go_wp2_with fail
            refine (read_no _ HP.out).mono ?_
            rintro e wa ⟨⟨n9, rfl, hn9⟩, fa⟩
            have GA := hide (G.out.trans fa)
            clear fa
            rcases hn9 with rfl | rfl
            all_goals
              go_wp2_with fail
              refine (awake_any _).mono ?_
              rintro e wb ⟨rfl, fb⟩
              go_wp2
              go_ret
              exact ⟨rfl, (GA.out.alloc _).trans fb⟩
          · have hpy : s.size ≤ 262144 ∧ ∃ u n', parse 16 s 512 = some (u, ⟨#[]⟩, n') := by
              refine ⟨by omega, Classical.byContradiction fun h => hp (.inr fun u n' e => h ⟨u, n', e⟩)⟩
            obtain ⟨hps, u9, n9, hpe⟩ := hpy
            obtain ⟨h91, h92, h93⟩ := parse_has hpe
            rw [app_nil] at h93
            have HPE := hide hpe
            have H91 := hide h91
            have H93 := hide h93
            clear hp hpe h91 h92 h93
            go_wp2_with fail
            refine (read_yes _ hps HPE.out).mono ?_
            rintro e wa ⟨⟨k9, m9, sx9, A9, cap9, l9, r9, rfl, hv9, hin9⟩, fa⟩
            have GA := hide (G.out.trans fa)
            have hB9 := bytes_yes (hin9.no ((Fr.refl No wa).alloc (.cells #[.int .u8 k9, .int .i64 m9, .string sx9, .slice A9 l9.length cap9, .int .i64 r9] 27)) (Nat.le_refl _)) (by simp) (by rw [hv9]; exact H91.out)
            rw [T.val_mk, hv9, ← H93.out] at hB9
            have HB9 := hide hB9
            clear fa hv9 hin9 hB9
            go_wp2_with fail
            refine HB9.out.mono ?_
            rintro e wb ⟨rfl, fb⟩
            have GB := hide ((GA.out.alloc _).trans fb)
            clear fb
            go_wp2_with fail
            refine (awake_any _).mono ?_
            rintro e wc ⟨rfl, fc⟩
            go_wp2
            go_ret
            exact ⟨rfl, GB.out.trans fc⟩
    have hlo := vorder_any (T.mk k n sa A cap l r) (T.mk k n' sb A' cap' l' r') w11 0 w11.heap.size (T.In.more (Nat.zero_le _) H11.out.f.size _ H11.out.ia) (T.In.more (Nat.zero_le _) H11.out.f.size _ H11.out.ib) (Nat.le_refl _)
    rw [T.val_mk, T.val_mk, HU.out, HV.out, HUB.out.1, HVB.out.1] at hlo
    have hless : ∃ c : Int, u.ord v = c ∧ (c = -1 ∨ c = 0 ∨ c = 1) ∧ Op.bytesLess u.encS.toList v.encS.toList = decide (c < 0) := by
      refine ⟨_, rfl, ord_range u v, ?_⟩
      have f1 := (T.in_mk.1 H11.out.ia).1
      have f2 := (T.in_mk.1 H11.out.ib).1
      have lu := ((hasBytes_iff _).1 HUB.out).2
      have lv := ((hasBytes_iff _).1 HVB.out).2
      have ou := may_ok HUB.out.1
      have ov := may_ok HVB.out.1
      rw [← HU.out, T.v_mk] at lu ou ⊢
      rw [← HV.out, T.v_mk] at lv ov ⊢
      rw [V.ord_mk, ordOf, if_pos rfl]
      rcases hk14 with rfl | rfl
      · rw [less_num f1.n0 f1.n1 f2.n0 f2.n1, if_pos rfl]
        unfold cmpI
        by_cases h : n < n'
        · simp [h]
        · by_cases h2 : n' < n
          · simp [h, h2]
          · simp [h, h2]
      · rw [V.low_mk] at lu lv
        rw [V.ok_mk] at ou ov
        simp [fok] at lu lv ou ov
        rw [less_ref (by omega) (by omega) (by omega) (by omega), if_neg (by decide), if_neg (by decide), if_pos rfl]
        unfold cmpI
        by_cases h : r < r'
        · simp [h]
        · by_cases h2 : r' < r
          · simp [h, h2]
          · simp [h, h2]
    obtain ⟨c, hc1, hc2, hc3⟩ := hless
    rw [hc1] at hlo
    simp only [Bool.and_true, if_true] at hlo
    have HLO := hide hlo
    clear hc1 hlo
    rcases hk14 with rfl | rfl
    · cases q with
      | true =>
        go_wp2_with fail
        refine HLO.out.mono ?_
        rintro e w12 ⟨rfl, f12⟩
        have G := hide (H11.out.fr f12).f
        clear f12 c0 c1 c2 c3 c4 x0 x1 x2 x3 x4 q0 q1
        rcases hc2 with rfl | rfl | rfl
        · have hc3' : Op.bytesLess u.encS.toList v.encS.toList = true := by rw [hc3]; rfl
          clear hc3
          go_upto_region 18 with fail
          by_cases hp : 262144 < s.size ∨ ∀ u n', parse 16 s 512 ≠ some (u, ⟨#[]⟩, n')
          · have HP := hide hp
            clear hp
            go_wp2_with fail
            refine (read_no _ HP.out).mono ?_
            rintro e wa ⟨⟨n9, rfl, hn9⟩, fa⟩
            have GA := hide (G.out.trans fa)
            clear fa
            rcases hn9 with rfl | rfl
            all_goals
              go_wp2_with fail
              refine (awake_any _).mono ?_
              rintro e wb ⟨rfl, fb⟩
              go_wp2
              go_ret
              exact ⟨rfl, (GA.out.alloc _).trans fb⟩
          · have hpy : s.size ≤ 262144 ∧ ∃ u n', parse 16 s 512 = some (u, ⟨#[]⟩, n') := by
              refine ⟨by omega, Classical.byContradiction fun h => hp (.inr fun u n' e => h ⟨u, n', e⟩)⟩
            obtain ⟨hps, u9, n9, hpe⟩ := hpy
            obtain ⟨h91, h92, h93⟩ := parse_has hpe
            rw [app_nil] at h93
            have HPE := hide hpe
            have H91 := hide h91
            have H93 := hide h93
            clear hp hpe h91 h92 h93
            go_wp2_with fail
            refine (read_yes _ hps HPE.out).mono ?_
            rintro e wa ⟨⟨k9, m9, sx9, A9, cap9, l9, r9, rfl, hv9, hin9⟩, fa⟩
            have GA := hide (G.out.trans fa)
            have hB9 := bytes_yes (hin9.no ((Fr.refl No wa).alloc (.cells #[.int .u8 k9, .int .i64 m9, .string sx9, .slice A9 l9.length cap9, .int .i64 r9] 27)) (Nat.le_refl _)) (by simp) (by rw [hv9]; exact H91.out)
            rw [T.val_mk, hv9, ← H93.out] at hB9
            have HB9 := hide hB9
            clear fa hv9 hin9 hB9
            go_wp2_with fail
            refine HB9.out.mono ?_
            rintro e wb ⟨rfl, fb⟩
            have GB := hide ((GA.out.alloc _).trans fb)
            clear fb
            go_wp2_with fail
            refine (awake_any _).mono ?_
            rintro e wc ⟨rfl, fc⟩
            go_wp2
            go_ret
            exact ⟨rfl, GB.out.trans fc⟩
        · have hc3' : Op.bytesLess u.encS.toList v.encS.toList = false := by rw [hc3]; rfl
          clear hc3
          go_upto_region 18 with fail
          by_cases hp : 262144 < s.size ∨ ∀ u n', parse 16 s 512 ≠ some (u, ⟨#[]⟩, n')
          · have HP := hide hp
            clear hp
            go_wp2_with fail
            refine (read_no _ HP.out).mono ?_
            rintro e wa ⟨⟨n9, rfl, hn9⟩, fa⟩
            have GA := hide (G.out.trans fa)
            clear fa
            rcases hn9 with rfl | rfl
            all_goals
              go_wp2_with fail
              refine (awake_any _).mono ?_
              rintro e wb ⟨rfl, fb⟩
              go_wp2
              go_ret
              exact ⟨rfl, (GA.out.alloc _).trans fb⟩
          · have hpy : s.size ≤ 262144 ∧ ∃ u n', parse 16 s 512 = some (u, ⟨#[]⟩, n') := by
              refine ⟨by omega, Classical.byContradiction fun h => hp (.inr fun u n' e => h ⟨u, n', e⟩)⟩
            obtain ⟨hps, u9, n9, hpe⟩ := hpy
            obtain ⟨h91, h92, h93⟩ := parse_has hpe
            rw [app_nil] at h93
            have HPE := hide hpe
            have H91 := hide h91
            have H93 := hide h93
            clear hp hpe h91 h92 h93
            go_wp2_with fail
            refine (read_yes _ hps HPE.out).mono ?_
            rintro e wa ⟨⟨k9, m9, sx9, A9, cap9, l9, r9, rfl, hv9, hin9⟩, fa⟩
            have GA := hide (G.out.trans fa)
            have hB9 := bytes_yes (hin9.no ((Fr.refl No wa).alloc (.cells #[.int .u8 k9, .int .i64 m9, .string sx9, .slice A9 l9.length cap9, .int .i64 r9] 27)) (Nat.le_refl _)) (by simp) (by rw [hv9]; exact H91.out)
            rw [T.val_mk, hv9, ← H93.out] at hB9
            have HB9 := hide hB9
            clear fa hv9 hin9 hB9
            go_wp2_with fail
            refine HB9.out.mono ?_
            rintro e wb ⟨rfl, fb⟩
            have GB := hide ((GA.out.alloc _).trans fb)
            clear fb
            go_wp2_with fail
            refine (awake_any _).mono ?_
            rintro e wc ⟨rfl, fc⟩
            go_wp2
            go_ret
            exact ⟨rfl, GB.out.trans fc⟩
        · have hc3' : Op.bytesLess u.encS.toList v.encS.toList = false := by rw [hc3]; rfl
          clear hc3
          go_upto_region 18 with fail
          by_cases hp : 262144 < s.size ∨ ∀ u n', parse 16 s 512 ≠ some (u, ⟨#[]⟩, n')
          · have HP := hide hp
            clear hp
            go_wp2_with fail
            refine (read_no _ HP.out).mono ?_
            rintro e wa ⟨⟨n9, rfl, hn9⟩, fa⟩
            have GA := hide (G.out.trans fa)
            clear fa
            rcases hn9 with rfl | rfl
            all_goals
              go_wp2_with fail
              refine (awake_any _).mono ?_
              rintro e wb ⟨rfl, fb⟩
              go_wp2
              go_ret
              exact ⟨rfl, (GA.out.alloc _).trans fb⟩
          · have hpy : s.size ≤ 262144 ∧ ∃ u n', parse 16 s 512 = some (u, ⟨#[]⟩, n') := by
              refine ⟨by omega, Classical.byContradiction fun h => hp (.inr fun u n' e => h ⟨u, n', e⟩)⟩
            obtain ⟨hps, u9, n9, hpe⟩ := hpy
            obtain ⟨h91, h92, h93⟩ := parse_has hpe
            rw [app_nil] at h93
            have HPE := hide hpe
            have H91 := hide h91
            have H93 := hide h93
            clear hp hpe h91 h92 h93
            go_wp2_with fail
            refine (read_yes _ hps HPE.out).mono ?_
            rintro e wa ⟨⟨k9, m9, sx9, A9, cap9, l9, r9, rfl, hv9, hin9⟩, fa⟩
            have GA := hide (G.out.trans fa)
            have hB9 := bytes_yes (hin9.no ((Fr.refl No wa).alloc (.cells #[.int .u8 k9, .int .i64 m9, .string sx9, .slice A9 l9.length cap9, .int .i64 r9] 27)) (Nat.le_refl _)) (by simp) (by rw [hv9]; exact H91.out)
            rw [T.val_mk, hv9, ← H93.out] at hB9
            have HB9 := hide hB9
            clear fa hv9 hin9 hB9
            go_wp2_with fail
            refine HB9.out.mono ?_
            rintro e wb ⟨rfl, fb⟩
            have GB := hide ((GA.out.alloc _).trans fb)
            clear fb
            go_wp2_with fail
            refine (awake_any _).mono ?_
            rintro e wc ⟨rfl, fc⟩
            go_wp2
            go_ret
            exact ⟨rfl, GB.out.trans fc⟩
      | false =>
        go_wp2_with fail
        refine HLO.out.mono ?_
        rintro e w12 ⟨rfl, f12⟩
        have G := hide (H11.out.fr f12).f
        clear f12 c0 c1 c2 c3 c4 x0 x1 x2 x3 x4 q0 q1
        rcases hc2 with rfl | rfl | rfl
        · have hc3' : Op.bytesLess u.encS.toList v.encS.toList = true := by rw [hc3]; rfl
          clear hc3
          go_upto_region 18 with fail
          by_cases hp : 262144 < s.size ∨ ∀ u n', parse 16 s 512 ≠ some (u, ⟨#[]⟩, n')
          · have HP := hide hp
            clear hp
            go_wp2_with fail
            refine (read_no _ HP.out).mono ?_
            rintro e wa ⟨⟨n9, rfl, hn9⟩, fa⟩
            have GA := hide (G.out.trans fa)
            clear fa
            rcases hn9 with rfl | rfl
            all_goals
              go_wp2_with fail
              refine (awake_any _).mono ?_
              rintro e wb ⟨rfl, fb⟩
              go_wp2
              go_ret
              exact ⟨rfl, (GA.out.alloc _).trans fb⟩
          · have hpy : s.size ≤ 262144 ∧ ∃ u n', parse 16 s 512 = some (u, ⟨#[]⟩, n') := by
              refine ⟨by omega, Classical.byContradiction fun h => hp (.inr fun u n' e => h ⟨u, n', e⟩)⟩
            obtain ⟨hps, u9, n9, hpe⟩ := hpy
            obtain ⟨h91, h92, h93⟩ := parse_has hpe
            rw [app_nil] at h93
            have HPE := hide hpe
            have H91 := hide h91
            have H93 := hide h93
            clear hp hpe h91 h92 h93
            go_wp2_with fail
            refine (read_yes _ hps HPE.out).mono ?_
            rintro e wa ⟨⟨k9, m9, sx9, A9, cap9, l9, r9, rfl, hv9, hin9⟩, fa⟩
            have GA := hide (G.out.trans fa)
            have hB9 := bytes_yes (hin9.no ((Fr.refl No wa).alloc (.cells #[.int .u8 k9, .int .i64 m9, .string sx9, .slice A9 l9.length cap9, .int .i64 r9] 27)) (Nat.le_refl _)) (by simp) (by rw [hv9]; exact H91.out)
            rw [T.val_mk, hv9, ← H93.out] at hB9
            have HB9 := hide hB9
            clear fa hv9 hin9 hB9
            go_wp2_with fail
            refine HB9.out.mono ?_
            rintro e wb ⟨rfl, fb⟩
            have GB := hide ((GA.out.alloc _).trans fb)
            clear fb
            go_wp2_with fail
            refine (awake_any _).mono ?_
            rintro e wc ⟨rfl, fc⟩
            go_wp2
            go_ret
            exact ⟨rfl, GB.out.trans fc⟩
        · have hc3' : Op.bytesLess u.encS.toList v.encS.toList = false := by rw [hc3]; rfl
          clear hc3
          go_upto_region 18 with fail
          by_cases hp : 262144 < s.size ∨ ∀ u n', parse 16 s 512 ≠ some (u, ⟨#[]⟩, n')
          · have HP := hide hp
            clear hp
            go_wp2_with fail
            refine (read_no _ HP.out).mono ?_
            rintro e wa ⟨⟨n9, rfl, hn9⟩, fa⟩
            have GA := hide (G.out.trans fa)
            clear fa
            rcases hn9 with rfl | rfl
            all_goals
              go_wp2_with fail
              refine (awake_any _).mono ?_
              rintro e wb ⟨rfl, fb⟩
              go_wp2
              go_ret
              exact ⟨rfl, (GA.out.alloc _).trans fb⟩
          · have hpy : s.size ≤ 262144 ∧ ∃ u n', parse 16 s 512 = some (u, ⟨#[]⟩, n') := by
              refine ⟨by omega, Classical.byContradiction fun h => hp (.inr fun u n' e => h ⟨u, n', e⟩)⟩
            obtain ⟨hps, u9, n9, hpe⟩ := hpy
            obtain ⟨h91, h92, h93⟩ := parse_has hpe
            rw [app_nil] at h93
            have HPE := hide hpe
            have H91 := hide h91
            have H93 := hide h93
            clear hp hpe h91 h92 h93
            go_wp2_with fail
            refine (read_yes _ hps HPE.out).mono ?_
            rintro e wa ⟨⟨k9, m9, sx9, A9, cap9, l9, r9, rfl, hv9, hin9⟩, fa⟩
            have GA := hide (G.out.trans fa)
            have hB9 := bytes_yes (hin9.no ((Fr.refl No wa).alloc (.cells #[.int .u8 k9, .int .i64 m9, .string sx9, .slice A9 l9.length cap9, .int .i64 r9] 27)) (Nat.le_refl _)) (by simp) (by rw [hv9]; exact H91.out)
            rw [T.val_mk, hv9, ← H93.out] at hB9
            have HB9 := hide hB9
            clear fa hv9 hin9 hB9
            go_wp2_with fail
            refine HB9.out.mono ?_
            rintro e wb ⟨rfl, fb⟩
            have GB := hide ((GA.out.alloc _).trans fb)
            clear fb
            go_wp2_with fail
            refine (awake_any _).mono ?_
            rintro e wc ⟨rfl, fc⟩
            go_wp2
            go_ret
            exact ⟨rfl, GB.out.trans fc⟩
        · have hc3' : Op.bytesLess u.encS.toList v.encS.toList = false := by rw [hc3]; rfl
          clear hc3
          go_upto_region 18 with fail
          by_cases hp : 262144 < s.size ∨ ∀ u n', parse 16 s 512 ≠ some (u, ⟨#[]⟩, n')
          · have HP := hide hp
            clear hp
            go_wp2_with fail
            refine (read_no _ HP.out).mono ?_
            rintro e wa ⟨⟨n9, rfl, hn9⟩, fa⟩
            have GA := hide (G.out.trans fa)
            clear fa
            rcases hn9 with rfl | rfl
            all_goals
              go_wp2_with fail
              refine (awake_any _).mono ?_
              rintro e wb ⟨rfl, fb⟩
              go_wp2
              go_ret
              exact ⟨rfl, (GA.out.alloc _).trans fb⟩
          · have hpy : s.size ≤ 262144 ∧ ∃ u n', parse 16 s 512 = some (u, ⟨#[]⟩, n') := by
              refine ⟨by omega, Classical.byContradiction fun h => hp (.inr fun u n' e => h ⟨u, n', e⟩)⟩
            obtain ⟨hps, u9, n9, hpe⟩ := hpy
            obtain ⟨h91, h92, h93⟩ := parse_has hpe
            rw [app_nil] at h93
            have HPE := hide hpe
            have H91 := hide h91
            have H93 := hide h93
            clear hp hpe h91 h92 h93
            go_wp2_with fail
            refine (read_yes _ hps HPE.out).mono ?_
            rintro e wa ⟨⟨k9, m9, sx9, A9, cap9, l9, r9, rfl, hv9, hin9⟩, fa⟩
            have GA := hide (G.out.trans fa)
            have hB9 := bytes_yes (hin9.no ((Fr.refl No wa).alloc (.cells #[.int .u8 k9, .int .i64 m9, .string sx9, .slice A9 l9.length cap9, .int .i64 r9] 27)) (Nat.le_refl _)) (by simp) (by rw [hv9]; exact H91.out)
            rw [T.val_mk, hv9, ← H93.out] at hB9
            have HB9 := hide hB9
            clear fa hv9 hin9 hB9
            go_wp2_with fail
            refine HB9.out.mono ?_
            rintro e wb ⟨rfl, fb⟩
            have GB := hide ((GA.out.alloc _).trans fb)
            clear fb
            go_wp2_with fail
            refine (awake_any _).mono ?_
            rintro e wc ⟨rfl, fc⟩
            go_wp2
            go_ret
            exact ⟨rfl, GB.out.trans fc⟩
    · cases q with
      | true =>
        go_wp2_with fail
        refine HLO.out.mono ?_
        rintro e w12 ⟨rfl, f12⟩
        have G := hide (H11.out.fr f12).f
        clear f12 c0 c1 c2 c3 c4 x0 x1 x2 x3 x4 q0 q1
        rcases hc2 with rfl | rfl | rfl
        · have hc3' : Op.bytesLess u.encS.toList v.encS.toList = true := by rw [hc3]; rfl
          clear hc3
          go_upto_region 18 with fail
          by_cases hp : 262144 < s.size ∨ ∀ u n', parse 16 s 512 ≠ some (u, ⟨#[]⟩, n')
          · have HP := hide hp
            clear hp
            go_wp2_with fail
            refine (read_no _ HP.out).mono ?_
            rintro e wa ⟨⟨n9, rfl, hn9⟩, fa⟩
            have GA := hide (G.out.trans fa)
            clear fa
            rcases hn9 with rfl | rfl
            all_goals
              go_wp2_with fail
              refine (awake_any _).mono ?_
              rintro e wb ⟨rfl, fb⟩
              go_wp2
              go_ret
              exact ⟨rfl, (GA.out.alloc _).trans fb⟩
          · have hpy : s.size ≤ 262144 ∧ ∃ u n', parse 16 s 512 = some (u, ⟨#[]⟩, n') := by
              refine ⟨by omega, Classical.byContradiction fun h => hp (.inr fun u n' e => h ⟨u, n', e⟩)⟩
            obtain ⟨hps, u9, n9, hpe⟩ := hpy
            obtain ⟨h91, h92, h93⟩ := parse_has hpe
            rw [app_nil] at h93
            have HPE := hide hpe
            have H91 := hide h91
            have H93 := hide h93
            clear hp hpe h91 h92 h93
            go_wp2_with fail
            refine (read_yes _ hps HPE.out).mono ?_
            rintro e wa ⟨⟨k9, m9, sx9, A9, cap9, l9, r9, rfl, hv9, hin9⟩, fa⟩
            have GA := hide (G.out.trans fa)
            have hB9 := bytes_yes (hin9.no ((Fr.refl No wa).alloc (.cells #[.int .u8 k9, .int .i64 m9, .string sx9, .slice A9 l9.length cap9, .int .i64 r9] 27)) (Nat.le_refl _)) (by simp) (by rw [hv9]; exact H91.out)
            rw [T.val_mk, hv9, ← H93.out] at hB9
            have HB9 := hide hB9
            clear fa hv9 hin9 hB9
            go_wp2_with fail
            refine HB9.out.mono ?_
            rintro e wb ⟨rfl, fb⟩
            have GB := hide ((GA.out.alloc _).trans fb)
            clear fb
            go_wp2_with fail
            refine (awake_any _).mono ?_
            rintro e wc ⟨rfl, fc⟩
            go_wp2
            go_ret
            exact ⟨rfl, GB.out.trans fc⟩
        · have hc3' : Op.bytesLess u.encS.toList v.encS.toList = false := by rw [hc3]; rfl
          clear hc3
          go_upto_region 18 with fail
          by_cases hp : 262144 < s.size ∨ ∀ u n', parse 16 s 512 ≠ some (u, ⟨#[]⟩, n')
          · have HP := hide hp
            clear hp
            go_wp2_with fail
            refine (read_no _ HP.out).mono ?_
            rintro e wa ⟨⟨n9, rfl, hn9⟩, fa⟩
            have GA := hide (G.out.trans fa)
            clear fa
            rcases hn9 with rfl | rfl
            all_goals
              go_wp2_with fail
              refine (awake_any _).mono ?_
              rintro e wb ⟨rfl, fb⟩
              go_wp2
              go_ret
              exact ⟨rfl, (GA.out.alloc _).trans fb⟩
          · have hpy : s.size ≤ 262144 ∧ ∃ u n', parse 16 s 512 = some (u, ⟨#[]⟩, n') := by
              refine ⟨by omega, Classical.byContradiction fun h => hp (.inr fun u n' e => h ⟨u, n', e⟩)⟩
            obtain ⟨hps, u9, n9, hpe⟩ := hpy
            obtain ⟨h91, h92, h93⟩ := parse_has hpe
            rw [app_nil] at h93
            have HPE := hide hpe
            have H91 := hide h91
            have H93 := hide h93
            clear hp hpe h91 h92 h93
            go_wp2_with fail
            refine (read_yes _ hps HPE.out).mono ?_
            rintro e wa ⟨⟨k9, m9, sx9, A9, cap9, l9, r9, rfl, hv9, hin9⟩, fa⟩
            have GA := hide (G.out.trans fa)
            have hB9 := bytes_yes (hin9.no ((Fr.refl No wa).alloc (.cells #[.int .u8 k9, .int .i64 m9, .string sx9, .slice A9 l9.length cap9, .int .i64 r9] 27)) (Nat.le_refl _)) (by simp) (by rw [hv9]; exact H91.out)
            rw [T.val_mk, hv9, ← H93.out] at hB9
            have HB9 := hide hB9
            clear fa hv9 hin9 hB9
            go_wp2_with fail
            refine HB9.out.mono ?_
            rintro e wb ⟨rfl, fb⟩
            have GB := hide ((GA.out.alloc _).trans fb)
            clear fb
            go_wp2_with fail
            refine (awake_any _).mono ?_
            rintro e wc ⟨rfl, fc⟩
            go_wp2
            go_ret
            exact ⟨rfl, GB.out.trans fc⟩
        · have hc3' : Op.bytesLess u.encS.toList v.encS.toList = false := by rw [hc3]; rfl
          clear hc3
          go_upto_region 18 with fail
          by_cases hp : 262144 < s.size ∨ ∀ u n', parse 16 s 512 ≠ some (u, ⟨#[]⟩, n')
          · have HP := hide hp
            clear hp
            go_wp2_with fail
            refine (read_no _ HP.out).mono ?_
            rintro e wa ⟨⟨n9, rfl, hn9⟩, fa⟩
            have GA := hide (G.out.trans fa)
            clear fa
            rcases hn9 with rfl | rfl
            all_goals
              go_wp2_with fail
              refine (awake_any _).mono ?_
              rintro e wb ⟨rfl, fb⟩
              go_wp2
              go_ret
              exact ⟨rfl, (GA.out.alloc _).trans fb⟩
          · have hpy : s.size ≤ 262144 ∧ ∃ u n', parse 16 s 512 = some (u, ⟨#[]⟩, n') := by
              refine ⟨by omega, Classical.byContradiction fun h => hp (.inr fun u n' e => h ⟨u, n', e⟩)⟩
            obtain ⟨hps, u9, n9, hpe⟩ := hpy
            obtain ⟨h91, h92, h93⟩ := parse_has hpe
            rw [app_nil] at h93
            have HPE := hide hpe
            have H91 := hide h91
            have H93 := hide h93
            clear hp hpe h91 h92 h93
            go_wp2_with fail
            refine (read_yes _ hps HPE.out).mono ?_
            rintro e wa ⟨⟨k9, m9, sx9, A9, cap9, l9, r9, rfl, hv9, hin9⟩, fa⟩
            have GA := hide (G.out.trans fa)
            have hB9 := bytes_yes (hin9.no ((Fr.refl No wa).alloc (.cells #[.int .u8 k9, .int .i64 m9, .string sx9, .slice A9 l9.length cap9, .int .i64 r9] 27)) (Nat.le_refl _)) (by simp) (by rw [hv9]; exact H91.out)
            rw [T.val_mk, hv9, ← H93.out] at hB9
            have HB9 := hide hB9
            clear fa hv9 hin9 hB9
            go_wp2_with fail
            refine HB9.out.mono ?_
            rintro e wb ⟨rfl, fb⟩
            have GB := hide ((GA.out.alloc _).trans fb)
            clear fb
            go_wp2_with fail
            refine (awake_any _).mono ?_
            rintro e wc ⟨rfl, fc⟩
            go_wp2
            go_ret
            exact ⟨rfl, GB.out.trans fc⟩
      | false =>
        go_wp2_with fail
        refine HLO.out.mono ?_
        rintro e w12 ⟨rfl, f12⟩
        have G := hide (H11.out.fr f12).f
        clear f12 c0 c1 c2 c3 c4 x0 x1 x2 x3 x4 q0 q1
        rcases hc2 with rfl | rfl | rfl
        · have hc3' : Op.bytesLess u.encS.toList v.encS.toList = true := by rw [hc3]; rfl
          clear hc3
          go_upto_region 18 with fail
          by_cases hp : 262144 < s.size ∨ ∀ u n', parse 16 s 512 ≠ some (u, ⟨#[]⟩, n')
          · have HP := hide hp
            clear hp
            go_wp2_with fail
            refine (read_no _ HP.out).mono ?_
            rintro e wa ⟨⟨n9, rfl, hn9⟩, fa⟩
            have GA := hide (G.out.trans fa)
            clear fa
            rcases hn9 with rfl | rfl
            all_goals
              go_wp2_with fail
              refine (awake_any _).mono ?_
              rintro e wb ⟨rfl, fb⟩
              go_wp2
              go_ret
              exact ⟨rfl, (GA.out.alloc _).trans fb⟩
          · have hpy : s.size ≤ 262144 ∧ ∃ u n', parse 16 s 512 = some (u, ⟨#[]⟩, n') := by
              refine ⟨by omega, Classical.byContradiction fun h => hp (.inr fun u n' e => h ⟨u, n', e⟩)⟩
            obtain ⟨hps, u9, n9, hpe⟩ := hpy
            obtain ⟨h91, h92, h93⟩ := parse_has hpe
            rw [app_nil] at h93
            have HPE := hide hpe
            have H91 := hide h91
            have H93 := hide h93
            clear hp hpe h91 h92 h93
            go_wp2_with fail
            refine (read_yes _ hps HPE.out).mono ?_
            rintro e wa ⟨⟨k9, m9, sx9, A9, cap9, l9, r9, rfl, hv9, hin9⟩, fa⟩
            have GA := hide (G.out.trans fa)
            have hB9 := bytes_yes (hin9.no ((Fr.refl No wa).alloc (.cells #[.int .u8 k9, .int .i64 m9, .string sx9, .slice A9 l9.length cap9, .int .i64 r9] 27)) (Nat.le_refl _)) (by simp) (by rw [hv9]; exact H91.out)
            rw [T.val_mk, hv9, ← H93.out] at hB9
            have HB9 := hide hB9
            clear fa hv9 hin9 hB9
            go_wp2_with fail
            refine HB9.out.mono ?_
            rintro e wb ⟨rfl, fb⟩
            have GB := hide ((GA.out.alloc _).trans fb)
            clear fb
            go_wp2_with fail
            refine (awake_any _).mono ?_
            rintro e wc ⟨rfl, fc⟩
            go_wp2
            go_ret
            exact ⟨rfl, GB.out.trans fc⟩
        · have hc3' : Op.bytesLess u.encS.toList v.encS.toList = false := by rw [hc3]; rfl
          clear hc3
          go_upto_region 18 with fail
          by_cases hp : 262144 < s.size ∨ ∀ u n', parse 16 s 512 ≠ some (u, ⟨#[]⟩, n')
          · have HP := hide hp
            clear hp
            go_wp2_with fail
            refine (read_no _ HP.out).mono ?_
            rintro e wa ⟨⟨n9, rfl, hn9⟩, fa⟩
            have GA := hide (G.out.trans fa)
            clear fa
            rcases hn9 with rfl | rfl
            all_goals
              go_wp2_with fail
              refine (awake_any _).mono ?_
              rintro e wb ⟨rfl, fb⟩
              go_wp2
              go_ret
              exact ⟨rfl, (GA.out.alloc _).trans fb⟩
          · have hpy : s.size ≤ 262144 ∧ ∃ u n', parse 16 s 512 = some (u, ⟨#[]⟩, n') := by
              refine ⟨by omega, Classical.byContradiction fun h => hp (.inr fun u n' e => h ⟨u, n', e⟩)⟩
            obtain ⟨hps, u9, n9, hpe⟩ := hpy
            obtain ⟨h91, h92, h93⟩ := parse_has hpe
            rw [app_nil] at h93
            have HPE := hide hpe
            have H91 := hide h91
            have H93 := hide h93
            clear hp hpe h91 h92 h93
            go_wp2_with fail
            refine (read_yes _ hps HPE.out).mono ?_
            rintro e wa ⟨⟨k9, m9, sx9, A9, cap9, l9, r9, rfl, hv9, hin9⟩, fa⟩
            have GA := hide (G.out.trans fa)
            have hB9 := bytes_yes (hin9.no ((Fr.refl No wa).alloc (.cells #[.int .u8 k9, .int .i64 m9, .string sx9, .slice A9 l9.length cap9, .int .i64 r9] 27)) (Nat.le_refl _)) (by simp) (by rw [hv9]; exact H91.out)
            rw [T.val_mk, hv9, ← H93.out] at hB9
            have HB9 := hide hB9
            clear fa hv9 hin9 hB9
            go_wp2_with fail
            refine HB9.out.mono ?_
            rintro e wb ⟨rfl, fb⟩
            have GB := hide ((GA.out.alloc _).trans fb)
            clear fb
            go_wp2_with fail
            refine (awake_any _).mono ?_
            rintro e wc ⟨rfl, fc⟩
            go_wp2
            go_ret
            exact ⟨rfl, GB.out.trans fc⟩
        · have hc3' : Op.bytesLess u.encS.toList v.encS.toList = false := by rw [hc3]; rfl
          clear hc3
          go_upto_region 18 with fail
          by_cases hp : 262144 < s.size ∨ ∀ u n', parse 16 s 512 ≠ some (u, ⟨#[]⟩, n')
          · have HP := hide hp
            clear hp
            go_wp2_with fail
            refine (read_no _ HP.out).mono ?_
            rintro e wa ⟨⟨n9, rfl, hn9⟩, fa⟩
            have GA := hide (G.out.trans fa)
            clear fa
            rcases hn9 with rfl | rfl
            all_goals
              go_wp2_with fail
              refine (awake_any _).mono ?_
              rintro e wb ⟨rfl, fb⟩
              go_wp2
              go_ret
              exact ⟨rfl, (GA.out.alloc _).trans fb⟩
          · have hpy : s.size ≤ 262144 ∧ ∃ u n', parse 16 s 512 = some (u, ⟨#[]⟩, n') := by
              refine ⟨by omega, Classical.byContradiction fun h => hp (.inr fun u n' e => h ⟨u, n', e⟩)⟩
            obtain ⟨hps, u9, n9, hpe⟩ := hpy
            obtain ⟨h91, h92, h93⟩ := parse_has hpe
            rw [app_nil] at h93
            have HPE := hide hpe
            have H91 := hide h91
            have H93 := hide h93
            clear hp hpe h91 h92 h93
            go_wp2_with fail
            refine (read_yes _ hps HPE.out).mono ?_
            rintro e wa ⟨⟨k9, m9, sx9, A9, cap9, l9, r9, rfl, hv9, hin9⟩, fa⟩
            have GA := hide (G.out.trans fa)
            have hB9 := bytes_yes (hin9.no ((Fr.refl No wa).alloc (.cells #[.int .u8 k9, .int .i64 m9, .string sx9, .slice A9 l9.length cap9, .int .i64 r9] 27)) (Nat.le_refl _)) (by simp) (by rw [hv9]; exact H91.out)
            rw [T.val_mk, hv9, ← H93.out] at hB9
            have HB9 := hide hB9
            clear fa hv9 hin9 hB9
            go_wp2_with fail
            refine HB9.out.mono ?_
            rintro e wb ⟨rfl, fb⟩
            have GB := hide ((GA.out.alloc _).trans fb)
            clear fb
            go_wp2_with fail
            refine (awake_any _).mono ?_
            rintro e wc ⟨rfl, fc⟩
            go_wp2
            go_ret
            exact ⟨rfl, GB.out.trans fc⟩

end Go.Proofs.Ytihjmipmjogpoaa

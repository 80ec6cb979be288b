/- Texts joined: Nf1, Nf2, Gt, Gs, Gb, Gw. -/
import Derived.Test.YtlejelbefmkakaaGreatJn17
import Derived.LoopN
import Derived.Deep.Cut
import Derived.Deep.CutRange
/- posternlaw11: room, fits. -/
namespace Go.Proofs.YtlejelbefmkakaaGreat
open Go.RowKit

/-- What room leaves. -/
def RoomP (g : Nat) (w : World) (e : Ending) (w' : World) : Prop :=
  ∃ (q : Bool) (n' : Int), e = .returned (.bool q) ∧ (q = true → 0 ≤ n') ∧ n' ≤ 600 ∧ Blk w' g 3 #[.int .i64 n'] ∧ Fr (fun i => i = g) w w'

set_option maxRecDepth 100000 in
set_option maxHeartbeats 4000000 in
theorem froom_any (t : T) : ∀ (n d : Int) (g : Nat) (w : World) (lo hi : Nat), t.In w lo hi → hi ≤ g → Blk w g 3 #[.int .i64 n] → 0 ≤ n → n ≤ 600 → -1 ≤ d → d ≤ 40 →
    Calls Tryz.prog 136 #[t.val, .pointer (some ⟨g, 0, none⟩), .int .i64 d] w (RoomP g w) := by
  induction t using T.ind with
  | h k nn s A cap l r ih =>
    intro n d g w lo hi ht hg hb hn0 hn1 hd0 hd1
    rw [T.val_mk]
    have hlen := (T.in_mk.1 ht).1.len1
    have hgw := hb.lt
    have c0 := hb.cell 0
    have z0 := hb.frozen 0
    simp only [List.getElem?_toArray, List.getElem?_cons_zero] at c0
    have hw : IntKind.i64.wrap (n - 1) = n - 1 := IntWalk.i64_in _ (by omega)
    have hwd : IntKind.i64.wrap (d - 1) = d - 1 := IntWalk.i64_in _ (by omega)
    have hb1 := hb.set_ 0 (.int .i64 (n - 1))
    simp only [List.setIfInBounds_toArray, List.set_cons_zero] at hb1
    have hb2 := hb1.alloc (.cells #[.int .u8 k, .int .i64 nn, .string s, .slice A l.length cap, .int .i64 r] 28)
    have hK2 := Blk.new' (w.setCell ⟨g, 0, none⟩ (.int .i64 (n - 1))) 28 #[.int .u8 k, .int .i64 nn, .string s, .slice A l.length cap, .int .i64 r] (g := w.heap.size) (by simp)
    have f0 : Fr (fun i => i = g) w ((w.setCell ⟨g, 0, none⟩ (.int .i64 (n - 1))).alloc (.cells #[.int .u8 k, .int .i64 nn, .string s, .slice A l.length cap, .int .i64 r] 28)) := ((Fr.refl (fun i => i = g) w).set (fun _ => rfl) _).alloc _
    have HF0 := hide f0
    have HB2 := hide hb2
    have HK2 := hide hK2
    have HT := hide ht
    have HIH := hide ih
    clear ih ht hb hb1 hK2 f0 hb2
    go_enter Tryz.func136, Tryz.ntmps136
    go_upto_region 2 with (fail)
    generalize hW0 : World.alloc (World.setCell w _ _) _ = W0 at *
    clear c0 z0
    have x0 : W0.cell? ⟨g, 0, none⟩ = some (.int .i64 (n - 1)) := HB2.out.cell 0
    have xq := HB2.out.lt
    obtain ⟨k0, k1, k2, k3, k4, kf⟩ := HK2.out.cells5
    have kq := HK2.out.lt
    by_cases h1 : n - 1 < 0
    · have e1 : decide (n - 1 < 0) = true := by simpa using h1
      clear h1
      go_wp2
      go_ret
      exact ⟨false, n - 1, rfl, nofun, by omega, HB2.out, HF0.out⟩
    have e1 : decide (n - 1 < 0) = false := by simpa using h1
    by_cases h2 : d < 0
    · have e2 : decide (d < 0) = true := by simpa using h2
      clear h1 h2
      go_wp2
      go_ret
      exact ⟨false, n - 1, rfl, nofun, by omega, HB2.out, HF0.out⟩
    have e2 : decide (d < 0) = false := by simpa using h2
    by_cases h3 : 600 < (l.length : Int)
    · have e3 : decide (600 < (l.length : Int)) = true := by simpa using h3
      clear h1 h2 h3
      go_wp2
      go_ret
      exact ⟨false, n - 1, rfl, nofun, by omega, HB2.out, HF0.out⟩
    have e3 : decide (600 < (l.length : Int)) = false := by simpa using h3
    go_upto_region 4 with (fail)
    clear x0 xq k0 k1 k2 k3 k4 kf kq
    go_wp2_with fail
    go_loopw [7] (fun i wr => ∃ (j : Nat) (n1 : Int), j ≤ l.length ∧ i = .int .i64 (j : Int) ∧ 0 ≤ n1 ∧ n1 ≤ 600 ∧ Blk wr g 3 #[.int .i64 n1] ∧ Fr (fun i => i = g) W0 wr) (fun i _ => l.length - (intOf i).toNat)
    case atStart => exact ⟨0, n - 1, Nat.zero_le _, rfl, by omega, by omega, HB2.out, Fr.refl _ _⟩
    case round =>
      obtain ⟨j, n1, hj, rfl, hx0, hx1, hbr, fr⟩ := hrel
      have hKr := HK2.out.fr fr (fun h => by have h' : w.heap.size = g := h; omega)
      obtain ⟨d0, d1, d2, d3, d4, df⟩ := hKr.cells5
      have dq := hKr.lt
      have frw := HF0.out.trans fr
      by_cases hlt : j < l.length
      · obtain ⟨b, o, k1, n2, s1, A1, cap1, l1, r1, rfl, hb0, hb1', hxx, hin, e0, e1', e2', e3', e4⟩ := T.elem (HT.out.fr frw (by omega) (fun i _ h1 h => by have h' : i = g := h; omega)) hlt
        have hc := HIH.out l[j] (List.getElem_mem hlt) n1 (d - 1) g wr lo hi (by rw [hxx]; exact hin) hg hbr hx0 hx1 (by omega) (by omega)
        rw [hxx, T.val_mk] at hc
        have g0 : b < wr.heap.size := by have := frw.size; omega
        have HC := hide hc
        have HF := hide fr
        clear hc fr frw hxx hin HIH hbr hKr hx0 hx1 h1 h2 h3 hn0 hn1
        go_wp2_with fail
        refine HC.out.mono ?_
        rintro e w2 ⟨q, n3, rfl, hq, hn3, hb3, f3⟩
        have HB3 := hide hb3
        have HF3 := hide (HF.out.trans f3)
        have HQ := hide hq
        clear hb3 f3 hq
        cases q with
        | true =>
          go_wp2
          go_roundw
          case rel => exact ⟨j + 1, n3, hlt, by go_num, HQ.out trivial, hn3, HB3.out, HF3.out⟩
          case measure => simp [intOf]; omega
        | false =>
          go_wp2
          go_ret
          exact ⟨false, n3, rfl, nofun, hn3, HB3.out, HF0.out.trans HF3.out⟩
      · obtain rfl : l.length = j := by omega
        have HW := hide frw
        have HBR := hide hbr
        clear frw fr hbr hKr HIH
        go_wp2
        go_ret
        exact ⟨true, n1, rfl, fun _ => hx0, hx1, HBR.out, HW.out⟩

set_option maxRecDepth 100000 in
theorem ffits_any (t : T) (w : World) (lo hi : Nat) (ht : t.In w lo hi) (hh : hi ≤ w.heap.size) : Calls Tryz.prog 67 #[t.val] w fun e w' => (∃ q : Bool, e = .returned (.bool q)) ∧ Fr No w w' := by
  obtain ⟨k, n, s, A, cap, l, r⟩ := t
  have f0 := ((Fr.refl No w).alloc (.cells #[.int .u8 k, .int .i64 n, .string s, .slice A l.length cap, .int .i64 r] 28)).alloc (.cells #[.int .i64 600] 3)
  have hb := Blk.new' (w.alloc (.cells #[.int .u8 k, .int .i64 n, .string s, .slice A l.length cap, .int .i64 r] 28)) 3 #[.int .i64 600] (g := w.heap.size + 1) (by simp)
  have hv := (Blk.new w 28 #[.int .u8 k, .int .i64 n, .string s, .slice A l.length cap, .int .i64 r]).alloc (.cells #[.int .i64 600] 3)
  have hR := froom_any (T.mk k n s A cap l r) 600 40 (w.heap.size + 1) _ lo hi (ht.no f0 hh) (by omega) hb (by omega) (by omega) (by omega) (by omega)
  rw [T.val_mk] at *
  obtain ⟨k0, k1, k2, k3, k4, kf⟩ := hv.cells5
  have kq := hv.lt
  have HR := hide hR
  have HF := hide f0
  clear hR f0 ht hb hv
  go_enter Tryz.func67, Tryz.ntmps67
  go_wp2_with fail
  refine HR.out.mono ?_
  rintro e w2 ⟨q, n', rfl, -, -, -, f2⟩
  have HF2 := hide f2
  clear f2
  go_wp2
  go_ret
  exact ⟨⟨_, rfl⟩, HF.out.trans' HF2.out fun i hi h => by have h' : i = w.heap.size + 1 := h; omega⟩

end Go.Proofs.YtlejelbefmkakaaGreat

/- A world that is not there: what layer 11 answers of it. -/
namespace Go.Proofs.YtlejelbefmkakaaGreat
open Go.RowKit

theorem fthere_no (v : Value) (w : World) : Calls Tryz.prog 139 #[.pointer none, v] w fun e w' => e = .returned (.int .i64 1) ∧ w' = w := by
  go_enter Tryz.func139, Tryz.ntmps139
  go_wp2
  go_ret
  exact ⟨rfl, rfl⟩

theorem ask_no (u v : Value) (w : World) : Calls Tryz.prog 137 #[.pointer none, u, v] w fun e w' => e = .returned (.int .i64 1) ∧ w' = w := by
  have HT := hide (fthere_no (.slice none 0 0) w)
  go_enter Tryz.func137, Tryz.ntmps137
  go_wp2_with fail
  refine HT.out.mono ?_
  rintro e w' ⟨rfl, rfl⟩
  go_wp2
  go_ret
  exact ⟨rfl, rfl⟩

theorem Narrow_no (r s : Int) (w : World) : Calls Tryz.prog 69 #[.pointer none, .int .i64 r, .int .u8 s] w fun e w' => e = .returned (.tuple #[.int .i64 0, .int .i64 1]) ∧ Fr No w w' := by
  have HT := hide ask_no
  go_enter Tryz.func69, Tryz.ntmps69
  go_wp2_with fail
  refine (HT.out _ _ _).mono ?_
  rintro e w' ⟨rfl, rfl⟩
  go_wp2
  refine bodyPost_ret (v := .tuple #[.int .i64 0, .int .i64 1]) (by simp [results, Tryz.results69, go_sem, *]) rfl ⟨rfl, ?_⟩
  repeat (first | with_reducible exact Fr.refl No _ | with_reducible refine Fr.alloc ?_ _ | with_reducible refine Fr.setNew ?_ (by first | (simp; done) | (simp; omega)) _)

theorem Stack_no (r : Int) (v : Value) (w : World) : Calls Tryz.prog 70 #[.pointer none, .int .i64 r, v] w fun e w' => e = .returned (.tuple #[.int .i64 0, .int .i64 1]) ∧ Fr No w w' := by
  have HT := hide ask_no
  go_enter Tryz.func70, Tryz.ntmps70
  go_wp2_with fail
  refine (HT.out _ _ _).mono ?_
  rintro e w' ⟨rfl, rfl⟩
  go_wp2
  refine bodyPost_ret (v := .tuple #[.int .i64 0, .int .i64 1]) (by simp [results, Tryz.results70, go_sem, *]) rfl ⟨rfl, ?_⟩
  repeat (first | with_reducible exact Fr.refl No _ | with_reducible refine Fr.alloc ?_ _ | with_reducible refine Fr.setNew ?_ (by first | (simp; done) | (simp; omega)) _)

theorem Root_no (r : Int) (w : World) : Calls Tryz.prog 71 #[.pointer none, .int .i64 r] w fun e w' => e = .returned (.tuple #[.int .i64 0, .int .i64 1]) ∧ Fr No w w' := by
  have HT := hide fthere_no
  go_enter Tryz.func71, Tryz.ntmps71
  go_wp2_with fail
  refine (HT.out _ _).mono ?_
  rintro e w' ⟨rfl, rfl⟩
  go_wp2
  refine bodyPost_ret (v := .tuple #[.int .i64 0, .int .i64 1]) (by simp [results, Tryz.results71, go_sem, *]) rfl ⟨rfl, ?_⟩
  repeat (first | with_reducible exact Fr.refl No _ | with_reducible refine Fr.alloc ?_ _ | with_reducible refine Fr.setNew ?_ (by first | (simp; done) | (simp; omega)) _)

theorem Meet_no (r q : Int) (w : World) : Calls Tryz.prog 72 #[.pointer none, .int .i64 r, .int .i64 q] w fun e w' => e = .returned (.tuple #[.int .i64 0, .int .i64 1]) ∧ Fr No w w' := by
  have HT := hide fthere_no
  go_enter Tryz.func72, Tryz.ntmps72
  go_wp2_with fail
  refine (HT.out _ _).mono ?_
  rintro e w' ⟨rfl, rfl⟩
  go_wp2
  refine bodyPost_ret (v := .tuple #[.int .i64 0, .int .i64 1]) (by simp [results, Tryz.results72, go_sem, *]) rfl ⟨rfl, ?_⟩
  repeat (first | with_reducible exact Fr.refl No _ | with_reducible refine Fr.alloc ?_ _ | with_reducible refine Fr.setNew ?_ (by first | (simp; done) | (simp; omega)) _)

theorem Find_no (r s : Int) (w : World) : Calls Tryz.prog 73 #[.pointer none, .int .i64 r, .int .u8 s] w fun e w' => e = .returned (.tuple #[.int .i64 0, .bool false]) ∧ Fr No w w' := by
  have HT := hide ask_no
  go_enter Tryz.func73, Tryz.ntmps73
  go_wp2_with fail
  refine (HT.out _ _ _).mono ?_
  rintro e w' ⟨rfl, rfl⟩
  go_wp2
  refine bodyPost_ret (v := .tuple #[.int .i64 0, .bool false]) (by simp [results, Tryz.results73, go_sem, *]) rfl ⟨rfl, ?_⟩
  repeat (first | with_reducible exact Fr.refl No _ | with_reducible refine Fr.alloc ?_ _ | with_reducible refine Fr.setNew ?_ (by first | (simp; done) | (simp; omega)) _)

theorem Less_no (r q : Int) (w : World) : Calls Tryz.prog 74 #[.pointer none, .int .i64 r, .int .i64 q] w fun e w' => e = .returned (.tuple #[.bool false, .int .i64 1]) ∧ Fr No w w' := by
  have HT := hide fthere_no
  go_enter Tryz.func74, Tryz.ntmps74
  go_wp2_with fail
  refine (HT.out _ _).mono ?_
  rintro e w' ⟨rfl, rfl⟩
  go_wp2
  refine bodyPost_ret (v := .tuple #[.bool false, .int .i64 1]) (by simp [results, Tryz.results74, go_sem, *]) rfl ⟨rfl, ?_⟩
  repeat (first | with_reducible exact Fr.refl No _ | with_reducible refine Fr.alloc ?_ _ | with_reducible refine Fr.setNew ?_ (by first | (simp; done) | (simp; omega)) _)

theorem fOf_no (r : Int) (w : World) : Calls Tryz.prog 75 #[.pointer none, .int .i64 r] w fun e w' => e = .returned (.tuple #[.slice none 0 0, .int .i64 1]) ∧ Fr No w w' := by
  have HT := hide fthere_no
  go_enter Tryz.func75, Tryz.ntmps75
  go_wp2_with fail
  refine (HT.out _ _).mono ?_
  rintro e w' ⟨rfl, rfl⟩
  go_wp2
  refine bodyPost_ret (v := .tuple #[.slice none 0 0, .int .i64 1]) (by simp [results, Tryz.results75, go_sem, *]) rfl ⟨rfl, ?_⟩
  repeat (first | with_reducible exact Fr.refl No _ | with_reducible refine Fr.alloc ?_ _ | with_reducible refine Fr.setNew ?_ (by first | (simp; done) | (simp; omega)) _)

set_option maxRecDepth 100000 in
theorem Only_no (k n : Int) (t : ByteArray) (A : Option Addr) (len cap : Nat) (r0 s : Int) (w : World) : Calls Tryz.prog 76 #[.pointer none, .agg #[.int .u8 k, .int .i64 n, .string t, .slice A len cap, .int .i64 r0], .int .u8 s] w fun e w' => e = .returned (.tuple #[.agg #[.int .u8 0, .int .i64 0, .string ⟨#[]⟩, .slice none 0 0, .int .i64 0], .int .i64 1]) ∧ Fr No w w' := by
  have HT := hide ask_no
  go_enter Tryz.func76, Tryz.ntmps76
  go_wp2_with fail
  refine (HT.out _ _ _).mono ?_
  rintro e w' ⟨rfl, rfl⟩
  go_wp2
  refine bodyPost_ret (v := .tuple #[.agg #[.int .u8 0, .int .i64 0, .string ⟨#[]⟩, .slice none 0 0, .int .i64 0], .int .i64 1]) (by simp [results, Tryz.results76, go_sem, *]) rfl ⟨rfl, ?_⟩
  repeat (first | with_reducible exact Fr.refl No _ | with_reducible refine Fr.alloc ?_ _ | with_reducible refine Fr.setNew ?_ (by first | (simp; done) | (simp; omega)) _)

end Go.Proofs.YtlejelbefmkakaaGreat

/- Trees of any type in memory: cells, and where the lists of them lie; what came in is one. No program in sight. -/
namespace Go.Proofs.YtlejelbefmkakaaGreat
open Go.Joins Go.ChangeShapes Go.WideShapes Go.RowKit Go.Deep

/-- A value of any type in memory: its cells, and for each of its slices where it lies and what is in it. -/
inductive G where
  | mk (c : List Value) (subs : List (Option Addr × List G))

def G.c : G → List Value | .mk c _ => c
def G.subs : G → List (Option Addr × List G) | .mk _ s => s

theorem G.sub_lt {c : List Value} {subs : List (Option Addr × List G)} {A : Option Addr} {l : List G} {x : G} (h : (A, l) ∈ subs) (hx : x ∈ l) : SizeOf.sizeOf x < SizeOf.sizeOf (G.mk c subs) := by
  have h1 := List.sizeOf_lt_of_mem h
  have h2 := List.sizeOf_lt_of_mem hx
  simp at h1 ⊢
  omega

theorem G.ind {p : G → Prop} (h : ∀ c subs, (∀ A l, (A, l) ∈ subs → ∀ x ∈ l, p x) → p (.mk c subs)) (g : G) : p g :=
  match g with
  | .mk c subs => h c subs fun A l hl x hx => G.ind h x
termination_by g
decreasing_by exact G.sub_lt hl hx

/-- A tree lies in the blocks from lo on, below hi. -/
def G.In (w : World) (lo hi : Nat) : G → Prop
  | .mk _ subs => ∀ A l, (hs : (A, l) ∈ subs) → (l ≠ [] → ∃ b o, A = some ⟨b, o, none⟩ ∧ lo ≤ b ∧ b < hi ∧ ∀ i x, l[i]? = some x → ∀ j u, x.c[j]? = some u → w.cell? ⟨b, o + i * x.c.length + j, none⟩ = some u) ∧ ∀ x ∈ l, G.In w lo hi x
termination_by g => g
decreasing_by
  have h1 := List.sizeOf_lt_of_mem hs
  have h2 := List.sizeOf_lt_of_mem ‹x ∈ l›
  simp at h1 ⊢
  omega

theorem G.in_mk {w : World} {lo hi : Nat} {c : List Value} {subs : List (Option Addr × List G)} :
    (G.mk c subs).In w lo hi ↔ ∀ A l, (A, l) ∈ subs → (l ≠ [] → ∃ b o, A = some ⟨b, o, none⟩ ∧ lo ≤ b ∧ b < hi ∧ ∀ i x, l[i]? = some x → ∀ j u, x.c[j]? = some u → w.cell? ⟨b, o + i * x.c.length + j, none⟩ = some u) ∧ ∀ x ∈ l, G.In w lo hi x := by
  rw [G.In]

/-- What lies in a range of blocks lies there in every world that has these blocks. -/
theorem G.In.keep {w w' : World} {lo hi : Nat} (hk : ∀ b o, lo ≤ b → b < hi → w'.cell? ⟨b, o, none⟩ = w.cell? ⟨b, o, none⟩) (g : G) : g.In w lo hi → g.In w' lo hi := by
  induction g using G.ind with
  | h c subs ih =>
    rw [G.in_mk, G.in_mk]
    intro h A l hs
    obtain ⟨h1, h2⟩ := h A l hs
    refine ⟨fun hl => ?_, fun x hx => ih A l hs x hx (h2 x hx)⟩
    obtain ⟨b, o, rfl, hb0, hb1, hc⟩ := h1 hl
    exact ⟨b, o, rfl, hb0, hb1, fun i x hx j u hu => (hk b _ hb0 hb1).trans (hc i x hx j u hu)⟩

theorem G.In.more {w : World} {lo hi lo' hi' : Nat} (hl : lo' ≤ lo) (hh : hi ≤ hi') (g : G) : g.In w lo hi → g.In w lo' hi' := by
  induction g using G.ind with
  | h c subs ih =>
    rw [G.in_mk, G.in_mk]
    intro h A l hs
    obtain ⟨h1, h2⟩ := h A l hs
    refine ⟨fun hl => ?_, fun x hx => ih A l hs x hx (h2 x hx)⟩
    obtain ⟨b, o, rfl, hb0, hb1, hc⟩ := h1 hl
    exact ⟨b, o, rfl, by omega, by omega, hc⟩

section
variable {S : Nat → Prop} {a w : World} {lo hi : Nat} {g : G}

theorem G.In.fr (h : g.In a lo hi) (hf : Fr S a w) (hh : hi ≤ a.heap.size) (hs : ∀ i, lo ≤ i → i < hi → ¬ S i) : g.In w lo hi :=
  G.In.keep (fun b o h0 h1 => hf.cell (by omega) (hs b h0 h1)) g h

theorem G.In.no (h : g.In a lo hi) (hf : Fr No a w) (hh : hi ≤ a.heap.size) : g.In w lo hi := h.fr hf hh fun _ _ _ h => h
end

/-! ### Shapes -/

/-- What a cell of a type is. -/
inductive Fd where
  | int (k : IntKind)
  | bool
  | str
  | sl (e : TypeId) (size : Nat)

/-- Cells of a shape; what lists there are. -/
def FitsF : List Fd → List Value → List (Option Addr × List G) → Prop
  | [], c, s => c = [] ∧ s = []
  | .int k :: fs, v :: c, s => (∃ n, v = .int k n ∧ (Lit.int k n).wf = true) ∧ FitsF fs c s
  | .bool :: fs, v :: c, s => (∃ b, v = .bool b) ∧ FitsF fs c s
  | .str :: fs, v :: c, s => (∃ b : ByteArray, v = .string b ∧ b.size ≤ 140737488351232) ∧ FitsF fs c s
  | .sl _ size :: fs, v :: c, x :: s => (∃ cap, v = .slice x.1 x.2.length cap ∧ x.2.length ≤ cap ∧ x.2.length * size ≤ 140737488351232) ∧ FitsF fs c s
  | _, _, _ => False

/-- The types of the lists of a shape. -/
def sls : List Fd → List TypeId
  | [] => []
  | .sl e _ :: fs => e :: sls fs
  | .int _ :: fs => sls fs
  | .bool :: fs => sls fs
  | .str :: fs => sls fs

theorem sls_append : ∀ (f1 f2 : List Fd), sls (f1 ++ f2) = sls f1 ++ sls f2
  | [], _ => rfl
  | .sl _ _ :: fs, f2 => by simp [sls, sls_append fs f2]
  | .int _ :: fs, f2 => by simp [sls, sls_append fs f2]
  | .bool :: fs, f2 => by simp [sls, sls_append fs f2]
  | .str :: fs, f2 => by simp [sls, sls_append fs f2]

theorem FitsF.subs : ∀ {fs : List Fd} {c : List Value} {s : List (Option Addr × List G)}, FitsF fs c s → c.length = fs.length ∧ s.length = (sls fs).length
  | [], c, s, h => by obtain ⟨rfl, rfl⟩ := h; simp [sls]
  | .int k :: fs, [], s, h => h.elim
  | .int k :: fs, v :: c, s, h => by have := FitsF.subs h.2; simp [sls, this]
  | .bool :: fs, [], s, h => h.elim
  | .bool :: fs, v :: c, s, h => by have := FitsF.subs h.2; simp [sls, this]
  | .str :: fs, [], s, h => h.elim
  | .str :: fs, v :: c, s, h => by have := FitsF.subs h.2; simp [sls, this]
  | .sl e z :: fs, [], s, h => h.elim
  | .sl e z :: fs, v :: c, [], h => h.elim
  | .sl e z :: fs, v :: c, x :: s, h => by have := FitsF.subs h.2; simp [sls, this]

theorem FitsF.append : ∀ {f1 f2 : List Fd} {c1 c2 : List Value} {s1 s2 : List (Option Addr × List G)}, FitsF f1 c1 s1 → FitsF f2 c2 s2 → FitsF (f1 ++ f2) (c1 ++ c2) (s1 ++ s2)
  | [], _, c, _, s, _, h, h2 => by obtain ⟨rfl, rfl⟩ := h; exact h2
  | .int k :: fs, _, [], _, s, _, h, _ => h.elim
  | .int k :: fs, _, v :: c, _, s, _, h, h2 => ⟨h.1, FitsF.append h.2 h2⟩
  | .bool :: fs, _, [], _, s, _, h, _ => h.elim
  | .bool :: fs, _, v :: c, _, s, _, h, h2 => ⟨h.1, FitsF.append h.2 h2⟩
  | .str :: fs, _, [], _, s, _, h, _ => h.elim
  | .str :: fs, _, v :: c, _, s, _, h, h2 => ⟨h.1, FitsF.append h.2 h2⟩
  | .sl e z :: fs, _, [], _, s, _, h, _ => h.elim
  | .sl e z :: fs, _, v :: c, _, [], _, h, _ => h.elim
  | .sl e z :: fs, _, v :: c, _, x :: s, _, h, h2 => ⟨h.1, FitsF.append h.2 h2⟩

/-- A tree of a type, the shapes of the types being given. -/
inductive HasTy (flat : TypeId → List Fd) : TypeId → G → Prop
  | mk (t : TypeId) (c : List Value) (subs : List (Option Addr × List G)) (h : FitsF (flat t) c subs) (hk : ∀ (i : Nat) (e : TypeId) (A : Option Addr) (l : List G) (x : G), (sls (flat t))[i]? = some e → subs[i]? = some (A, l) → x ∈ l → HasTy flat e x) : HasTy flat t (.mk c subs)

/-- The shapes of a program's types. -/
def flatFs (rec : TypeId → Option (List Fd)) (P : Program) : Nat → List Field → Option (List Fd)
  | _, [] => some []
  | o, f :: fs => match rec f.type with
    | none => none
    | some fl => if f.offset = o ∧ P.cellsOf f.type = fl.length then (flatFs rec P (o + fl.length) fs).map (fl ++ ·) else none

def flatOf (P : Program) : Nat → TypeId → Option (List Fd)
  | 0, _ => none
  | n + 1, t => match P.underlying t with
    | some (.int k) => some [.int k]
    | some .bool => some [.bool]
    | some .string => some [.str]
    | some (.slice e) => some [.sl e (P.bytesOf e)]
    | some (.struct fs) => match flatFs (flatOf P n) P 0 fs.toList with
      | none => none
      | some fl => if P.cellsOf t = fl.length then some fl else none
    | _ => none

section
variable {H : Type} {enc : TypeId × Value → H} {P : Program} {W : World} {flat : TypeId → List Fd}

/-- What cells of a shape lead to, as it came in. -/
def Opn (W : World) (flat : TypeId → List Fd) (fs : List Fd) (cs : List Value) : Prop :=
  ∃ subs, FitsF fs cs subs ∧ (∀ (i : Nat) (e : TypeId) (A : Option Addr) (l : List G) (x : G), (sls fs)[i]? = some e → subs[i]? = some (A, l) → x ∈ l → HasTy flat e x) ∧
    ∀ A l, (A, l) ∈ subs → (l ≠ [] → ∃ b o, A = some ⟨b, o, none⟩ ∧ 0 ≤ b ∧ b < W.heap.size ∧ ∀ i x, l[i]? = some x → ∀ j u, x.c[j]? = some u → W.cell? ⟨b, o + i * x.c.length + j, none⟩ = some u) ∧ ∀ x ∈ l, G.In W 0 W.heap.size x

theorem Opn.append {f1 f2 : List Fd} {c1 c2 : List Value} (h1 : Opn W flat f1 c1) (h2 : Opn W flat f2 c2) : Opn W flat (f1 ++ f2) (c1 ++ c2) := by
  obtain ⟨s1, a1, b1, d1⟩ := h1
  obtain ⟨s2, a2, b2, d2⟩ := h2
  refine ⟨s1 ++ s2, a1.append a2, fun i e A l x he hs hx => ?_, fun A l h => ?_⟩
  · rw [sls_append] at he
    have hl := a1.subs.2
    rcases Nat.lt_or_ge i s1.length with hi | hi
    · rw [List.getElem?_append_left hi] at hs
      rw [List.getElem?_append_left (by omega)] at he
      exact b1 i e A l x he hs hx
    · rw [List.getElem?_append_right hi] at hs
      rw [List.getElem?_append_right (by omega), ← hl] at he
      exact b2 _ e A l x he hs hx
  · rcases List.mem_append.1 h with h | h
    · exact d1 A l h
    · exact d2 A l h

theorem Opn.tree {t : TypeId} {cs : List Value} (h : Opn W flat (flat t) cs) : ∃ g : G, cs = g.c ∧ HasTy flat t g ∧ g.In W 0 W.heap.size := by
  obtain ⟨subs, a, b, d⟩ := h
  exact ⟨.mk cs subs, rfl, .mk t cs subs a b, G.in_mk.2 d⟩

theorem hasTy_length {t : TypeId} {g : G} (h : HasTy flat t g) : g.c.length = (flat t).length := by
  cases h with
  | mk t c subs h hk => exact h.subs.1

theorem weights_struct {t : TypeId} {fs : Array Field} (ht : P.underlying t = some (.struct fs)) (ds : List (DataW H)) : (DataW.agg ds).weights P t = DataW.weightsEach P (fs.toList.map (·.type)) ds := by
  rw [DataW.weights, ht]
theorem weights_slice {t e : TypeId} (ht : P.underlying t = some (.slice e)) (es rs : List (DataW H)) : (DataW.slice es rs).weights P t = (es.length + rs.length) * P.bytesOf e :: (DataW.weightsAll P e es ++ DataW.weightsAll P e rs) := by
  rw [DataW.weights, ht]

/-- The fields of a struct, one behind the other. -/
theorem open_fields {S : TypeId → Prop} {rec : TypeId → Option (List Fd)} {R : TypeId → List Value → DataW H × List MemPlace → Prop} (hrec : ∀ t fl cs x, rec t = some fl → (∀ e ∈ sls fl, S e) → R t cs x → (∀ m ∈ x.1.weights P t, m ≤ reachBytes) → Opn W flat fl cs) :
    ∀ (fs : List Field) (o : Nat) (fl : List Fd) (cs : List Value) (xs : List (DataW H × List MemPlace)), flatFs rec P o fs = some fl → (∀ e ∈ sls fl, S e) → xs.length = fs.length → cs.length = o + fl.length →
      (∀ (i : Nat) (f : Field) x, fs[i]? = some f → xs[i]? = some x → R f.type ((cs.drop f.offset).take (P.cellsOf f.type)) x) → (∀ m ∈ DataW.weightsEach P (fs.map (·.type)) (xs.map (·.1)), m ≤ reachBytes) →
      Opn W flat fl (cs.drop o)
  | [], o, fl, cs, xs, h, _, _, hl, _, _ => by
    simp only [flatFs, Option.some.injEq] at h
    subst h
    rw [List.drop_eq_nil_of_le (by simp at hl; omega)]
    exact ⟨[], ⟨rfl, rfl⟩, by simp, by simp⟩
  | f :: fs, o, fl, cs, [], h, _, hx, _, _, _ => by simp at hx
  | f :: fs, o, fl, cs, x :: xs, h, hsl, hx, hl, hR, hw => by
    unfold flatFs at h
    cases hf : rec f.type with
    | none => rw [hf] at h; cases h
    | some f1 =>
      rw [hf] at h
      simp only at h
      split at h
      · rename_i hc
        obtain ⟨rest, hr, rfl⟩ := Option.map_eq_some_iff.1 h
        have h0 := hR 0 f x rfl rfl
        rw [hc.1, hc.2] at h0
        have hw0 : ∀ m ∈ x.1.weights P f.type, m ≤ reachBytes := fun m hm => hw m (by
          rw [List.map_cons, List.map_cons, DataW.weightsEach]
          exact List.mem_append_left _ hm)
        have h1 := hrec f.type f1 _ x hf (fun e he => hsl e (by rw [sls_append]; exact List.mem_append_left _ he)) h0 hw0
        have h2 := open_fields hrec fs (o + f1.length) rest cs xs hr (fun e he => hsl e (by rw [sls_append]; exact List.mem_append_right _ he)) (by simpa using hx) (by simp at hl; omega) (fun i f' x' hf' hx' => hR (i + 1) f' x' (by simpa using hf') (by simpa using hx')) (fun m hm => hw m (by
          rw [List.map_cons, List.map_cons, DataW.weightsEach]
          exact List.mem_append_right _ hm))
        have e : cs.drop o = (cs.drop o).take f1.length ++ cs.drop (o + f1.length) := by
          rw [← List.drop_drop, List.take_append_drop]
        rw [e]
        exact h1.append h2
      · cases h

/-- Whatever came in of a type of a known shape is a tree. -/
theorem open_flat {S : TypeId → Prop} (hS : ∀ t, S t → flatOf P 6 t = some (flat t)) (hK : ∀ t, S t → ∀ e ∈ sls (flat t), S e) (hC : ∀ t, S t → P.cellsOf t = (flat t).length ∧ 0 < (flat t).length) (fuel : Nat) :
    ∀ (n : Nat) (t : TypeId) (fl : List Fd), (∀ e ∈ sls fl, S e) → flatOf P n t = some fl → ∀ (cs : List Value) (x : DataW H × List MemPlace), DataW.trod enc P W 0 (fun _ => true) true fuel t cs = some x → (∀ m ∈ x.1.weights P t, m ≤ reachBytes) → Opn W flat fl cs := by
  induction fuel using Nat.strongRecOn with
  | ind fuel IH =>
    intro n
    cases n with
    | zero => intro t fl _ h; cases h
    | succ n =>
      intro t fl hsl h cs x hx hw
      unfold flatOf at h
      split at h
      · rename_i k hu
        simp only [Option.some.injEq] at h
        subst h
        obtain ⟨m, rfl, rfl, hwf⟩ := DataW.trod_int hu hx
        exact ⟨[], ⟨⟨m, rfl, hwf⟩, rfl, rfl⟩, by simp, by simp⟩
      · rename_i hu
        simp only [Option.some.injEq] at h
        subst h
        obtain ⟨b, rfl, rfl⟩ := DataW.trod_bool hu hx
        exact ⟨[], ⟨⟨b, rfl⟩, rfl, rfl⟩, by simp, by simp⟩
      · rename_i hu
        simp only [Option.some.injEq] at h
        subst h
        obtain ⟨s, rfl, rfl, -⟩ := DataW.trod_string hu hx
        have hs : s.size ≤ 140737488351232 := by
          have := hw s.data.toList.length (by rw [DataW.weights]; simp)
          rw [reach_eq, Array.length_toList] at this
          exact this
        exact ⟨[], ⟨⟨s, rfl, hs⟩, rfl, rfl⟩, by simp, by simp⟩
      · rename_i e hu
        simp only [Option.some.injEq] at h
        subst h
        have hSe : S e := hsl e (by simp [sls])
        rcases DataW.trod_slice hu hx with ⟨rfl, rfl⟩ | ⟨a, len, cap, elems, rest, n', rfl, rfl, rfl, -, hcap, hmax, hel, hat, hsp, -⟩
        · refine ⟨[(none, [])], ⟨⟨0, rfl, Nat.le_refl _, by simp⟩, rfl, rfl⟩, fun i e' A l x _ hs hx' => ?_, fun A l h => ?_⟩
          · cases i with
            | zero => simp at hs; obtain ⟨rfl, rfl⟩ := hs; simp at hx'
            | succ i => simp at hs
          · simp at h; obtain ⟨rfl, rfl⟩ := h; exact ⟨fun h => absurd rfl h, by simp⟩
        · have hlen1 : len * P.bytesOf e ≤ 140737488351232 := by
            have := hw ((elems.length + rest.length) * P.bytesOf e) (by rw [weights_slice hu]; simp)
            rw [reach_eq, hel] at this
            exact Nat.le_trans (Nat.mul_le_mul_right _ (Nat.le_add_right _ _)) this
          have hce := hC e hSe
          have hone : ∀ i, i < len → ∃ g : G, (∀ j u, g.c[j]? = some u → W.cell? ((a.add (i * P.cellsOf e)).add j) = some u) ∧ HasTy flat e g ∧ g.In W 0 W.heap.size := by
            intro i hi
            have h1 := hat i hi
            have h2 : elems[i]? = some (elems[i]'(by omega)) := List.getElem?_eq_getElem (by omega)
            rw [h2] at h1
            obtain ⟨cs', hc, ht'⟩ := Option.bind_eq_some_iff.1 h1
            obtain ⟨g, rfl, hty, hin⟩ := Opn.tree (IH n' (by omega) 6 e (flat e) (hK e hSe) (hS e hSe) cs' _ ht' (fun m hm => hw m (by
              rw [weights_slice hu]
              refine List.mem_cons_of_mem _ (List.mem_append_left _ ?_)
              exact mem_weightsAll (List.mem_map_of_mem (List.getElem_mem _)) hm)))
            obtain ⟨-, hcl, hcell⟩ := World.cells?_some hc
            refine ⟨g, fun j u hu => ?_, hty, hin⟩
            have hj : j < g.c.length := (List.getElem?_eq_some_iff.1 hu).1
            rw [hcell j (by rw [hce.1, ← hasTy_length hty]; exact hj), hu]
          obtain ⟨l, hl, hq⟩ := choose_list len hone
          subst hl
          obtain ⟨b, o, sp⟩ := a
          refine ⟨[(some ⟨b, o, sp⟩, l)], ⟨⟨cap, rfl, hcap, hlen1⟩, rfl, rfl⟩, fun i e' A l' x he hs hx' => ?_, fun A l' h => ?_⟩
          · cases i with
            | zero =>
              simp [sls] at hs he
              obtain ⟨rfl, rfl⟩ := hs
              subst he
              obtain ⟨k, hk, rfl⟩ := List.mem_iff_getElem.1 hx'
              exact (hq k _ (List.getElem?_eq_getElem hk)).2.1
            | succ i => simp at hs
          · simp at h
            obtain ⟨rfl, rfl⟩ := h
            refine ⟨fun hne => ?_, fun x hx' => ?_⟩
            · have hlp : 0 < l'.length := List.length_pos_iff.2 hne
              obtain ⟨hc0, hty0, -⟩ := hq 0 _ (List.getElem?_eq_getElem hlp)
              have hcl0 : 0 < (l'[0]).c.length := by rw [hasTy_length hty0]; exact hce.2
              have hcc := hc0 0 _ (List.getElem?_eq_getElem hcl0)
              have hspot : sp = none := by simpa [Addr.add] using World.cell?_spot hcc
              subst hspot
              have hlt := cell_lt hcc
              refine ⟨b, o, rfl, Nat.zero_le _, by simpa [Addr.add] using hlt, fun i x hx j u hu => ?_⟩
              have hqi := hq i x hx
              have := hqi.1 j u hu
              rw [add_at, add_at, hce.1, ← hasTy_length hqi.2.1] at this
              exact this
            · obtain ⟨k, hk, rfl⟩ := List.mem_iff_getElem.1 hx'
              exact (hq k _ (List.getElem?_eq_getElem hk)).2.2
      · rename_i fs hu
        cases hff : flatFs (flatOf P n) P 0 fs.toList with
        | none => rw [hff] at h; cases h
        | some fl' =>
          rw [hff] at h
          simp only at h
          split at h
          · rename_i hcl
            simp only [Option.some.injEq] at h
            subst h
            obtain ⟨xs, n', rfl, rfl, hlen, hxs, hg⟩ := DataW.trod_struct hu hx
            have := open_fields (H := H) (P := P) (W := W) (flat := flat) (S := S) (rec := flatOf P n) (R := fun t cs x => DataW.trod enc P W 0 (fun _ => true) true n' t cs = some x)
              (fun t fl cs x h1 h5 h2 h3 => IH n' (by omega) n t fl h5 h1 cs x h2 h3)
              fs.toList 0 fl' cs xs hff hsl (by simpa using hxs) (by rw [hlen, hcl]; simp) (fun i f x hf hx' => by rw [hg i f (by simpa using hf)]; exact hx') (fun m hm => hw m (by rw [weights_struct hu]; exact hm))
            rw [List.drop_zero] at this
            exact this
          · cases h
      · cases h
end

end Go.Proofs.YtlejelbefmkakaaGreat

/- The shapes of this program's types: values, expressions, statements, names, things, worlds. -/
namespace Go.Proofs.YtlejelbefmkakaaGreat
open Go.Joins Go.ChangeShapes Go.WideShapes Go.RowKit Go.Deep

theorem FitsF.inv_int {k : IntKind} {fs : List Fd} {c : List Value} {s : List (Option Addr × List G)} (h : FitsF (.int k :: fs) c s) : ∃ n c', c = .int k n :: c' ∧ (Lit.int k n).wf = true ∧ FitsF fs c' s := by
  cases c with
  | nil => exact h.elim
  | cons v c => obtain ⟨⟨n, rfl, hw⟩, h2⟩ := h; exact ⟨n, c, rfl, hw, h2⟩
theorem FitsF.inv_bool {fs : List Fd} {c : List Value} {s : List (Option Addr × List G)} (h : FitsF (.bool :: fs) c s) : ∃ b c', c = .bool b :: c' ∧ FitsF fs c' s := by
  cases c with
  | nil => exact h.elim
  | cons v c => obtain ⟨⟨n, rfl⟩, h2⟩ := h; exact ⟨n, c, rfl, h2⟩
theorem FitsF.inv_str {fs : List Fd} {c : List Value} {s : List (Option Addr × List G)} (h : FitsF (.str :: fs) c s) : ∃ (b : ByteArray) (c' : List Value), c = .string b :: c' ∧ b.size ≤ 140737488351232 ∧ FitsF fs c' s := by
  cases c with
  | nil => exact h.elim
  | cons v c => obtain ⟨⟨n, rfl, hw⟩, h2⟩ := h; exact ⟨n, c, rfl, hw, h2⟩
theorem FitsF.inv_sl {e : TypeId} {z : Nat} {fs : List Fd} {c : List Value} {s : List (Option Addr × List G)} (h : FitsF (.sl e z :: fs) c s) :
    ∃ A l cap c' s', c = .slice A l.length cap :: c' ∧ s = (A, l) :: s' ∧ l.length ≤ cap ∧ l.length * z ≤ 140737488351232 ∧ FitsF fs c' s' := by
  cases c with
  | nil => exact h.elim
  | cons v c =>
    cases s with
    | nil => exact h.elim
    | cons x s =>
      obtain ⟨A, l⟩ := x
      obtain ⟨⟨cap, rfl, h1, h3⟩, h2⟩ := h
      exact ⟨A, l, cap, c, s, rfl, rfl, h1, h3, h2⟩
theorem FitsF.inv_nil {c : List Value} {s : List (Option Addr × List G)} (h : FitsF [] c s) : c = [] ∧ s = [] := h

/-- The shapes of this program's types. -/
def flat (t : TypeId) : List Fd :=
  if t = 28 then [.int .u8, .int .i64, .str, .sl 28 64, .int .i64] else
  if t = 308 then [.int .u8, .int .i64, .str, .sl 308 56] else
  if t = 311 then [.int .u8, .str, .str, .int .u8, .int .u8, .int .u8, .int .i64, .str, .sl 308 56, .int .u8, .int .i64, .str, .sl 308 56, .sl 311 256, .sl 311 256, .sl 311 256, .sl 9 16] else
  if t = 260 then [.str, .int .u8, .int .i64, .str, .sl 28 64, .int .i64] else
  if t = 138 then [.int .u8, .int .i64, .int .u8, .int .i64, .str, .sl 28 64, .int .i64, .sl 28 64, .int .i64, .int .i64, .int .i64, .int .i64, .int .u8, .bool, .sl 311 256, .sl 260 80] else
  if t = 140 then [.int .i64, .int .u8, .int .i64, .int .u8, .int .i64, .str, .sl 28 64, .int .i64, .sl 28 64, .int .i64, .int .i64, .int .i64, .int .i64, .int .u8, .bool, .sl 311 256, .sl 260 80] else
  if t = 71 then [.sl 23 8, .sl 3 8, .sl 140 200, .int .i64, .sl 3 8] else
  if t = 23 then [.int .i64] else
  if t = 3 then [.int .i64] else
  if t = 9 then [.str] else
  if t = 24 then [.int .u8] else
  []

theorem flat_val : flat 28 = [.int .u8, .int .i64, .str, .sl 28 64, .int .i64] := by simp [flat]
theorem flat_val_of : flatOf Tryz.prog 6 28 = some (flat 28) := by kernel_rfl
theorem flat_expr : flat 308 = [.int .u8, .int .i64, .str, .sl 308 56] := by simp [flat]
theorem flat_expr_of : flatOf Tryz.prog 6 308 = some (flat 308) := by kernel_rfl
theorem flat_stmt : flat 311 = [.int .u8, .str, .str, .int .u8, .int .u8, .int .u8, .int .i64, .str, .sl 308 56, .int .u8, .int .i64, .str, .sl 308 56, .sl 311 256, .sl 311 256, .sl 311 256, .sl 9 16] := by simp [flat]
theorem flat_stmt_of : flatOf Tryz.prog 6 311 = some (flat 311) := by kernel_rfl
theorem flat_name : flat 260 = [.str, .int .u8, .int .i64, .str, .sl 28 64, .int .i64] := by simp [flat]
theorem flat_name_of : flatOf Tryz.prog 6 260 = some (flat 260) := by kernel_rfl
theorem flat_what : flat 138 = [.int .u8, .int .i64, .int .u8, .int .i64, .str, .sl 28 64, .int .i64, .sl 28 64, .int .i64, .int .i64, .int .i64, .int .i64, .int .u8, .bool, .sl 311 256, .sl 260 80] := by simp [flat]
theorem flat_what_of : flatOf Tryz.prog 6 138 = some (flat 138) := by kernel_rfl
theorem flat_entry : flat 140 = [.int .i64, .int .u8, .int .i64, .int .u8, .int .i64, .str, .sl 28 64, .int .i64, .sl 28 64, .int .i64, .int .i64, .int .i64, .int .i64, .int .u8, .bool, .sl 311 256, .sl 260 80] := by simp [flat]
theorem flat_entry_of : flatOf Tryz.prog 6 140 = some (flat 140) := by kernel_rfl
theorem flat_world : flat 71 = [.sl 23 8, .sl 3 8, .sl 140 200, .int .i64, .sl 3 8] := by simp [flat]
theorem flat_world_of : flatOf Tryz.prog 6 71 = some (flat 71) := by kernel_rfl
theorem flat_side : flat 23 = [.int .i64] := by simp [flat]
theorem flat_side_of : flatOf Tryz.prog 6 23 = some (flat 23) := by kernel_rfl
theorem flat_int : flat 3 = [.int .i64] := by simp [flat]
theorem flat_int_of : flatOf Tryz.prog 6 3 = some (flat 3) := by kernel_rfl
theorem flat_str : flat 9 = [.str] := by simp [flat]
theorem flat_str_of : flatOf Tryz.prog 6 9 = some (flat 9) := by kernel_rfl
theorem flat_able : flat 24 = [.int .u8] := by simp [flat]
theorem flat_able_of : flatOf Tryz.prog 6 24 = some (flat 24) := by kernel_rfl

/-- The types that are met in lists. -/
def Met (t : TypeId) : Prop := t = 28 ∨ t = 308 ∨ t = 311 ∨ t = 260 ∨ t = 140 ∨ t = 23 ∨ t = 3 ∨ t = 9 ∨ t = 24

theorem met_flat (t : TypeId) (h : Met t) : flatOf Tryz.prog 6 t = some (flat t) := by
  rcases h with rfl | rfl | rfl | rfl | rfl | rfl | rfl | rfl | rfl
  · exact flat_val_of
  · exact flat_expr_of
  · exact flat_stmt_of
  · exact flat_name_of
  · exact flat_entry_of
  · exact flat_side_of
  · exact flat_int_of
  · exact flat_str_of
  · exact flat_able_of

theorem met_closed (t : TypeId) (h : Met t) : ∀ e ∈ sls (flat t), Met e := by
  rcases h with rfl | rfl | rfl | rfl | rfl | rfl | rfl | rfl | rfl
  · rw [flat_val]; simp [sls, Met]
  · rw [flat_expr]; simp [sls, Met]
  · rw [flat_stmt]; simp [sls, Met]
  · rw [flat_name]; simp [sls, Met]
  · rw [flat_entry]; simp [sls, Met]
  · rw [flat_side]; simp [sls]
  · rw [flat_int]; simp [sls]
  · rw [flat_str]; simp [sls]
  · rw [flat_able]; simp [sls]

theorem met_cells (t : TypeId) (h : Met t) : Tryz.prog.cellsOf t = (flat t).length ∧ 0 < (flat t).length := by
  rcases h with rfl | rfl | rfl | rfl | rfl | rfl | rfl | rfl | rfl
  · rw [flat_val]; exact ⟨by kernel_rfl, by decide⟩
  · rw [flat_expr]; exact ⟨by kernel_rfl, by decide⟩
  · rw [flat_stmt]; exact ⟨by kernel_rfl, by decide⟩
  · rw [flat_name]; exact ⟨by kernel_rfl, by decide⟩
  · rw [flat_entry]; exact ⟨by kernel_rfl, by decide⟩
  · rw [flat_side]; exact ⟨by kernel_rfl, by decide⟩
  · rw [flat_int]; exact ⟨by kernel_rfl, by decide⟩
  · rw [flat_str]; exact ⟨by kernel_rfl, by decide⟩
  · rw [flat_able]; exact ⟨by kernel_rfl, by decide⟩

/-- A tree of this program. -/
abbrev Ty (t : TypeId) (g : G) : Prop := HasTy flat t g

theorem Ty.kids {t : TypeId} {c : List Value} {subs : List (Option Addr × List G)} (h : Ty t (.mk c subs)) (i : Nat) (e : TypeId) {A : Option Addr} {l : List G} (he : (sls (flat t))[i]? = some e) (hs : subs[i]? = some (A, l)) : ∀ x ∈ l, Ty e x := by
  cases h with
  | mk _ _ _ h hk => exact fun x hx => hk i e A l x he hs hx

theorem Ty.fits {t : TypeId} {c : List Value} {subs : List (Option Addr × List G)} (h : Ty t (.mk c subs)) : FitsF (flat t) c subs := by
  cases h with
  | mk _ _ _ h hk => exact h

theorem ty_num {t : TypeId} {k : IntKind} (hf : flat t = [.int k]) {g : G} (h : Ty t g) : ∃ n, g = .mk [.int k n] [] ∧ (Lit.int k n).wf = true := by
  obtain ⟨c, s⟩ := g
  have h0 := h.fits
  rw [hf] at h0
  obtain ⟨n, c, rfl, hw, h0⟩ := h0.inv_int
  obtain ⟨rfl, rfl⟩ := h0.inv_nil
  exact ⟨n, rfl, hw⟩

theorem ty_str {g : G} (h : Ty 9 g) : ∃ s : ByteArray, g = .mk [.string s] [] ∧ s.size ≤ 140737488351232 := by
  obtain ⟨c, s⟩ := g
  have h0 := h.fits
  rw [flat_str] at h0
  obtain ⟨n, c, rfl, hw, h0⟩ := h0.inv_str
  obtain ⟨rfl, rfl⟩ := h0.inv_nil
  exact ⟨n, rfl, hw⟩

/-- The bounds of an expression's own fields. -/
structure FitE (k n : Int) (s : ByteArray) (len cap : Nat) : Prop where
  k0 : 0 ≤ k
  k1 : k < 256
  n0 : -9223372036854775808 ≤ n
  n1 : n ≤ 9223372036854775807
  s1 : s.size ≤ 140737488351232
  len1 : len * 56 ≤ 140737488351232
  cap1 : len ≤ cap

theorem ty_expr {g : G} (h : Ty 308 g) : ∃ k n s A cap l, g = .mk [.int .u8 k, .int .i64 n, .string s, .slice A l.length cap] [(A, l)] ∧ FitE k n s l.length cap ∧ ∀ x ∈ l, Ty 308 x := by
  obtain ⟨c, s⟩ := g
  have h0 := h.fits
  rw [flat_expr] at h0
  obtain ⟨k, c, rfl, w1, h0⟩ := h0.inv_int
  obtain ⟨n, c, rfl, w2, h0⟩ := h0.inv_int
  obtain ⟨b, c, rfl, w3, h0⟩ := h0.inv_str
  obtain ⟨A, l, cap, c, s, rfl, rfl, w4, w5, h0⟩ := h0.inv_sl
  obtain ⟨rfl, rfl⟩ := h0.inv_nil
  exact ⟨k, n, b, A, cap, l, rfl, ⟨(wf_u8 w1).1, (wf_u8 w1).2, (wf_i64 w2).1, (wf_i64 w2).2, w3, w5, w4⟩, h.kids 0 _ (by rw [flat_expr]; rfl) rfl⟩

/-- The bounds of a statement's own fields. -/
structure FitS (op : Int) (nm sc : ByteArray) (ab wh : Int) (th el co wi : Nat) (c1 c2 c3 c4 : Nat) : Prop where
  op0 : 0 ≤ op ∧ op < 256
  nm1 : nm.size ≤ 140737488351232
  sc1 : sc.size ≤ 140737488351232
  ab0 : 0 ≤ ab ∧ ab < 256
  wh0 : 0 ≤ wh ∧ wh < 256
  th1 : th * 256 ≤ 140737488351232 ∧ th ≤ c1
  el1 : el * 256 ≤ 140737488351232 ∧ el ≤ c2
  co1 : co * 256 ≤ 140737488351232 ∧ co ≤ c3
  wi1 : wi * 16 ≤ 140737488351232 ∧ wi ≤ c4

/-- A statement's cells. -/
def stC (op : Int) (nm sc : ByteArray) (ab wh : Int) (k1 n1 : Int) (s1 : ByteArray) (A1 : Option Addr) (l1 z1 : Nat) (k2 n2 : Int) (s2 : ByteArray) (A2 : Option Addr) (l2 z2 : Nat) (A3 : Option Addr) (l3 z3 : Nat) (A4 : Option Addr) (l4 z4 : Nat) (A5 : Option Addr) (l5 z5 : Nat) (A6 : Option Addr) (l6 z6 : Nat) : List Value :=
  [.int .u8 op, .string nm, .string sc, .int .u8 ab, .int .u8 wh, .int .u8 k1, .int .i64 n1, .string s1, .slice A1 l1 z1, .int .u8 k2, .int .i64 n2, .string s2, .slice A2 l2 z2, .slice A3 l3 z3, .slice A4 l4 z4, .slice A5 l5 z5, .slice A6 l6 z6]

theorem ty_stmt {g : G} (h : Ty 311 g) : ∃ op nm sc ab wh k1 n1 s1 A1 l1 z1 k2 n2 s2 A2 l2 z2 A3 l3 z3 A4 l4 z4 A5 l5 z5 A6 l6 z6,
    g = .mk (stC op nm sc ab wh k1 n1 s1 A1 (List.length l1) z1 k2 n2 s2 A2 (List.length l2) z2 A3 (List.length l3) z3 A4 (List.length l4) z4 A5 (List.length l5) z5 A6 (List.length l6) z6) [(A1, l1), (A2, l2), (A3, l3), (A4, l4), (A5, l5), (A6, l6)] ∧
    FitS op nm sc ab wh (List.length l3) (List.length l4) (List.length l5) (List.length l6) z3 z4 z5 z6 ∧ FitE k1 n1 s1 (List.length l1) z1 ∧ FitE k2 n2 s2 (List.length l2) z2 ∧
    (∀ x ∈ l1, Ty 308 x) ∧ (∀ x ∈ l2, Ty 308 x) ∧ (∀ x ∈ l3, Ty 311 x) ∧ (∀ x ∈ l4, Ty 311 x) ∧ (∀ x ∈ l5, Ty 311 x) ∧ ∀ x ∈ l6, Ty 9 x := by
  obtain ⟨c, s⟩ := g
  have h0 := h.fits
  rw [flat_stmt] at h0
  obtain ⟨op, c, rfl, w1, h0⟩ := h0.inv_int
  obtain ⟨nm, c, rfl, w2, h0⟩ := h0.inv_str
  obtain ⟨sc, c, rfl, w3, h0⟩ := h0.inv_str
  obtain ⟨ab, c, rfl, w4, h0⟩ := h0.inv_int
  obtain ⟨wh, c, rfl, w5, h0⟩ := h0.inv_int
  obtain ⟨k1, c, rfl, w6, h0⟩ := h0.inv_int
  obtain ⟨n1, c, rfl, w7, h0⟩ := h0.inv_int
  obtain ⟨s1, c, rfl, w8, h0⟩ := h0.inv_str
  obtain ⟨A1, l1, z1, c, s, rfl, rfl, w9, w10, h0⟩ := h0.inv_sl
  obtain ⟨k2, c, rfl, w11, h0⟩ := h0.inv_int
  obtain ⟨n2, c, rfl, w12, h0⟩ := h0.inv_int
  obtain ⟨s2, c, rfl, w13, h0⟩ := h0.inv_str
  obtain ⟨A2, l2, z2, c, s, rfl, rfl, w14, w15, h0⟩ := h0.inv_sl
  obtain ⟨A3, l3, z3, c, s, rfl, rfl, w16, w17, h0⟩ := h0.inv_sl
  obtain ⟨A4, l4, z4, c, s, rfl, rfl, w18, w19, h0⟩ := h0.inv_sl
  obtain ⟨A5, l5, z5, c, s, rfl, rfl, w20, w21, h0⟩ := h0.inv_sl
  obtain ⟨A6, l6, z6, c, s, rfl, rfl, w22, w23, h0⟩ := h0.inv_sl
  obtain ⟨rfl, rfl⟩ := h0.inv_nil
  have hs : sls (flat 311) = [308, 308, 311, 311, 311, 9] := by rw [flat_stmt]; rfl
  exact ⟨op, nm, sc, ab, wh, k1, n1, s1, A1, l1, z1, k2, n2, s2, A2, l2, z2, A3, l3, z3, A4, l4, z4, A5, l5, z5, A6, l6, z6, rfl,
    ⟨wf_u8 w1, w2, w3, wf_u8 w4, wf_u8 w5, ⟨w17, w16⟩, ⟨w19, w18⟩, ⟨w21, w20⟩, ⟨w23, w22⟩⟩, ⟨(wf_u8 w6).1, (wf_u8 w6).2, (wf_i64 w7).1, (wf_i64 w7).2, w8, w10, w9⟩, ⟨(wf_u8 w11).1, (wf_u8 w11).2, (wf_i64 w12).1, (wf_i64 w12).2, w13, w15, w14⟩,
    h.kids 0 _ (by rw [hs]; rfl) rfl, h.kids 1 _ (by rw [hs]; rfl) rfl, h.kids 2 _ (by rw [hs]; rfl) rfl, h.kids 3 _ (by rw [hs]; rfl) rfl, h.kids 4 _ (by rw [hs]; rfl) rfl, h.kids 5 _ (by rw [hs]; rfl) rfl⟩

/-- A value's tree. -/
theorem ty_val (g : G) : Ty 28 g → ∃ t : T, g.c = t.cells ∧ ∀ (w : World) (lo hi : Nat), g.In w lo hi → t.In w lo hi := by
  induction g using G.ind with
  | h c s ih =>
    intro h
    have h0 := h.fits
    rw [flat_val] at h0
    obtain ⟨k, c, rfl, w1, h0⟩ := h0.inv_int
    obtain ⟨n, c, rfl, w2, h0⟩ := h0.inv_int
    obtain ⟨b, c, rfl, w3, h0⟩ := h0.inv_str
    obtain ⟨A, l, cap, c, s, rfl, rfl, w4, w5, h0⟩ := h0.inv_sl
    obtain ⟨r, c, rfl, w6, h0⟩ := h0.inv_int
    obtain ⟨rfl, rfl⟩ := h0.inv_nil
    have hk := h.kids 0 _ (by rw [flat_val]; rfl) rfl
    have hone : ∀ i, i < l.length → ∃ t : T, ∃ x, l[i]? = some x ∧ x.c = t.cells ∧ ∀ (w : World) (lo hi : Nat), x.In w lo hi → t.In w lo hi := fun i hi => by
      have hm := List.getElem_mem hi
      obtain ⟨t, h1, h2⟩ := ih A l (by simp) l[i] hm (hk _ hm)
      exact ⟨t, l[i], List.getElem?_eq_getElem hi, h1, h2⟩
    obtain ⟨ts, hts, hq⟩ := choose_list l.length hone
    refine ⟨.mk k n b A cap ts r, by simp [G.c, T.cells, hts], fun w lo hi hin => ?_⟩
    rw [G.in_mk] at hin
    obtain ⟨h1, h2⟩ := hin A l (by simp)
    refine T.in_mk.2 ⟨⟨(wf_u8 w1).1, (wf_u8 w1).2, (wf_i64 w2).1, (wf_i64 w2).2, w3, by rw [hts]; exact w5, by rw [hts]; exact w4, (wf_i64 w6).1, (wf_i64 w6).2⟩, fun hne => ?_, fun x hx => ?_⟩
    · obtain ⟨b, o, rfl, hb0, hb1, hc⟩ := h1 (by rintro rfl; simp at hts; exact hne hts)
      refine ⟨b, o, rfl, hb0, hb1, fun i x hx j u hu => ?_⟩
      obtain ⟨y, hy, hc1, -⟩ := hq i x hx
      have := hc i y hy j u (by rw [hc1]; exact hu)
      rwa [hc1, T.cells_length] at this
    · obtain ⟨i, hi', rfl⟩ := List.mem_iff_getElem.1 hx
      obtain ⟨y, hy, -, hc2⟩ := hq i _ (List.getElem?_eq_getElem hi')
      exact hc2 w lo hi (h2 y (List.mem_of_getElem? hy))

/-- Some values' trees. -/
theorem ty_vals {l : List G} (h : ∀ x ∈ l, Ty 28 x) : ∃ ts : List T, ts.length = l.length ∧ ∀ (A : Option Addr) (c : List Value) (subs : List (Option Addr × List G)) (w : World) (lo hi : Nat), (A, l) ∈ subs → (G.mk c subs).In w lo hi → (ts ≠ [] → ∃ b o, A = some ⟨b, o, none⟩ ∧ lo ≤ b ∧ b < hi ∧ ∀ i x, ts[i]? = some x → Five w b (o + i * 5) x) ∧ ∀ x ∈ ts, x.In w lo hi := by
  have hone : ∀ i, i < l.length → ∃ t : T, ∃ x, l[i]? = some x ∧ x.c = t.cells ∧ ∀ (w : World) (lo hi : Nat), x.In w lo hi → t.In w lo hi := fun i hi => by
    have hm := List.getElem_mem hi
    obtain ⟨t, h1, h2⟩ := ty_val l[i] (h _ hm)
    exact ⟨t, l[i], List.getElem?_eq_getElem hi, h1, h2⟩
  obtain ⟨ts, hts, hq⟩ := choose_list l.length hone
  refine ⟨ts, hts, fun A c subs w lo hi hA hin => ?_⟩
  rw [G.in_mk] at hin
  obtain ⟨h1, h2⟩ := hin A l hA
  refine ⟨fun hne => ?_, fun x hx => ?_⟩
  · obtain ⟨b, o, rfl, hb0, hb1, hc⟩ := h1 (by rintro rfl; simp at hts; exact hne hts)
    refine ⟨b, o, rfl, hb0, hb1, fun i x hx j u hu => ?_⟩
    obtain ⟨y, hy, hc1, -⟩ := hq i x hx
    have := hc i y hy j u (by rw [hc1]; exact hu)
    rwa [hc1, T.cells_length] at this
  · obtain ⟨i, hi', rfl⟩ := List.mem_iff_getElem.1 hx
    obtain ⟨y, hy, -, hc2⟩ := hq i _ (List.getElem?_eq_getElem hi')
    exact hc2 w lo hi (h2 y (List.mem_of_getElem? hy))

end Go.Proofs.YtlejelbefmkakaaGreat

/- Trees of any type: their blocks; trees without addresses; rows of trees. -/
namespace Go.Proofs.YtlejelbefmkakaaGreat
open Go.Joins Go.ChangeShapes Go.WideShapes Go.RowKit Go.Deep

/-- A block of a tree. -/
inductive G.Has (b : Nat) : G → Prop
  | here {c : List Value} {subs : List (Option Addr × List G)} {a : Addr} {l : List G} (h : (some a, l) ∈ subs) (hl : l ≠ []) (ha : a.block = b) : G.Has b (.mk c subs)
  | sub {c : List Value} {subs : List (Option Addr × List G)} {A : Option Addr} {l : List G} {x : G} (h : (A, l) ∈ subs) (hx : x ∈ l) (hh : G.Has b x) : G.Has b (.mk c subs)

theorem G.In.has {w : World} {lo hi b : Nat} {g : G} (h : g.Has b) : g.In w lo hi → lo ≤ b ∧ b < hi := by
  induction h with
  | here h hl ha =>
    intro hin
    rw [G.in_mk] at hin
    obtain ⟨b, o, e, h0, h1, -⟩ := (hin _ _ h).1 hl
    injection e with e
    subst e ha
    exact ⟨h0, h1⟩
  | sub h hx hh ih =>
    intro hin
    rw [G.in_mk] at hin
    exact ih ((hin _ _ h).2 _ hx)

theorem G.In.keepH {w w' : World} {lo hi : Nat} (g : G) : g.In w lo hi → (∀ b, g.Has b → ∀ o, w'.cell? ⟨b, o, none⟩ = w.cell? ⟨b, o, none⟩) → g.In w' lo hi := by
  induction g using G.ind with
  | h c subs ih =>
    intro h hk
    rw [G.in_mk] at h ⊢
    intro A l hs
    obtain ⟨h1, h2⟩ := h A l hs
    refine ⟨fun hl => ?_, fun x hx => ih A l hs x hx (h2 x hx) fun b hb o => hk b (.sub hs hx hb) o⟩
    obtain ⟨b, o, rfl, hb0, hb1, hc⟩ := h1 hl
    exact ⟨b, o, rfl, hb0, hb1, fun i x hx j u hu => (hk b (.here hs hl rfl) _).trans (hc i x hx j u hu)⟩

theorem G.In.frH {S : Nat → Prop} {w w' : World} {lo hi : Nat} {g : G} (h : g.In w lo hi) (hf : Fr S w w') (hh : hi ≤ w.heap.size) (hs : ∀ b, g.Has b → ¬ S b) : g.In w' lo hi :=
  G.In.keepH g h fun b hb _ => hf.cell (by have := (G.In.has hb h).2; omega) (hs b hb)

/-- The blocks of a tree have the types of lists. -/
def G.Td (w : World) (g : G) : Prop := ∀ b, g.Has b → ∃ e cs, (e = 28 ∨ e = 308 ∨ e = 311 ∨ e = 260 ∨ e = 9) ∧ Blk w b e cs

theorem G.Td.fr {S : Nat → Prop} {w w' : World} {g : G} (h : g.Td w) (hf : Fr S w w') (hs : ∀ b, g.Has b → ¬ S b) : g.Td w' := fun b hb => by
  obtain ⟨e, cs, he, hb'⟩ := h b hb
  exact ⟨e, cs, he, hb'.fr hf (hs b hb)⟩

/-- A row of trees. -/
def G.row (A : Option Addr) (l : List G) : G := .mk [] [(A, l)]

theorem G.row_in {w : World} {lo hi : Nat} {A : Option Addr} {l : List G} : (G.row A l).In w lo hi ↔ (l ≠ [] → ∃ b o, A = some ⟨b, o, none⟩ ∧ lo ≤ b ∧ b < hi ∧ ∀ i x, l[i]? = some x → ∀ j u, x.c[j]? = some u → w.cell? ⟨b, o + i * x.c.length + j, none⟩ = some u) ∧ ∀ x ∈ l, x.In w lo hi := by
  unfold G.row
  rw [G.in_mk]
  constructor
  · intro h; exact h A l (by simp)
  · intro h A' l' hs
    simp at hs
    obtain ⟨rfl, rfl⟩ := hs
    exact h

theorem G.in_rows {w : World} {lo hi : Nat} {c : List Value} {subs : List (Option Addr × List G)} : (G.mk c subs).In w lo hi ↔ ∀ A l, (A, l) ∈ subs → (G.row A l).In w lo hi := by
  rw [G.in_mk]
  constructor
  · intro h A l hs; exact G.row_in.2 (h A l hs)
  · intro h A l hs; exact G.row_in.1 (h A l hs)

theorem G.row_has {b : Nat} {A : Option Addr} {l : List G} (h : (G.row A l).Has b) : (∃ a, A = some a ∧ l ≠ [] ∧ a.block = b) ∨ ∃ x ∈ l, x.Has b := by
  unfold G.row at h
  cases h with
  | here h hl ha =>
    simp at h
    obtain ⟨rfl, rfl⟩ := h
    exact .inl ⟨_, rfl, hl, ha⟩
  | sub h hx hh =>
    simp at h
    obtain ⟨rfl, rfl⟩ := h
    exact .inr ⟨_, hx, hh⟩

theorem G.mk_has {b : Nat} {c : List Value} {subs : List (Option Addr × List G)} : (G.mk c subs).Has b ↔ ∃ A l, (A, l) ∈ subs ∧ (G.row A l).Has b := by
  constructor
  · intro h
    cases h with
    | here h hl ha => exact ⟨_, _, h, .here (List.mem_singleton.2 rfl) hl ha⟩
    | sub h hx hh => exact ⟨_, _, h, .sub (List.mem_singleton.2 rfl) hx hh⟩
  · rintro ⟨A, l, h, hr⟩
    rcases G.row_has hr with ⟨a, rfl, hl, ha⟩ | ⟨x, hx, hh⟩
    · exact .here h hl ha
    · exact .sub h hx hh

/-- The cells of a row of trees. -/
def gCells (l : List G) : List Value := l.flatMap G.c

theorem gCells_length {l : List G} {n : Nat} (h : ∀ x ∈ l, x.c.length = n) : (gCells l).length = l.length * n := by
  induction l with
  | nil => simp [gCells]
  | cons x l ih =>
    have := ih fun y hy => h y (by simp [hy])
    simp only [gCells, List.flatMap_cons, List.length_append] at this ⊢
    rw [this, h x (by simp)]
    simp only [List.length_cons]
    rw [Nat.add_mul]
    omega

theorem gCells_get {n : Nat} : ∀ {l : List G}, (∀ x ∈ l, x.c.length = n) → ∀ {i j : Nat} {x : G} {u : Value}, l[i]? = some x → x.c[j]? = some u → (gCells l)[i * n + j]? = some u
  | [], _, i, j, x, u, h, _ => by simp at h
  | y :: l, hl, 0, j, x, u, h, hu => by
    simp at h; subst h
    simp only [gCells, List.flatMap_cons, Nat.zero_mul, Nat.zero_add]
    rw [List.getElem?_append_left (List.getElem?_eq_some_iff.1 hu).1]
    exact hu
  | y :: l, hl, i + 1, j, x, u, h, hu => by
    simp only [List.getElem?_cons_succ] at h
    have := gCells_get (fun z hz => hl z (by simp [hz])) h hu
    have hy := hl y (by simp)
    simp only [gCells, List.flatMap_cons] at this ⊢
    rw [List.getElem?_append_right (by rw [hy, Nat.add_mul]; omega), hy, show (i + 1) * n + j - n = i * n + j by rw [Nat.add_mul]; omega]
    exact this

theorem gCells_snoc (l : List G) (x : G) : gCells (l ++ [x]) = gCells l ++ x.c := by simp [gCells]

/-- One of a row. -/
theorem G.row_at {w : World} {lo hi : Nat} {A : Option Addr} {l : List G} (h : (G.row A l).In w lo hi) {i : Nat} (hi' : i < l.length) :
    ∃ b o, A = some ⟨b, o, none⟩ ∧ lo ≤ b ∧ b < hi ∧ l[i].In w lo hi ∧ ∀ j u, l[i].c[j]? = some u → w.cell? ⟨b, o + i * l[i].c.length + j, none⟩ = some u := by
  obtain ⟨h1, h2⟩ := G.row_in.1 h
  obtain ⟨b, o, rfl, h0, h3, hc⟩ := h1 (by rintro rfl; simp at hi')
  exact ⟨b, o, rfl, h0, h3, h2 _ (List.getElem_mem hi'), hc i _ (List.getElem?_eq_getElem hi')⟩

/-! ### Trees without addresses -/

def erV : Value → Value
  | .slice _ n _ => .slice none n 0
  | v => v

/-- A tree without addresses. -/
def G.er : G → G
  | .mk c subs => .mk (c.map erV) (subs.attach.map fun s => (none, s.1.2.attach.map fun x => G.er x.1))
termination_by g => g
decreasing_by
  have h1 := List.sizeOf_lt_of_mem s.2
  have h2 := List.sizeOf_lt_of_mem x.2
  obtain ⟨⟨A, l⟩, hs⟩ := s
  simp at h1 h2 ⊢
  omega

theorem G.er_mk (c : List Value) (subs : List (Option Addr × List G)) : (G.mk c subs).er = .mk (c.map erV) (subs.map fun s => (none, s.2.map G.er)) := by
  rw [G.er]
  congr 1
  have h : ∀ s : { s // s ∈ subs }, ((none : Option Addr), s.1.2.attach.map fun x => G.er x.1) = (none, s.1.2.map G.er) := fun s => by
    rw [List.attach_map_val (f := G.er)]
  rw [List.map_congr_left fun s _ => h s]
  exact List.attach_map_val (f := fun s : Option Addr × List G => ((none : Option Addr), s.2.map G.er))

end Go.Proofs.YtlejelbefmkakaaGreat

/- Things of whatever kind, with lists, code and names: how they lie in memory; what came in as one. -/
namespace Go.Proofs.YtlejelbefmkakaaGreat
open Go.Joins Go.ChangeShapes Go.WideShapes Go.RowKit Go.Deep

/-- A name in memory: its text, and what it stands for. -/
abbrev Nm := ByteArray × T

def nmCells (x : Nm) : List Value := .string x.1 :: x.2.cells

theorem nmCells_length (x : Nm) : (nmCells x).length = 6 := by simp [nmCells, T.cells_length]

/-- Some names lie one behind the other. -/
structure NmRow (w : World) (lo hi : Nat) (A : Option Addr) (cap : Nat) (l : List Nm) : Prop where
  len1 : l.length * 80 ≤ 140737488351232
  cap1 : l.length ≤ cap
  at_ : l ≠ [] → ∃ b o, A = some ⟨b, o, none⟩ ∧ lo ≤ b ∧ b < hi ∧ ∀ i x, l[i]? = some x → ∀ j u, (nmCells x)[j]? = some u → w.cell? ⟨b, o + i * 6 + j, none⟩ = some u
  inn : ∀ x ∈ l, x.1.size ≤ 140737488351232 ∧ x.2.In w lo hi

/-- Some statements lie one behind the other. -/
structure CdRow (w : World) (lo hi : Nat) (A : Option Addr) (cap : Nat) (l : List G) : Prop where
  len1 : l.length * 256 ≤ 140737488351232
  cap1 : l.length ≤ cap
  ty : ∀ x ∈ l, Ty 311 x
  inn : (G.row A l).In w lo hi

/-- A thing: all that it has. -/
structure Tg where
  kind : Int
  home : Int
  v : T
  VA : Option Addr
  vc : Nat
  vs : List T
  n : Int
  lost : Int
  ofr : Int
  byr : Int
  set : Int
  full : Bool
  CA : Option Addr
  cc : Nat
  code : List G
  NA : Option Addr
  nc : Nat
  names : List Nm

/-- A thing's sixteen cells, written out. -/
def c16 (kind home k n : Int) (s : ByteArray) (A : Option Addr) (len cap : Nat) (r : Int) (VA : Option Addr) (vl vc : Nat) (n1 lost ofr byr set : Int) (full : Bool) (CA : Option Addr) (cl cc : Nat) (NA : Option Addr) (nl nc : Nat) : Array Value :=
  #[.int .u8 kind, .int .i64 home, .int .u8 k, .int .i64 n, .string s, .slice A len cap, .int .i64 r, .slice VA vl vc, .int .i64 n1, .int .i64 lost, .int .i64 ofr, .int .i64 byr, .int .u8 set, .bool full, .slice CA cl cc, .slice NA nl nc]

def Tg.cells (x : Tg) : List Value := [.int .u8 x.kind, .int .i64 x.home] ++ (x.v.cells ++ [.slice x.VA x.vs.length x.vc, .int .i64 x.n, .int .i64 x.lost, .int .i64 x.ofr, .int .i64 x.byr, .int .u8 x.set, .bool x.full, .slice x.CA x.code.length x.cc, .slice x.NA x.names.length x.nc])

def Tg.val (x : Tg) : Value := .agg x.cells.toArray

/-- The bounds of a thing's own numbers. -/
structure Tg.Fit (x : Tg) : Prop where
  kind : 0 ≤ x.kind ∧ x.kind < 256
  home : -9223372036854775808 ≤ x.home ∧ x.home ≤ 9223372036854775807
  n : -9223372036854775808 ≤ x.n ∧ x.n ≤ 9223372036854775807
  lost : -9223372036854775808 ≤ x.lost ∧ x.lost ≤ 9223372036854775807
  ofr : -9223372036854775808 ≤ x.ofr ∧ x.ofr ≤ 9223372036854775807
  byr : -9223372036854775808 ≤ x.byr ∧ x.byr ≤ 9223372036854775807
  set : 0 ≤ x.set ∧ x.set < 256

/-- A thing's lists lie in the blocks from lo on, below hi. -/
structure Tg.In (w : World) (lo hi : Nat) (x : Tg) : Prop where
  fit : x.Fit
  v : x.v.In w lo hi
  vs : (T.row x.VA x.vc x.vs).In w lo hi
  code : CdRow w lo hi x.CA x.cc x.code
  names : NmRow w lo hi x.NA x.nc x.names

section
variable {S : Nat → Prop} {a w : World} {lo hi : Nat}

theorem NmRow.fr {A : Option Addr} {cap : Nat} {l : List Nm} (h : NmRow a lo hi A cap l) (hf : Fr S a w) (hh : hi ≤ a.heap.size) (hs : ∀ i, lo ≤ i → i < hi → ¬ S i) : NmRow w lo hi A cap l := by
  refine ⟨h.len1, h.cap1, fun hl => ?_, fun x hx => ⟨(h.inn x hx).1, (h.inn x hx).2.fr hf hh hs⟩⟩
  obtain ⟨b, o, rfl, h0, h1, hc⟩ := h.at_ hl
  exact ⟨b, o, rfl, h0, h1, fun i x hx j u hu => (hf.cell (by omega) (hs b h0 h1)).trans (hc i x hx j u hu)⟩

theorem NmRow.more {A : Option Addr} {cap : Nat} {l : List Nm} {lo' hi' : Nat} (h : NmRow a lo hi A cap l) (hl : lo' ≤ lo) (hh : hi ≤ hi') : NmRow a lo' hi' A cap l := by
  refine ⟨h.len1, h.cap1, fun hl' => ?_, fun x hx => ⟨(h.inn x hx).1, T.In.more hl hh _ (h.inn x hx).2⟩⟩
  obtain ⟨b, o, rfl, h0, h1, hc⟩ := h.at_ hl'
  exact ⟨b, o, rfl, by omega, by omega, hc⟩

theorem CdRow.fr {A : Option Addr} {cap : Nat} {l : List G} (h : CdRow a lo hi A cap l) (hf : Fr S a w) (hh : hi ≤ a.heap.size) (hs : ∀ i, lo ≤ i → i < hi → ¬ S i) : CdRow w lo hi A cap l := ⟨h.len1, h.cap1, h.ty, h.inn.fr hf hh hs⟩

theorem CdRow.more {A : Option Addr} {cap : Nat} {l : List G} {lo' hi' : Nat} (h : CdRow a lo hi A cap l) (hl : lo' ≤ lo) (hh : hi ≤ hi') : CdRow a lo' hi' A cap l := ⟨h.len1, h.cap1, h.ty, G.In.more hl hh _ h.inn⟩

theorem Tg.In.fr {x : Tg} (h : x.In a lo hi) (hf : Fr S a w) (hh : hi ≤ a.heap.size) (hs : ∀ i, lo ≤ i → i < hi → ¬ S i) : x.In w lo hi := ⟨h.fit, h.v.fr hf hh hs, h.vs.fr hf hh hs, h.code.fr hf hh hs, h.names.fr hf hh hs⟩

theorem Tg.In.no {x : Tg} (h : x.In a lo hi) (hf : Fr No a w) (hh : hi ≤ a.heap.size) : x.In w lo hi := h.fr hf hh fun _ _ _ h => h

theorem Tg.In.more {x : Tg} {lo' hi' : Nat} (h : x.In a lo hi) (hl : lo' ≤ lo) (hh : hi ≤ hi') : x.In a lo' hi' := ⟨h.fit, T.In.more hl hh _ h.v, T.In.more hl hh _ h.vs, h.code.more hl hh, h.names.more hl hh⟩
end

/-- A name's tree. -/
theorem ty_name {g : G} (h : Ty 260 g) : ∃ x : Nm, g.c = nmCells x ∧ x.1.size ≤ 140737488351232 ∧ ∀ (w : World) (lo hi : Nat), g.In w lo hi → x.2.In w lo hi := by
  obtain ⟨c, s⟩ := g
  have h0 := h.fits
  rw [flat_name] at h0
  obtain ⟨nm, c, rfl, w0, h0⟩ := h0.inv_str
  obtain ⟨k, c, rfl, w1, h0⟩ := h0.inv_int
  obtain ⟨n, c, rfl, w2, h0⟩ := h0.inv_int
  obtain ⟨b, c, rfl, w3, h0⟩ := h0.inv_str
  obtain ⟨A, l, cap, c, s, rfl, rfl, w4, w5, h0⟩ := h0.inv_sl
  obtain ⟨r, c, rfl, w6, h0⟩ := h0.inv_int
  obtain ⟨rfl, rfl⟩ := h0.inv_nil
  have hk := h.kids 0 _ (by rw [flat_name]; rfl) rfl
  have hv : Ty 28 (.mk [.int .u8 k, .int .i64 n, .string b, .slice A l.length cap, .int .i64 r] [(A, l)]) := by
    refine .mk _ _ _ ?_ fun i e A' l' x he hs hx => ?_
    · rw [flat_val]
      exact ⟨⟨k, rfl, w1⟩, ⟨n, rfl, w2⟩, ⟨b, rfl, w3⟩, ⟨cap, rfl, w4, w5⟩, ⟨r, rfl, w6⟩, rfl, rfl⟩
    · rw [flat_val] at he
      cases i with
      | zero =>
        simp [sls] at he hs
        obtain ⟨rfl, rfl⟩ := hs
        subst he
        exact hk x hx
      | succ i => simp at hs
  obtain ⟨t, ht, hin⟩ := ty_val _ hv
  refine ⟨(nm, t), ?_, w0, fun w lo hi hi' => hin w lo hi ?_⟩
  · show Value.string nm :: _ = Value.string nm :: t.cells
    rw [← ht]
    rfl
  · rw [G.in_rows] at hi' ⊢
    exact hi'

theorem ty_names {l : List G} (h : ∀ x ∈ l, Ty 260 x) : ∃ ts : List Nm, ts.length = l.length ∧ ∀ (A : Option Addr) (cap : Nat) (w : World) (lo hi : Nat), l.length * 80 ≤ 140737488351232 → l.length ≤ cap → (G.row A l).In w lo hi → NmRow w lo hi A cap ts := by
  have hone : ∀ i, i < l.length → ∃ t : Nm, ∃ x, l[i]? = some x ∧ x.c = nmCells t ∧ t.1.size ≤ 140737488351232 ∧ ∀ (w : World) (lo hi : Nat), x.In w lo hi → t.2.In w lo hi := fun i hi => by
    have hm := List.getElem_mem hi
    obtain ⟨t, h1, h2, h3⟩ := ty_name (h _ hm)
    exact ⟨t, l[i], List.getElem?_eq_getElem hi, h1, h2, h3⟩
  obtain ⟨ts, hts, hq⟩ := choose_list l.length hone
  refine ⟨ts, hts, fun A cap w lo hi hl hc hin => ?_⟩
  obtain ⟨h1, h2⟩ := G.row_in.1 hin
  refine ⟨by rw [hts]; exact hl, by rw [hts]; exact hc, fun hne => ?_, fun x hx => ?_⟩
  · obtain ⟨b, o, rfl, hb0, hb1, hc⟩ := h1 (by rintro rfl; simp at hts; exact hne hts)
    refine ⟨b, o, rfl, hb0, hb1, fun i x hx j u hu => ?_⟩
    obtain ⟨y, hy, hc1, -⟩ := hq i x hx
    have := hc i y hy j u (by rw [hc1]; exact hu)
    rwa [hc1, nmCells_length] at this
  · obtain ⟨i, hi', rfl⟩ := List.mem_iff_getElem.1 hx
    obtain ⟨y, hy, -, hc2, hc3⟩ := hq i _ (List.getElem?_eq_getElem hi')
    exact ⟨hc2, hc3 w lo hi (h2 y (List.mem_of_getElem? hy))⟩

theorem fit_row : Fit 3 0 ⟨#[]⟩ 0 0 0 := ⟨by decide, by decide, by decide, by decide, by decide, by decide, by decide, by decide, by decide⟩

/-- A thing of an entry, and its number. -/
theorem ty_entry {g : G} (h : Ty 140 g) : ∃ (r : Int) (x : Tg), g.c = .int .i64 r :: x.cells ∧ -9223372036854775808 ≤ r ∧ r ≤ 9223372036854775807 ∧ ∀ (w : World) (lo hi : Nat), g.In w lo hi → x.In w lo hi := by
  obtain ⟨c, s⟩ := g
  have h0 := h.fits
  rw [flat_entry] at h0
  obtain ⟨ref, c, rfl, w0, h0⟩ := h0.inv_int
  obtain ⟨kind, c, rfl, w1, h0⟩ := h0.inv_int
  obtain ⟨home, c, rfl, w2, h0⟩ := h0.inv_int
  obtain ⟨k, c, rfl, w3, h0⟩ := h0.inv_int
  obtain ⟨n, c, rfl, w4, h0⟩ := h0.inv_int
  obtain ⟨b, c, rfl, w5, h0⟩ := h0.inv_str
  obtain ⟨A, l, cap, c, s, rfl, rfl, w6, w7, h0⟩ := h0.inv_sl
  obtain ⟨r, c, rfl, w8, h0⟩ := h0.inv_int
  obtain ⟨VA, vl, vc, c, s, rfl, rfl, w9, w10, h0⟩ := h0.inv_sl
  obtain ⟨n1, c, rfl, w11, h0⟩ := h0.inv_int
  obtain ⟨lost, c, rfl, w12, h0⟩ := h0.inv_int
  obtain ⟨ofr, c, rfl, w13, h0⟩ := h0.inv_int
  obtain ⟨byr, c, rfl, w14, h0⟩ := h0.inv_int
  obtain ⟨set, c, rfl, w15, h0⟩ := h0.inv_int
  obtain ⟨full, c, e1, h1⟩ := h0.inv_bool
  subst e1
  replace h0 := h1
  obtain ⟨CA, cl, cc, c, s, rfl, rfl, w16, w17, h0⟩ := h0.inv_sl
  obtain ⟨NA, nl, nc, c, s, rfl, rfl, w18, w19, h0⟩ := h0.inv_sl
  obtain ⟨rfl, rfl⟩ := h0.inv_nil
  have hs : sls (flat 140) = [28, 28, 311, 260] := by rw [flat_entry]; rfl
  have hk0 := h.kids 0 _ (by rw [hs]; rfl) rfl
  have hk1 := h.kids 1 _ (by rw [hs]; rfl) rfl
  have hk2 := h.kids 2 _ (by rw [hs]; rfl) rfl
  have hk3 := h.kids 3 _ (by rw [hs]; rfl) rfl
  have hv : Ty 28 (.mk [.int .u8 k, .int .i64 n, .string b, .slice A l.length cap, .int .i64 r] [(A, l)]) := by
    refine .mk _ _ _ ?_ fun i e A' l' x he hs hx => ?_
    · rw [flat_val]
      exact ⟨⟨k, rfl, w3⟩, ⟨n, rfl, w4⟩, ⟨b, rfl, w5⟩, ⟨cap, rfl, w6, w7⟩, ⟨r, rfl, w8⟩, rfl, rfl⟩
    · rw [flat_val] at he
      cases i with
      | zero =>
        simp [sls] at he hs
        obtain ⟨rfl, rfl⟩ := hs
        subst he
        exact hk0 x hx
      | succ i => simp at hs
  obtain ⟨t, ht, hin⟩ := ty_val _ hv
  obtain ⟨ts, hts, htin⟩ := ty_vals hk1
  obtain ⟨ns, hns, hnin⟩ := ty_names hk3
  refine ⟨ref, ⟨kind, home, t, VA, vc, ts, n1, lost, ofr, byr, set, full, CA, cc, cl, NA, nc, ns⟩, ?_, (wf_i64 w0).1, (wf_i64 w0).2, fun w lo hi hi' => ?_⟩
  · have ht' : t.cells = [.int .u8 k, .int .i64 n, .string b, .slice A l.length cap, .int .i64 r] := ht.symm
    simp [G.c, Tg.cells, ht', hts, hns]
  · have hr := G.in_rows.1 hi'
    refine ⟨⟨wf_u8 w1, wf_i64 w2, wf_i64 w11, wf_i64 w12, wf_i64 w13, wf_i64 w14, wf_u8 w15⟩, hin w lo hi (G.in_rows.2 fun A' l' hm => ?_), ?_, ⟨w17, w16, hk2, hr _ _ (by simp)⟩, hnin NA nc w lo hi w19 w18 (hr _ _ (by simp))⟩
    · simp at hm
      obtain ⟨rfl, rfl⟩ := hm
      exact hr _ _ (by simp)
    · obtain ⟨q1, q2⟩ := htin VA [] [(VA, vl)] w lo hi (by simp) (hr VA vl (by simp))
      refine T.in_mk.2 ⟨⟨by decide, by decide, by decide, by decide, by decide, by rw [hts]; exact w10, by rw [hts]; exact w9, by decide, by decide⟩, q1, q2⟩

end Go.Proofs.YtlejelbefmkakaaGreat

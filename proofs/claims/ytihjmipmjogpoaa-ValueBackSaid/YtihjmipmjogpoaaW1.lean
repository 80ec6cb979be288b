/- Chapter 2: high: the bytes of a number. -/
import Derived.Test.YtihjmipmjogpoaaU1
import Derived.IntWalk
import Derived.WalkLawsBesides
namespace Go.Proofs.Ytihjmipmjogpoaa
open Go.RowKit

/-- So many bytes of a number, the highest first. -/
def hiB (n : Nat) : Nat → List Nat
  | 0 => []
  | j + 1 => (n / 2 ^ (8 * j)) % 256 :: hiB n j

theorem hiB_length (n j : Nat) : (hiB n j).length = j := by
  induction j with
  | zero => rfl
  | succ j ih => simp [hiB, ih]

def byteCells (l : List Nat) : List Value := l.map fun (x : Nat) => .int .u8 (x : Int)

theorem byte_info : (Try.prog.info? 5).map (fun i => (i.zero, i.size, i.bytes)) = some (some (.int .u8 0), 1, 1) := by kernel_rfl

/-- The blocks of bytes from base on. -/
def BS (base : Nat) (w : World) (i : Nat) : Prop := base ≤ i ∧ ∃ cur, w.heap[i]? = some (.cells cur 5 (0, 0))

theorem BS.trans {base : Nat} {a b c : World} (h : Fr (BS base a) a b) (k : Fr (BS base b) b c) : Fr (BS base a) a c :=
  h.trans' k fun i hi ⟨h0, cur, h1⟩ => by
    by_cases hs : BS base a i
    · exact hs
    · exact ⟨h0, cur, (h.block i hi hs).symm.trans h1⟩

theorem BS.grown {base n : Nat} {a w w' : World} {v : Value} {xs : List Value} (h : Fr (BS base a) a w) (ho : w.ownsRow base 5 1 v n xs) (hg : w.grownBy w' v.ownBlock) : Fr (BS base a) a w' :=
  BS.trans h ((Fr.refl _ w).grown hg fun i hi _ => by
    rcases ho.2 with ⟨rfl, _⟩ | ⟨g, cap, cur, rfl, hb, hh, _⟩
    · cases hi
    · simp [Value.ownBlock] at hi; subst hi; exact ⟨hb, cur, hh⟩)

theorem Blk.bs {base g : Nat} {t : TypeId} {w : World} {cs : Array Value} (h : Blk w g t cs) (ht : t ≠ 5) : ¬ BS base w g := by
  rintro ⟨_, cur, h1⟩
  unfold Blk at h
  rw [h] at h1
  injection h1 with h1
  injection h1 with _ h2
  exact ht h2

/-- A row of bytes with more behind it. -/
def GrowP (xs more : List Nat) (base : Nat) (w : World) (e : Ending) (w' : World) : Prop :=
  ∃ v', e = .returned v' ∧ w'.ownsRow base 5 1 v' (xs ++ more).length (byteCells (xs ++ more)) ∧ Fr (BS base w) w w'

set_option maxRecDepth 100000 in
set_option maxHeartbeats 4000000 in
theorem high_any (v : Value) (xs : List Nat) (base : Nat) (n width : Nat) (w : World) (hn : n < 18446744073709551616) (hwd : width ≤ 8) (hx : xs.length ≤ 1000000) (ho : w.ownsRow base 5 1 v xs.length (byteCells xs)) (hb : base ≤ w.heap.size) :
    Calls Try.prog 139 #[v, .int .u64 (n : Int), .int .i64 (width : Int)] w (GrowP xs (hiB n width) base w) := by
  obtain ⟨i0, hi0, hz0, hz1, hz2⟩ := info_parts byte_info
  have hw1 : (width : Int) ≤ 8 := by omega
  go_enter Try.func139, Try.ntmps139
  go_wp2_with fail
  go_loopw [0, 7] (fun s0 s7 wr => ∃ (j : Nat) (done : List Nat), j ≤ width ∧ s7 = .int .i64 ((j : Int) - 1) ∧ hiB n width = done ++ hiB n j ∧ done.length + j = width ∧ wr.ownsRow base 5 1 s0 (xs ++ done).length (byteCells (xs ++ done)) ∧ Fr (BS base w) w wr) (fun _ s7 _ => ((intOf s7) + 1).toNat)
  case atStart => exact ⟨width, [], Nat.le_refl _, by go_num, by simp, by simp, by simpa using ho, Fr.refl _ _⟩
  case round =>
    obtain ⟨j, done, hj, rfl, hd, hdl, how, fr⟩ := hrel
    cases j with
    | zero =>
      rw [show (((0 : Nat) : Int) - 1) = -1 from rfl]
      have hq : hiB n width = done := by rw [hd]; simp [hiB]
      have HQ := hide hq
      have HO := hide how
      have HF := hide fr
      clear hq how fr hd ho
      go_wp2
      go_ret
      exact ⟨_, rfl, by rw [HQ.out]; exact HO.out, HF.out⟩
    | succ j =>
      have e1 : (((j + 1 : Nat) : Int) - 1) = (j : Int) := by omega
      rw [e1]
      have hj8 : (j : Int) < 8 := by omega
      have hd1 := hd
      have HD := hide hd
      have HL := hide hdl
      have hle := (show (xs ++ done).length ≤ 1000008 by simp; omega)
      generalize hL : xs ++ done = L at *
      have hown1 := how.alloc (.cells #[.int .u8 ((n : Int) / 2 ^ (8 * j) % 256)] 5)
      have hbw : base ≤ wr.heap.size := Nat.le_trans hb fr.size
      have hcast : ((n / 2 ^ (8 * j) % 256 : Nat) : Int) = (n : Int) / 2 ^ (8 * j) % 256 := by push_cast; rfl
      have HC := hide hcast
      have HF := hide fr
      have HO := hide how
      have HLL := hide hL
      clear hd hdl hd1 e1 hcast fr how hL ho
      go_wp2_with (at_builtin; refine wpList_append_lies _ (by rfl) _ _ _ (by rfl) base 5 i0 _ 1 1 Try.underlying151 hi0 hz0 hz1 hz2 (by rfl) (by omega) _ L.length (byteCells L) (by rfl) hown1 ⟨wr.heap.size, 0, none⟩ 1 1 [.int .u8 ((n : Int) / 2 ^ (8 * j) % 256)] (by rfl) (by rfl) (World.news_of_block (heap_alloc_new wr _)) (by simp [Value.oneCell']) (by omega) (by unfold maxLen; omega) (by omega) (by simp; omega) (wr.heap.size + 1) (by simp) ?_; intro g cap w1 hown2 hgrow hat hlt1)
      go_roundw
      case rel =>
        refine ⟨j, done ++ [n / 2 ^ (8 * j) % 256], by omega, by go_num, by rw [HD.out]; simp [hiB], by simp; have := HL.out; omega, ?_, ?_⟩
        · rw [← List.append_assoc, HLL.out, List.length_append, byteCells, List.map_append]
          have h := hown2
          rw [← HC.out] at h
          exact h
        · exact BS.grown (HF.out.alloc _) hown1 hgrow
      case measure => first | (simp [intOf]; done) | (simp [intOf]; omega)

end Go.Proofs.Ytihjmipmjogpoaa

/- Texts joined: Wo19, Wo21, Gp1, Wo20, Gp2, Gq9b, Tr2, St1, Gq9c. -/
import Derived.Test.YtlejelbefmkakaaGreatJn1
import Derived.Test.YtlejelbefmkakaaGreatJn2
import Derived.Test.YtlejelbefmkakaaGreatJn4
import Derived.Test.YtlejelbefmkakaaGreatJn9
import Derived.Test.YtlejelbefmkakaaGreatJn10
import Derived.Test.YtlejelbefmkakaaGreatJn11
import Derived.Test.YtlejelbefmkakaaGreatJn18
import Derived.Test.YtlejelbefmkakaaGreatJn22
import Derived.Test.YtlejelbefmkakaaGreatJn24
import Derived.Test.YtlejelbefmkakaaGreatJn25
import Derived.Laws.OwnMore
import Derived.Deep.OwnRows
import Derived.Deep.Cut
import Derived.Deep.CutRange
namespace Go.Proofs.YtlejelbefmkakaaGreat
open Go.RowKit
def Th.pairOf (x : Th) (r : Int) : Int := if x.kind = 5 then r else x.ofr
section
variable {m : Wm} {lo : Nat} {W : World}
end
end Go.Proofs.YtlejelbefmkakaaGreat

namespace Go.Proofs.YtlejelbefmkakaaGreat
open Go.RowKit
def nE (g : Nat → Nat) : Nat → Value
 | 0 => .slice none 0 0
 | 1 => .slice none 0 0
 | 2 => .int .i64 1
 | 3 => .slice (some ⟨g 3, 0, none⟩) 1 1
 | 4 => .int .i64 1
 | 5 => .slice (some ⟨g 5, 0, none⟩) 1 1
 | 6 => .map (some (g 6))
 | 7 => .map (some (g 7))
 | 8 => .agg #[.slice none 0 0, .slice (some ⟨g 3, 0, none⟩) 1 1, .map (some (g 6)), .map (some (g 7)), .int .i64 0, .slice (some ⟨g 5, 0, none⟩) 1 1]
 | 9 => .pointer (some ⟨g 9, 0, none⟩)
 | 10 => .pointer (some ⟨g 9, 0, none⟩)
 | 11 => .int .i64 0
 | _ => undef
def nB (g : Nat → Nat) (w : World) : Nat → Prop
 | 3 => w.heap[g 3]? = some (.cells #[.bool false] 4 (0, 0))
 | 5 => w.heap[g 5]? = some (.cells #[.int .i64 0] 3 (0, 0))
 | 6 => w.heap[g 6]? = some (.map #[] 0)
 | 7 => w.heap[g 7]? = some (.map #[] 0)
 | 9 => w.heap[g 9]? = some (.cells #[.slice none 0 0, .slice (some ⟨g 3, 0, none⟩) 1 1, .map (some (g 6)), .map (some (g 7)), .int .i64 0, .slice (some ⟨g 5, 0, none⟩) 1 1] 38 (0, 0))
 | _ => True
structure NJ (W0 : World) (f : Nat → Bool) (x : List Value) (g : Nat → Nat) (w : World) : Prop where
 fr : Fr No W0 w
 x : ∀ j, f j = true → x.getD j undef = nE g j
 b : ∀ j, f j = true → nB g w j
 lo : ∀ j, f j = true → (j = 3 ∨ j = 5 ∨ j = 6 ∨ j = 7 ∨ j = 9) → W0.heap.size ≤ g j ∧ g j < w.heap.size
 ne : f 6 = true → f 7 = true → g 6 ≠ g 7
 c8 : f 8 = true → f 3 = true ∧ f 5 = true ∧ f 6 = true ∧ f 7 = true
 c9 : f 9 = true → f 8 = true
 c10 : f 10 = true → f 9 = true
theorem upd_ne {f : Nat → Bool} {i j : Nat} (h : j ≠ i) : upd f i j = f j := by
 simp [upd, h]
theorem upd_eq {f : Nat → Bool} {i : Nat} : upd f i i = true := by simp [upd]
theorem NJ.begin (W0 : World) (x : List Value) : NJ W0 (fun _ => false) x (fun _ => 0) W0.drew :=
 ⟨(Fr.refl No W0).drew, nofun, nofun, nofun, nofun, nofun, nofun, nofun⟩
theorem NJ.quiet {W0 w : World} {f : Nat → Bool} {x : List Value} {g : Nat → Nat} (h : NJ W0 f x g w) {i : Nat} (hi : i ≠ 3 ∧ i ≠ 5 ∧ i ≠ 6 ∧ i ≠ 7 ∧ i ≠ 9) (hx : i < x.length) (h8 : i = 8 → f 3 = true ∧ f 5 = true ∧ f 6 = true ∧ f 7 = true) (h10 : i = 10 → f 9 = true) : NJ W0 (upd f i) (x.set i (nE g i)) g w := by
 have hu : ∀ j, upd f i j = true → j = i ∨ f j = true := fun j hj => by
  by_cases hji : j = i
  · exact .inl hji
  · exact .inr (by rwa [upd_ne hji] at hj)
 have hk : ∀ j, f j = true → upd f i j = true := fun j hj => by
  by_cases hji : j = i
  · rw [hji]; exact upd_eq
  · rwa [upd_ne hji]
 refine ⟨h.fr, fun j hj => ?_, fun j hj => ?_, fun j hj hjj => ?_, fun h6 h7 => ?_, fun h8' => ?_, fun h9' => ?_, fun h10' => ?_⟩
 · rcases hu j hj with rfl | hj
   · simp [List.getD_eq_getElem?_getD, hx]
   · by_cases hji : j = i
     · subst hji; simp [List.getD_eq_getElem?_getD, hx]
     · rw [← h.x j hj, List.getD_eq_getElem?_getD, List.getD_eq_getElem?_getD, List.getElem?_set_ne (fun e => hji e.symm)]
 · rcases hu j hj with rfl | hj
   · unfold nB
     split <;> first | trivial | omega
   · exact h.b j hj
 · rcases hu j hj with rfl | hj
   · omega
   · exact h.lo j hj hjj
 · rw [upd_ne (by omega)] at h6 h7
   exact h.ne h6 h7
 · rcases hu 8 h8' with hh | hh
   · obtain ⟨a, b, c, d⟩ := h8 hh.symm
     exact ⟨hk _ a, hk _ b, hk _ c, hk _ d⟩
   · obtain ⟨a, b, c, d⟩ := h.c8 hh
     exact ⟨hk _ a, hk _ b, hk _ c, hk _ d⟩
 · rw [upd_ne (by omega)] at h9'
   exact hk _ (h.c9 h9')
 · rcases hu 10 h10' with hh | hh
   · exact hk _ (h10 hh.symm)
   · exact hk _ (h.c10 hh)
def gset (g : Nat → Nat) (i b : Nat) : Nat → Nat := fun j => if j = i then b else g j
theorem gset_eq {g : Nat → Nat} {i b : Nat} : gset g i b i = b := by simp [gset]
theorem gset_ne {g : Nat → Nat} {i b j : Nat} (h : j ≠ i) : gset g i b j = g j := by simp [gset, h]
theorem nB_alloc {g : Nat → Nat} {w : World} {o : Obj} (j : Nat) (h : nB g w j) (hlt : (j = 3 ∨ j = 5 ∨ j = 6 ∨ j = 7 ∨ j = 9) → g j < w.heap.size) : nB g (w.alloc o) j := by
 unfold nB at h ⊢
 split
 · exact (Below.heap_alloc _ _ _ (hlt (by simp))).trans h
 · exact (Below.heap_alloc _ _ _ (hlt (by simp))).trans h
 · exact (Below.heap_alloc _ _ _ (hlt (by simp))).trans h
 · exact (Below.heap_alloc _ _ _ (hlt (by simp))).trans h
 · exact (Below.heap_alloc _ _ _ (hlt (by simp))).trans h
 · trivial
theorem NJ.make {W0 w : World} {f : Nat → Bool} {x : List Value} {g : Nat → Nat} (h : NJ W0 f x g w) {i : Nat} {o : Obj} (hi : i = 3 ∨ i = 5 ∨ i = 6 ∨ i = 7) (hf : f i = false) (hx : i < x.length) (ho : nB (gset g i w.heap.size) (w.alloc o) i) : NJ W0 (upd f i) (x.set i (nE (gset g i w.heap.size) i)) (gset g i w.heap.size) (w.alloc o) := by
 have h8 : f 8 = false := by
  cases h8 : f 8 with
  | false => rfl
  | true =>
   obtain ⟨a, b, c, d⟩ := h.c8 h8
   rcases hi with rfl | rfl | rfl | rfl <;> simp_all
 have h9 : f 9 = false := by
  cases h9 : f 9 with
  | false => rfl
  | true => rw [h.c9 h9] at h8; cases h8
 have h10 : f 10 = false := by
  cases h10 : f 10 with
  | false => rfl
  | true => rw [h.c10 h10] at h9; cases h9
 have hs := h.fr.size
 have hu : ∀ j, upd f i j = true → j = i ∨ (j ≠ i ∧ f j = true) := fun j hj => by
  by_cases hji : j = i
  · exact .inl hji
  · exact .inr ⟨hji, by rwa [upd_ne hji] at hj⟩
 have hE : ∀ j, j ≠ i → f j = true → nE (gset g i w.heap.size) j = nE g j := fun j hji hj => by
  have j8 : j ≠ 8 := fun e => by subst e; rw [h8] at hj; cases hj
  have j9 : j ≠ 9 := fun e => by subst e; rw [h9] at hj; cases hj
  have j10 : j ≠ 10 := fun e => by subst e; rw [h10] at hj; cases hj
  unfold nE
  split <;> first | rfl | omega | (rw [gset_ne hji])
 have hBk : ∀ j, j ≠ i → f j = true → nB (gset g i w.heap.size) w j := fun j hji hj => by
  have hb := h.b j hj
  have j9 : j ≠ 9 := fun e => by subst e; rw [h9] at hj; cases hj
  unfold nB at hb ⊢
  split <;> first | trivial | omega | (rw [gset_ne hji]; exact hb)
 refine ⟨h.fr.alloc _, fun j hj => ?_, fun j hj => ?_, fun j hj hjj => ?_, fun h6 h7 => ?_, fun h8' => ?_, fun h9' => ?_, fun h10' => ?_⟩
 · rcases hu j hj with rfl | ⟨hji, hj⟩
   · simp [List.getD_eq_getElem?_getD, hx]
   · rw [hE j hji hj, ← h.x j hj, List.getD_eq_getElem?_getD, List.getD_eq_getElem?_getD, List.getElem?_set_ne (fun e => hji e.symm)]
 · rcases hu j hj with rfl | ⟨hji, hj⟩
   · exact ho
   · exact nB_alloc j (hBk j hji hj) fun hjj => by rw [gset_ne hji]; exact (h.lo j hj hjj).2
 · rcases hu j hj with rfl | ⟨hji, hj⟩
   · rw [gset_eq]; simp; omega
   · rw [gset_ne hji]
     have := h.lo j hj hjj
     simp; omega
 · rcases hu 6 h6 with e6 | ⟨n6, f6⟩ <;> rcases hu 7 h7 with e7 | ⟨n7, f7⟩
   · omega
   · subst e6
     rw [gset_eq, gset_ne n7]
     have := h.lo 7 f7 (by simp)
     omega
   · subst e7
     rw [gset_eq, gset_ne n6]
     have := h.lo 6 f6 (by simp)
     omega
   · rw [gset_ne n6, gset_ne n7]
     exact h.ne f6 f7
 · rcases hu 8 h8' with e | ⟨-, e⟩
   · omega
   · rw [h8] at e; cases e
 · rcases hu 9 h9' with e | ⟨-, e⟩
   · omega
   · rw [h9] at e; cases e
 · rcases hu 10 h10' with e | ⟨-, e⟩
   · omega
   · rw [h10] at e; cases e
theorem NJ.box {W0 w : World} {f : Nat → Bool} {x : List Value} {g : Nat → Nat} (h : NJ W0 f x g w) {o : Obj} (h8 : f 8 = true) (hf : f 9 = false) (hx : 9 < x.length) (ho : nB (gset g 9 w.heap.size) (w.alloc o) 9) : NJ W0 (upd f 9) (x.set 9 (nE (gset g 9 w.heap.size) 9)) (gset g 9 w.heap.size) (w.alloc o) := by
 have h10 : f 10 = false := by
  cases h10 : f 10 with
  | false => rfl
  | true => rw [h.c10 h10] at hf; cases hf
 have hs := h.fr.size
 have hu : ∀ j, upd f 9 j = true → j = 9 ∨ (j ≠ 9 ∧ f j = true) := fun j hj => by
  by_cases hji : j = 9
  · exact .inl hji
  · exact .inr ⟨hji, by rwa [upd_ne hji] at hj⟩
 have hk : ∀ j, f j = true → upd f 9 j = true := fun j hj => by
  by_cases hji : j = 9
  · rw [hji]; exact upd_eq
  · rwa [upd_ne hji]
 have hE : ∀ j, j ≠ 9 → f j = true → nE (gset g 9 w.heap.size) j = nE g j := fun j hji hj => by
  have j10 : j ≠ 10 := fun e => by subst e; rw [h10] at hj; cases hj
  unfold nE
  split <;> first | rfl | omega | (simp [gset])
 have hBk : ∀ j, j ≠ 9 → f j = true → nB (gset g 9 w.heap.size) w j := fun j hji hj => by
  have hb := h.b j hj
  unfold nB at hb ⊢
  split <;> first | trivial | omega | (rw [gset_ne hji]; exact hb)
 refine ⟨h.fr.alloc _, fun j hj => ?_, fun j hj => ?_, fun j hj hjj => ?_, fun h6 h7 => ?_, fun h8' => ?_, fun h9' => ?_, fun h10' => ?_⟩
 · rcases hu j hj with rfl | ⟨hji, hj⟩
   · simp [List.getD_eq_getElem?_getD, hx]
   · rw [hE j hji hj, ← h.x j hj, List.getD_eq_getElem?_getD, List.getD_eq_getElem?_getD, List.getElem?_set_ne (fun e => hji e.symm)]
 · rcases hu j hj with rfl | ⟨hji, hj⟩
   · exact ho
   · exact nB_alloc j (hBk j hji hj) fun hjj => by rw [gset_ne hji]; exact (h.lo j hj hjj).2
 · rcases hu j hj with rfl | ⟨hji, hj⟩
   · rw [gset_eq]; simp; omega
   · rw [gset_ne hji]
     have := h.lo j hj hjj
     simp; omega
 · rw [upd_ne (by omega)] at h6 h7
   rw [gset_ne (by omega), gset_ne (by omega)]
   exact h.ne h6 h7
 · obtain ⟨a, b, c, d⟩ := h.c8 h8
   exact ⟨hk _ a, hk _ b, hk _ c, hk _ d⟩
 · exact hk _ h8
 · exact upd_eq
end Go.Proofs.YtlejelbefmkakaaGreat

namespace Go.Proofs.YtlejelbefmkakaaGreat
open Go.RowKit
def kE (pv : Value) (k : Nat) (cv : Value) (g : Nat → Nat) : Nat → Value
 | 0 => pv
 | 1 => cv
 | 2 => .int .i64 (k : Int)
 | 3 => .slice (some ⟨g 3, 0, none⟩) k k
 | 4 => .int .i64 (k : Int)
 | 5 => .slice (some ⟨g 5, 0, none⟩) k k
 | 6 => .map (some (g 6))
 | 7 => .map (some (g 7))
 | 8 => .agg #[cv, .slice (some ⟨g 3, 0, none⟩) k k, .map (some (g 6)), .map (some (g 7)), .int .i64 0, .slice (some ⟨g 5, 0, none⟩) k k]
 | 9 => .pointer (some ⟨g 9, 0, none⟩)
 | 10 => .pointer (some ⟨g 9, 0, none⟩)
 | 11 => .int .i64 0
 | _ => undef
def kB (k n : Nat) (cs : List Value) (lo : Nat) (cv : Value) (g : Nat → Nat) (w : World) : Nat → Prop
 | 1 => w.ownsRow lo 23 1 cv n cs
 | 3 => w.heap[g 3]? = some (.cells (madeCells #[.bool false] k) 4 (0, 0))
 | 5 => w.heap[g 5]? = some (.cells (madeCells #[.int .i64 0] k) 3 (0, 0))
 | 6 => w.heap[g 6]? = some (.map #[] 0)
 | 7 => w.heap[g 7]? = some (.map #[] 0)
 | 9 => w.heap[g 9]? = some (.cells #[cv, .slice (some ⟨g 3, 0, none⟩) k k, .map (some (g 6)), .map (some (g 7)), .int .i64 0, .slice (some ⟨g 5, 0, none⟩) k k] 38 (0, 0))
 | _ => True
structure NK (W0 : World) (pv : Value) (k n : Nat) (cs : List Value) (f : Nat → Bool) (x : List Value) (cv : Value) (g : Nat → Nat) (w : World) : Prop where
 fr : Fr No W0 w
 x : ∀ j, f j = true → x.getD j undef = kE pv k cv g j
 b : ∀ j, f j = true → kB k n cs W0.heap.size cv g w j
 lo : ∀ j, f j = true → (j = 3 ∨ j = 5 ∨ j = 6 ∨ j = 7 ∨ j = 9) → W0.heap.size ≤ g j ∧ g j < w.heap.size
 ne : f 6 = true → f 7 = true → g 6 ≠ g 7
 c8 : f 8 = true → f 1 = true ∧ f 3 = true ∧ f 5 = true ∧ f 6 = true ∧ f 7 = true
 c9 : f 9 = true → f 8 = true
 c10 : f 10 = true → f 9 = true
theorem NK.begin (W0 : World) (pv : Value) (k n : Nat) (cs : List Value) (x : List Value) : NK W0 pv k n cs (fun _ => false) x undef (fun _ => 0) W0.drew :=
 ⟨(Fr.refl No W0).drew, nofun, nofun, nofun, nofun, nofun, nofun, nofun⟩
theorem NK.quiet {W0 w : World} {pv cv : Value} {k n : Nat} {cs : List Value} {f : Nat → Bool} {x : List Value} {g : Nat → Nat} (h : NK W0 pv k n cs f x cv g w) {i : Nat} (hi : i ≠ 1 ∧ i ≠ 3 ∧ i ≠ 5 ∧ i ≠ 6 ∧ i ≠ 7 ∧ i ≠ 9) (hx : i < x.length) (h8 : i = 8 → f 1 = true ∧ f 3 = true ∧ f 5 = true ∧ f 6 = true ∧ f 7 = true) (h10 : i = 10 → f 9 = true) : NK W0 pv k n cs (upd f i) (x.set i (kE pv k cv g i)) cv g w := by
 have hu : ∀ j, upd f i j = true → j = i ∨ f j = true := fun j hj => by
  by_cases hji : j = i
  · exact .inl hji
  · exact .inr (by rwa [upd_ne hji] at hj)
 have hk : ∀ j, f j = true → upd f i j = true := fun j hj => by
  by_cases hji : j = i
  · rw [hji]; exact upd_eq
  · rwa [upd_ne hji]
 refine ⟨h.fr, fun j hj => ?_, fun j hj => ?_, fun j hj hjj => ?_, fun h6 h7 => ?_, fun h8' => ?_, fun h9' => ?_, fun h10' => ?_⟩
 · rcases hu j hj with rfl | hj
   · simp [List.getD_eq_getElem?_getD, hx]
   · by_cases hji : j = i
     · subst hji; simp [List.getD_eq_getElem?_getD, hx]
     · rw [← h.x j hj, List.getD_eq_getElem?_getD, List.getD_eq_getElem?_getD, List.getElem?_set_ne (fun e => hji e.symm)]
 · rcases hu j hj with rfl | hj
   · unfold kB
     split <;> first | trivial | omega
   · exact h.b j hj
 · rcases hu j hj with rfl | hj
   · omega
   · exact h.lo j hj hjj
 · rw [upd_ne (by omega)] at h6 h7
   exact h.ne h6 h7
 · rcases hu 8 h8' with hh | hh
   · obtain ⟨a, b, c, d, e⟩ := h8 hh.symm
     exact ⟨hk _ a, hk _ b, hk _ c, hk _ d, hk _ e⟩
   · obtain ⟨a, b, c, d, e⟩ := h.c8 hh
     exact ⟨hk _ a, hk _ b, hk _ c, hk _ d, hk _ e⟩
 · rw [upd_ne (by omega)] at h9'
   exact hk _ (h.c9 h9')
 · rcases hu 10 h10' with hh | hh
   · exact hk _ (h10 hh.symm)
   · exact hk _ (h.c10 hh)
theorem kB_alloc {k n lo : Nat} {cs : List Value} {cv : Value} {g : Nat → Nat} {w : World} {o : Obj} (j : Nat) (h : kB k n cs lo cv g w j) (hlt : (j = 3 ∨ j = 5 ∨ j = 6 ∨ j = 7 ∨ j = 9) → g j < w.heap.size) : kB k n cs lo cv g (w.alloc o) j := by
 unfold kB at h ⊢
 split
 · exact h.alloc _
 · exact (Below.heap_alloc _ _ _ (hlt (by simp))).trans h
 · exact (Below.heap_alloc _ _ _ (hlt (by simp))).trans h
 · exact (Below.heap_alloc _ _ _ (hlt (by simp))).trans h
 · exact (Below.heap_alloc _ _ _ (hlt (by simp))).trans h
 · exact (Below.heap_alloc _ _ _ (hlt (by simp))).trans h
 · trivial
theorem kB_no {k n lo : Nat} {cs : List Value} {cv : Value} {g : Nat → Nat} {w w' : World} (f : Fr No w w') (j : Nat) (h : kB k n cs lo cv g w j) (hlt : (j = 3 ∨ j = 5 ∨ j = 6 ∨ j = 7 ∨ j = 9) → g j < w.heap.size) : kB k n cs lo cv g w' j := by
 unfold kB at h ⊢
 split
 · exact owns_fr h f fun _ _ h => h
 · exact (f.block _ (hlt (by simp)) fun h => h).trans h
 · exact (f.block _ (hlt (by simp)) fun h => h).trans h
 · exact (f.block _ (hlt (by simp)) fun h => h).trans h
 · exact (f.block _ (hlt (by simp)) fun h => h).trans h
 · exact (f.block _ (hlt (by simp)) fun h => h).trans h
 · trivial
theorem NK.call {W0 w w' : World} {pv cv cv' : Value} {k n : Nat} {cs : List Value} {f : Nat → Bool} {x : List Value} {g : Nat → Nat} (h : NK W0 pv k n cs f x cv g w) (hf : f 1 = false) (hx : 1 < x.length) (fw : Fr No w w') (ho : w'.ownsRow W0.heap.size 23 1 cv' n cs) : NK W0 pv k n cs (upd f 1) (x.set 1 cv') cv' g w' := by
 have h8 : f 8 = false := by
  cases h8 : f 8 with
  | false => rfl
  | true => rw [(h.c8 h8).1] at hf; cases hf
 have h9 : f 9 = false := by
  cases h9 : f 9 with
  | false => rfl
  | true => rw [h.c9 h9] at h8; cases h8
 have hu : ∀ j, upd f 1 j = true → j = 1 ∨ (j ≠ 1 ∧ f j = true) := fun j hj => by
  by_cases hji : j = 1
  · exact .inl hji
  · exact .inr ⟨hji, by rwa [upd_ne hji] at hj⟩
 have hs := fw.size
 refine ⟨h.fr.trans fw, fun j hj => ?_, fun j hj => ?_, fun j hj hjj => ?_, fun h6 h7 => ?_, fun h8' => ?_, fun h9' => ?_, fun h10' => ?_⟩
 · rcases hu j hj with rfl | ⟨hji, hj⟩
   · simp [List.getD_eq_getElem?_getD, hx, kE]
   · have h8j : j ≠ 8 := fun e => by subst e; rw [h8] at hj; cases hj
     have e : kE pv k cv' g j = kE pv k cv g j := by unfold kE; split <;> first | rfl | omega
     rw [e, ← h.x j hj, List.getD_eq_getElem?_getD, List.getD_eq_getElem?_getD, List.getElem?_set_ne (fun e => hji e.symm)]
 · rcases hu j hj with rfl | ⟨hji, hj⟩
   · exact ho
   · have h9j : j ≠ 9 := fun e => by subst e; rw [h9] at hj; cases hj
     have hb := kB_no fw j (h.b j hj) fun hjj => (h.lo j hj hjj).2
     unfold kB at hb ⊢
     split <;> first | trivial | omega | exact hb
 · rcases hu j hj with rfl | ⟨hji, hj⟩
   · omega
   · have := h.lo j hj hjj
     omega
 · rw [upd_ne (by omega)] at h6 h7
   exact h.ne h6 h7
 · rcases hu 8 h8' with e | ⟨-, e⟩
   · omega
   · rw [h8] at e; cases e
 · rcases hu 9 h9' with e | ⟨-, e⟩
   · omega
   · rw [h9] at e; cases e
 · rcases hu 10 h10' with e | ⟨-, e⟩
   · omega
   · rw [h.c10 e] at h9; cases h9
theorem NK.make {W0 w : World} {pv cv : Value} {k n : Nat} {cs : List Value} {f : Nat → Bool} {x : List Value} {g : Nat → Nat} (h : NK W0 pv k n cs f x cv g w) {i : Nat} {o : Obj} (hi : i = 3 ∨ i = 5 ∨ i = 6 ∨ i = 7) (hf : f i = false) (hx : i < x.length) (ho : kB k n cs W0.heap.size cv (gset g i w.heap.size) (w.alloc o) i) : NK W0 pv k n cs (upd f i) (x.set i (kE pv k cv (gset g i w.heap.size) i)) cv (gset g i w.heap.size) (w.alloc o) := by
 have h8 : f 8 = false := by
  cases h8 : f 8 with
  | false => rfl
  | true =>
   obtain ⟨a, b, c, d, e⟩ := h.c8 h8
   rcases hi with rfl | rfl | rfl | rfl <;> simp_all
 have h9 : f 9 = false := by
  cases h9 : f 9 with
  | false => rfl
  | true => rw [h.c9 h9] at h8; cases h8
 have h10 : f 10 = false := by
  cases h10 : f 10 with
  | false => rfl
  | true => rw [h.c10 h10] at h9; cases h9
 have hs := h.fr.size
 have hu : ∀ j, upd f i j = true → j = i ∨ (j ≠ i ∧ f j = true) := fun j hj => by
  by_cases hji : j = i
  · exact .inl hji
  · exact .inr ⟨hji, by rwa [upd_ne hji] at hj⟩
 have hE : ∀ j, j ≠ i → f j = true → kE pv k cv (gset g i w.heap.size) j = kE pv k cv g j := fun j hji hj => by
  have j8 : j ≠ 8 := fun e => by subst e; rw [h8] at hj; cases hj
  have j9 : j ≠ 9 := fun e => by subst e; rw [h9] at hj; cases hj
  have j10 : j ≠ 10 := fun e => by subst e; rw [h10] at hj; cases hj
  unfold kE
  split <;> first | rfl | omega | (rw [gset_ne hji])
 have hBk : ∀ j, j ≠ i → f j = true → kB k n cs W0.heap.size cv (gset g i w.heap.size) w j := fun j hji hj => by
  have hb := h.b j hj
  have j9 : j ≠ 9 := fun e => by subst e; rw [h9] at hj; cases hj
  unfold kB at hb ⊢
  split <;> first | trivial | omega | (rw [gset_ne hji]; exact hb)
 refine ⟨h.fr.alloc _, fun j hj => ?_, fun j hj => ?_, fun j hj hjj => ?_, fun h6 h7 => ?_, fun h8' => ?_, fun h9' => ?_, fun h10' => ?_⟩
 · rcases hu j hj with rfl | ⟨hji, hj⟩
   · simp [List.getD_eq_getElem?_getD, hx]
   · rw [hE j hji hj, ← h.x j hj, List.getD_eq_getElem?_getD, List.getD_eq_getElem?_getD, List.getElem?_set_ne (fun e => hji e.symm)]
 · rcases hu j hj with rfl | ⟨hji, hj⟩
   · exact ho
   · exact kB_alloc j (hBk j hji hj) fun hjj => by rw [gset_ne hji]; exact (h.lo j hj hjj).2
 · rcases hu j hj with rfl | ⟨hji, hj⟩
   · rw [gset_eq]; simp; omega
   · rw [gset_ne hji]
     have := h.lo j hj hjj
     simp; omega
 · rcases hu 6 h6 with e6 | ⟨n6, f6⟩ <;> rcases hu 7 h7 with e7 | ⟨n7, f7⟩
   · omega
   · subst e6
     rw [gset_eq, gset_ne n7]
     have := h.lo 7 f7 (by simp)
     omega
   · subst e7
     rw [gset_eq, gset_ne n6]
     have := h.lo 6 f6 (by simp)
     omega
   · rw [gset_ne n6, gset_ne n7]
     exact h.ne f6 f7
 · rcases hu 8 h8' with e | ⟨-, e⟩
   · omega
   · rw [h8] at e; cases e
 · rcases hu 9 h9' with e | ⟨-, e⟩
   · omega
   · rw [h9] at e; cases e
 · rcases hu 10 h10' with e | ⟨-, e⟩
   · omega
   · rw [h10] at e; cases e
theorem NK.box {W0 w : World} {pv cv : Value} {k n : Nat} {cs : List Value} {f : Nat → Bool} {x : List Value} {g : Nat → Nat} (h : NK W0 pv k n cs f x cv g w) {o : Obj} (h8 : f 8 = true) (hf : f 9 = false) (hx : 9 < x.length) (ho : kB k n cs W0.heap.size cv (gset g 9 w.heap.size) (w.alloc o) 9) : NK W0 pv k n cs (upd f 9) (x.set 9 (kE pv k cv (gset g 9 w.heap.size) 9)) cv (gset g 9 w.heap.size) (w.alloc o) := by
 have h10 : f 10 = false := by
  cases h10 : f 10 with
  | false => rfl
  | true => rw [h.c10 h10] at hf; cases hf
 have hs := h.fr.size
 have hu : ∀ j, upd f 9 j = true → j = 9 ∨ (j ≠ 9 ∧ f j = true) := fun j hj => by
  by_cases hji : j = 9
  · exact .inl hji
  · exact .inr ⟨hji, by rwa [upd_ne hji] at hj⟩
 have hk : ∀ j, f j = true → upd f 9 j = true := fun j hj => by
  by_cases hji : j = 9
  · rw [hji]; exact upd_eq
  · rwa [upd_ne hji]
 have hE : ∀ j, j ≠ 9 → f j = true → kE pv k cv (gset g 9 w.heap.size) j = kE pv k cv g j := fun j hji hj => by
  have j10 : j ≠ 10 := fun e => by subst e; rw [h10] at hj; cases hj
  unfold kE
  split <;> first | rfl | omega | (simp [gset])
 have hBk : ∀ j, j ≠ 9 → f j = true → kB k n cs W0.heap.size cv (gset g 9 w.heap.size) w j := fun j hji hj => by
  have hb := h.b j hj
  unfold kB at hb ⊢
  split <;> first | trivial | omega | (rw [gset_ne hji]; exact hb)
 refine ⟨h.fr.alloc _, fun j hj => ?_, fun j hj => ?_, fun j hj hjj => ?_, fun h6 h7 => ?_, fun h8' => ?_, fun h9' => ?_, fun h10' => ?_⟩
 · rcases hu j hj with rfl | ⟨hji, hj⟩
   · simp [List.getD_eq_getElem?_getD, hx]
   · rw [hE j hji hj, ← h.x j hj, List.getD_eq_getElem?_getD, List.getD_eq_getElem?_getD, List.getElem?_set_ne (fun e => hji e.symm)]
 · rcases hu j hj with rfl | ⟨hji, hj⟩
   · exact ho
   · exact kB_alloc j (hBk j hji hj) fun hjj => by rw [gset_ne hji]; exact (h.lo j hj hjj).2
 · rcases hu j hj with rfl | ⟨hji, hj⟩
   · rw [gset_eq]; simp; omega
   · rw [gset_ne hji]
     have := h.lo j hj hjj
     simp; omega
 · rw [upd_ne (by omega)] at h6 h7
   rw [gset_ne (by omega), gset_ne (by omega)]
   exact h.ne h6 h7
 · obtain ⟨a, b, c, d, e⟩ := h.c8 h8
   exact ⟨hk _ a, hk _ b, hk _ c, hk _ d, hk _ e⟩
 · exact hk _ h8
 · exact upd_eq
end Go.Proofs.YtlejelbefmkakaaGreat

namespace Go.Proofs.YtlejelbefmkakaaGreat
open Go.RowKit
set_option maxRecDepth 100000 in
theorem cloneS_w (W : World) : Calls Tryz.prog 148 #[.slice none 0 0] W fun e w' => e = .returned (.slice none 0 0) ∧ w' = W := by
 have hq : ∀ w : World, (binOp .eql 32 (.slice none 0 0) (.slice none 0 0)).run Tryz.prog w = .ok (.bool true) w := fun w => by kernel_rfl
 go_enter Tryz.func148, Tryz.ntmps148
 go_wp2
 go_ret
 exact ⟨rfl, rfl⟩
theorem mk1_bool : ∀ w : World, (Instr.makeSlice 33 (.int .i64 1) (.int .i64 1)).run Tryz.prog w = .ok (.slice (some ⟨w.heap.size, 0, none⟩) 1 1) (w.alloc (.cells #[.bool false] 4)) := fun w => by
 have h := run_make_row' (P := Tryz.prog) 33 4 (.bool false) 1 Tryz.underlying33 (by kernel_rfl) rfl .i64 .i64 1 (by decide) (by decide) w
 have e : madeCells #[Value.bool false] 1 = #[Value.bool false] := by kernel_rfl
 rw [e] at h
 exact h
theorem mk1_int : ∀ w : World, (Instr.makeSlice 36 (.int .i64 1) (.int .i64 1)).run Tryz.prog w = .ok (.slice (some ⟨w.heap.size, 0, none⟩) 1 1) (w.alloc (.cells #[.int .i64 0] 3)) := fun w => by
 have h := run_make_row' (P := Tryz.prog) 36 3 (.int .i64 0) 8 Tryz.underlying36 (by kernel_rfl) rfl .i64 .i64 1 (by decide) (by decide) w
 have e : madeCells #[Value.int .i64 0] 1 = #[Value.int .i64 0] := by kernel_rfl
 rw [e] at h
 exact h
end Go.Proofs.YtlejelbefmkakaaGreat

namespace Go.Proofs.YtlejelbefmkakaaGreat
open Go.RowKit
def NewOk (ps : List Int) : Prop := ps.length < 16 ∧ ∀ (i : Nat) (p : Int), ps[i]? = some p → 0 ≤ p ∧ p ≤ (i : Int)
def NewP (ps : List Int) (W : World) (e : Ending) (w' : World) : Prop :=
 (¬ NewOk ps ∧ e = .returned (.tuple #[.pointer none, .int .i64 71]) ∧ Fr No W w') ∨
 (NewOk ps ∧ ∃ m : Gm, e = .returned (.tuple #[.pointer (some ⟨m.wb, 0, none⟩), .int .i64 0]) ∧ m.Ok W.heap.size w' ∧ (m.th = [] ∧ m.fac = [] ∧ m.par = ps ∧ m.cut = List.replicate (ps.length + 1) false ∧ m.made = List.replicate (ps.length + 1) 0 ∧ m.last = 0) ∧ Fr No W w')
theorem ints_lies {w : World} {lo hi : Nat} {A : Option Addr} {cap : Nat} {L : List Int} (h : Ints w lo hi A cap L) : Lies w lo hi A L.length 1 (L.map fun n => Value.int .i64 n) := by
 refine ⟨by simp, fun u hu => ?_, fun hn => ?_⟩
 · obtain ⟨x, -, rfl⟩ := List.mem_map.1 hu
   rfl
 · obtain ⟨b, o, rfl, h0, h1, hc⟩ := h.at_ (fun e => hn (by rw [e]; rfl))
   refine ⟨b, o, rfl, h0, h1, fun j u hu => ?_⟩
   obtain ⟨x, hx, rfl⟩ := Option.map_eq_some_iff.1 (by rwa [List.getElem?_map] at hu)
   exact hc j x hx
theorem mk_bools (k : Nat) (hk : k ≤ 16) : ∀ w : World, (Instr.makeSlice 33 (.int .i64 (k : Int)) (.int .i64 (k : Int))).run Tryz.prog w = .ok (.slice (some ⟨w.heap.size, 0, none⟩) k k) (w.alloc (.cells (madeCells #[.bool false] k) 4)) := fun w =>
 run_make_row' (P := Tryz.prog) 33 4 (.bool false) 1 Tryz.underlying33 (by kernel_rfl) rfl .i64 .i64 k (by omega) (by omega) w
theorem mk_ints (k : Nat) (hk : k ≤ 16) : ∀ w : World, (Instr.makeSlice 36 (.int .i64 (k : Int)) (.int .i64 (k : Int))).run Tryz.prog w = .ok (.slice (some ⟨w.heap.size, 0, none⟩) k k) (w.alloc (.cells (madeCells #[.int .i64 0] k) 3)) := fun w =>
 run_make_row' (P := Tryz.prog) 36 3 (.int .i64 0) 8 Tryz.underlying36 (by kernel_rfl) rfl .i64 .i64 k (by omega) (by omega) w
theorem owns_made {w : World} {g lo k : Nat} {t : TypeId} {z : Value} (h : w.heap[g]? = some (.cells (madeCells #[z] k) t (0, 0))) (hl : lo ≤ g) (hk : k ≤ 16) : w.ownsRow lo t 1 (.slice (some ⟨g, 0, none⟩) k k) k (List.replicate k z) := by
 refine ⟨by simp, .inr ⟨g, k, madeCells #[z] k, rfl, hl, h, Nat.le_refl _, by unfold maxLen; omega, by simp [size_madeCells], ?_⟩⟩
 rw [toList_madeCells_one]
 simp
set_option maxRecDepth 100000 in
set_option maxHeartbeats 8000000 in
theorem New_any (A : Option Addr) (cap : Nat) (ps : List Int) (W : World) (lo hi : Nat) (hp : Ints W lo hi A cap ps) (hh : hi ≤ W.heap.size) : Calls Tryz.prog 82 #[.slice A ps.length cap] W (NewP ps W) := by
 have hmm := @run_makeMap Tryz.prog
 have hcap := hp.cap
 have hlen := hp.len
 have HP := hide hp
 have hC := fun W' (f : Fr No W W') => cloneSide A ps.length cap (ps.map fun n => Value.int .i64 n) W' lo hi ((ints_lies hp).no f hh) (Nat.le_trans hh f.size) (by have := hp.len; omega)
 have HC := hide hC
 clear hC hp
 by_cases h16 : 16 ≤ ps.length
 · have hd : decide ((16 : Int) ≤ (ps.length : Int)) = true := by simp; omega
   have HN := hide (show ¬ NewOk ps from fun h => by have := h.1; omega)
   clear h16
   go_enter Tryz.func82, Tryz.ntmps82
   go_wp2
   go_ret2
   exact .inl ⟨HN.out, rfl, Fr.refl _ _⟩
 have hd : decide ((16 : Int) ≤ (ps.length : Int)) = false := by simp; omega
 have h15 : ps.length ≤ 15 := by omega
 clear h16
 go_enter Tryz.func82, Tryz.ntmps82
 go_wp2_with fail
 go_loopw [12] (fun i wr => ∃ j : Nat, j ≤ ps.length ∧ i = .int .i64 j ∧ wr = W ∧ ∀ (i : Nat) (p : Int), i < j → ps[i]? = some p → 0 ≤ p ∧ p ≤ (i : Int)) (fun i _ => ps.length - (intOf i).toNat)
 case atStart => exact ⟨0, Nat.zero_le _, rfl, rfl, fun i p h => absurd h (Nat.not_lt_zero _)⟩
 case round =>
  obtain ⟨j, hj, rfl, rfl, hok⟩ := hrel
  have HOK := hide hok
  clear hok
  by_cases hlt : j < ps.length
  · obtain ⟨b, o, rfl, hb0, hb1, hce⟩ := HP.out.at_ (fun h => by rw [h] at hlt; simp at hlt)
    have x0 := hce j ps[j] (List.getElem?_eq_getElem hlt)
    have hget : ps[j]? = some ps[j] := List.getElem?_eq_getElem hlt
    generalize ps[j] = q at *
    have hbl : b < wr.heap.size := by omega
    have HG := hide hget
    clear hce hget
    by_cases hq : q < 0
    · have hq' : decide (q < 0) = true := by simpa using hq
      have HN := hide (show ¬ NewOk ps from fun h => by have := (h.2 j q HG.out).1; omega)
      clear hq
      go_wp2
      go_ret2
      exact .inl ⟨HN.out, rfl, Fr.refl _ _⟩
    have hq' : decide (q < 0) = false := by simpa using hq
    by_cases hr : (j : Int) < q
    · have hr' : decide (q > (j : Int)) = true := by simpa using hr
      have HN := hide (show ¬ NewOk ps from fun h => by have := (h.2 j q HG.out).2; omega)
      clear hq hr
      go_wp2
      go_ret2
      exact .inl ⟨HN.out, rfl, Fr.refl _ _⟩
    have hr' : decide (q > (j : Int)) = false := by simpa using hr
    have HQ := hide (And.intro hq hr)
    clear hq hr
    go_wp2
    go_roundw
    case rel =>
     refine ⟨j + 1, hlt, by go_num, trivial, fun i p hi hp => ?_⟩
     by_cases hij : i = j
     · subst hij
       have hh := HG.out
       rw [hh] at hp
       injection hp with hp
       subst hp
       have := HQ.out
       omega
     · exact HOK.out i p (by omega) hp
    case measure => simp [intOf]; omega
  · obtain rfl : ps.length = j := by omega
    have HN := hide (show NewOk ps from ⟨by omega, fun i p h => HOK.out i p (List.getElem?_eq_some_iff.1 h).1 h⟩)
    obtain ⟨k, hk⟩ : ∃ k : Nat, ps.length + 1 = k := ⟨_, rfl⟩
    have hkk : IntKind.i64.wrap ((ps.length : Int) + 1) = (k : Int) := by
     rw [show (ps.length : Int) + 1 = (k : Int) by omega]
     exact IntWalk.i64_in _ (by omega)
    have hb1 := mk_bools k (by omega)
    have hb2 := mk_ints k (by omega)
    go_upto_region 10 with (fail)
    refine wp_region_inv (I := fun a0 f a wx => ∃ y0 y1 y2 y3 y4 y5 y6 y7 y8 y9 y10 y11 cv g, a = ((((((((((((a0.put (some 28) y0).put (some 29) y1).put (some 30) y2).put (some 31) y3).put (some 32) y4).put (some 33) y5).put (some 34) y6).put (some 35) y7).put (some 36) y8).put (some 37) y9).put (some 2) y10).put (some 3) y11) ∧ NK wr (.slice A ps.length cap) k ps.length (ps.map fun n => Value.int .i64 n) f [y0, y1, y2, y3, y4, y5, y6, y7, y8, y9, y10, y11] cv g wx) (by kernel_rfl) (by kernel_rfl) ?st ?step ?en
    case st => exact ⟨_, _, _, _, _, _, _, _, _, _, _, _, _, _, by simp only [Act.put, lq4, lq5, lq6] <;> rfl, NK.begin wr _ _ _ _ _⟩
    case step => as_aux_lemma =>
     rintro i oo f a wx ho hf hd ⟨y0, y1, y2, y3, y4, y5, y6, y7, y8, y9, y10, y11, cv, g, rfl, J⟩ K' hK
     have hi := (Array.getElem?_eq_some_iff.1 ho).1
     simp only [List.size_toArray, List.length_cons, List.length_nil] at hi
     have hid : i = 0 ∨ i = 1 ∨ i = 2 ∨ i = 3 ∨ i = 4 ∨ i = 5 ∨ i = 6 ∨ i = 7 ∨ i = 8 ∨ i = 9 ∨ i = 10 ∨ i = 11 := by omega
     simp only [Act.put, lq4, lq5, lq6]
     rcases hid with rfl | rfl | rfl | rfl | rfl | rfl | rfl | rfl | rfl | rfl | rfl | rfl
     · simp only [lq1, lq3, Option.some.injEq] at ho; subst ho
       have HJ := hide J
       have HFI := hide hf
       clear J hd hf
       go_simp
       exact hK.out _ _ ⟨_, _, _, _, _, _, _, _, _, _, _, _, _, _, by simp only [Act.put, lq4, lq5, lq6] <;> rfl, HJ.out.quiet (i := 0) (by decide) (by simp) (nofun) (nofun)⟩
     · simp only [lq1, lq2, lq3, Option.some.injEq] at ho; subst ho
       have b0 := hd ⟨0, .data⟩ (by simp) (by rfl)
       obtain rfl : y0 = .slice A ps.length cap := J.x 0 b0
       have HJ := hide J
       have B0 := hide b0
       have HFI := hide hf
       clear J hd hf b0
       go_simp
       refine (HC.out wx HJ.out.fr).mono ?_
       rintro e w' ⟨A', c', rfl, ho', fw⟩
       have HO' := hide (owns_mono ho' HJ.out.fr.size)
       have HFW := hide fw
       clear ho' fw
       try go_simp
       exact hK.out _ _ ⟨_, _, _, _, _, _, _, _, _, _, _, _, _, _, by simp only [Act.put, lq4, lq5, lq6] <;> rfl, HJ.out.call HFI.out (by simp) HFW.out HO'.out⟩
     · simp only [lq1, lq2, lq3, Option.some.injEq] at ho; subst ho
       have HJ := hide J
       have HFI := hide hf
       clear J hd hf
       go_simp
       exact hK.out _ _ ⟨_, _, _, _, _, _, _, _, _, _, _, _, _, _, by simp only [Act.put, lq4, lq5, lq6] <;> rfl, HJ.out.quiet (i := 2) (by decide) (by simp) (nofun) (nofun)⟩
     · simp only [lq1, lq2, lq3, Option.some.injEq] at ho; subst ho
       have b2 := hd ⟨2, .data⟩ (by simp) (by rfl)
       obtain rfl : y2 = .int .i64 (k : Int) := J.x 2 b2
       have HJ := hide J
       have B2 := hide b2
       have HFI := hide hf
       clear J hd hf b2
       go_simp
       exact hK.out _ _ ⟨_, _, _, _, _, _, _, _, _, _, _, _, _, _, by simp only [Act.put, lq4, lq5, lq6] <;> rfl, HJ.out.make (i := 3) (by simp) HFI.out (by simp) (by show (World.alloc _ _).heap[gset g 3 wx.heap.size 3]? = _; rw [gset_eq]; exact World.alloc_heap_new _ _)⟩
     · simp only [lq1, lq2, lq3, Option.some.injEq] at ho; subst ho
       have HJ := hide J
       have HFI := hide hf
       clear J hd hf
       go_simp
       exact hK.out _ _ ⟨_, _, _, _, _, _, _, _, _, _, _, _, _, _, by simp only [Act.put, lq4, lq5, lq6] <;> rfl, HJ.out.quiet (i := 4) (by decide) (by simp) (nofun) (nofun)⟩
     · simp only [lq1, lq2, lq3, Option.some.injEq] at ho; subst ho
       have b4 := hd ⟨4, .data⟩ (by simp) (by rfl)
       obtain rfl : y4 = .int .i64 (k : Int) := J.x 4 b4
       have HJ := hide J
       have B4 := hide b4
       have HFI := hide hf
       clear J hd hf b4
       go_simp
       exact hK.out _ _ ⟨_, _, _, _, _, _, _, _, _, _, _, _, _, _, by simp only [Act.put, lq4, lq5, lq6] <;> rfl, HJ.out.make (i := 5) (by simp) HFI.out (by simp) (by show (World.alloc _ _).heap[gset g 5 wx.heap.size 5]? = _; rw [gset_eq]; exact World.alloc_heap_new _ _)⟩
     · simp only [lq1, lq2, lq3, Option.some.injEq] at ho; subst ho
       have HJ := hide J
       have HFI := hide hf
       clear J hd hf
       go_simp
       exact hK.out _ _ ⟨_, _, _, _, _, _, _, _, _, _, _, _, _, _, by simp only [Act.put, lq4, lq5, lq6] <;> rfl, HJ.out.make (i := 6) (by simp) HFI.out (by simp) (by show (World.alloc _ _).heap[gset g 6 wx.heap.size 6]? = _; rw [gset_eq]; exact World.alloc_heap_new _ _)⟩
     · simp only [lq1, lq2, lq3, Option.some.injEq] at ho; subst ho
       have HJ := hide J
       have HFI := hide hf
       clear J hd hf
       go_simp
       exact hK.out _ _ ⟨_, _, _, _, _, _, _, _, _, _, _, _, _, _, by simp only [Act.put, lq4, lq5, lq6] <;> rfl, HJ.out.make (i := 7) (by simp) HFI.out (by simp) (by show (World.alloc _ _).heap[gset g 7 wx.heap.size 7]? = _; rw [gset_eq]; exact World.alloc_heap_new _ _)⟩
     · simp only [lq1, lq2, lq3, Option.some.injEq] at ho; subst ho
       have b1 := hd ⟨1, .data⟩ (by simp) (by rfl)
       obtain rfl : cv = y1 := (J.x 1 b1).symm
       have b3 := hd ⟨3, .data⟩ (by simp) (by rfl)
       obtain rfl : y3 = .slice (some ⟨g 3, 0, none⟩) k k := J.x 3 b3
       have b5 := hd ⟨5, .data⟩ (by simp) (by rfl)
       obtain rfl : y5 = .slice (some ⟨g 5, 0, none⟩) k k := J.x 5 b5
       have b6 := hd ⟨6, .data⟩ (by simp) (by rfl)
       obtain rfl : y6 = .map (some (g 6)) := J.x 6 b6
       have b7 := hd ⟨7, .data⟩ (by simp) (by rfl)
       obtain rfl : y7 = .map (some (g 7)) := J.x 7 b7
       obtain ⟨A', c', rfl⟩ := owns_form (show wx.ownsRow wr.heap.size 23 1 cv ps.length (ps.map fun n => Value.int .i64 n) from J.b 1 b1)
       have HJ := hide J
       have B1 := hide b1
       have B3 := hide b3
       have B5 := hide b5
       have B6 := hide b6
       have B7 := hide b7
       have HFI := hide hf
       clear J hd hf b1 b3 b5 b6 b7
       go_simp
       exact hK.out _ _ ⟨_, _, _, _, _, _, _, _, _, _, _, _, _, _, by simp only [Act.put, lq4, lq5, lq6] <;> rfl, HJ.out.quiet (i := 8) (by decide) (by simp) (fun _ => ⟨B1.out, B3.out, B5.out, B6.out, B7.out⟩) (nofun)⟩
     · simp only [lq1, lq2, lq3, Option.some.injEq] at ho; subst ho
       have b8 := hd ⟨8, .data⟩ (by simp) (by rfl)
       obtain rfl : y8 = .agg #[cv, .slice (some ⟨g 3, 0, none⟩) k k, .map (some (g 6)), .map (some (g 7)), .int .i64 0, .slice (some ⟨g 5, 0, none⟩) k k] := J.x 8 b8
       have HJ := hide J
       have B8 := hide b8
       have HFI := hide hf
       clear J hd hf b8
       go_simp
       exact hK.out _ _ ⟨_, _, _, _, _, _, _, _, _, _, _, _, _, _, by simp only [Act.put, lq4, lq5, lq6] <;> rfl, HJ.out.box B8.out HFI.out (by simp) (by show (World.alloc _ _).heap[gset g 9 wx.heap.size 9]? = _; rw [gset_eq]; exact World.alloc_heap_new _ _)⟩
     · simp only [lq1, lq2, lq3, Option.some.injEq] at ho; subst ho
       have b9 := hd ⟨9, .data⟩ (by simp) (by rfl)
       obtain rfl : y9 = .pointer (some ⟨g 9, 0, none⟩) := J.x 9 b9
       have HJ := hide J
       have B9 := hide b9
       have HFI := hide hf
       clear J hd hf b9
       go_simp
       exact hK.out _ _ ⟨_, _, _, _, _, _, _, _, _, _, _, _, _, _, by simp only [Act.put, lq4, lq5, lq6] <;> rfl, HJ.out.quiet (i := 10) (by decide) (by simp) (nofun) (fun _ => B9.out)⟩
     · simp only [lq1, lq2, lq3, Option.some.injEq] at ho; subst ho
       have HJ := hide J
       have HFI := hide hf
       clear J hd hf
       go_simp
       exact hK.out _ _ ⟨_, _, _, _, _, _, _, _, _, _, _, _, _, _, by simp only [Act.put, lq4, lq5, lq6] <;> rfl, HJ.out.quiet (i := 11) (by decide) (by simp) (nofun) (nofun)⟩
    case en =>
     rintro f a wx hall ⟨y0, y1, y2, y3, y4, y5, y6, y7, y8, y9, y10, y11, cv, g, rfl, J⟩
     simp only [Act.put, lq4, lq5, lq6]
     have ha : ∀ j, j < 12 → f j = true := fun j hj => hall j (by simpa using hj)
     obtain rfl : y10 = .pointer (some ⟨g 9, 0, none⟩) := J.x 10 (ha 10 (by omega))
     obtain rfl : y11 = .int .i64 0 := J.x 11 (ha 11 (by omega))
     have n1 : wx.ownsRow wr.heap.size 23 1 cv ps.length (ps.map fun n => Value.int .i64 n) := J.b 1 (ha 1 (by omega))
     have n3 : wx.heap[g 3]? = some (.cells (madeCells #[.bool false] k) 4 (0, 0)) := J.b 3 (ha 3 (by omega))
     have n5 : wx.heap[g 5]? = some (.cells (madeCells #[.int .i64 0] k) 3 (0, 0)) := J.b 5 (ha 5 (by omega))
     have n6 : wx.heap[g 6]? = _ := J.b 6 (ha 6 (by omega))
     have n7 : wx.heap[g 7]? = _ := J.b 7 (ha 7 (by omega))
     have n9 : wx.heap[g 9]? = _ := J.b 9 (ha 9 (by omega))
     have hne := J.ne (ha 6 (by omega)) (ha 7 (by omega))
     have l3 := J.lo 3 (ha 3 (by omega)) (by simp)
     have l5 := J.lo 5 (ha 5 (by omega)) (by simp)
     have l6 := J.lo 6 (ha 6 (by omega)) (by simp)
     have l7 := J.lo 7 (ha 7 (by omega)) (by simp)
     have l9 := J.lo 9 (ha 9 (by omega)) (by simp)
     have hfr := J.fr
     obtain ⟨A', c', rfl⟩ := owns_form n1
     have hok : (⟨g 9, g 6, g 7, A', c', ps, some ⟨g 3, 0, none⟩, k, List.replicate k false, some ⟨g 5, 0, none⟩, k, List.replicate k 0, 0, [], []⟩ : Gm).Ok wr.heap.size wx := by
      refine ⟨?_, ⟨#[], 0, n6, ⟨rfl, by simp⟩, by simp, by simp⟩, ⟨#[], 0, n7, ⟨rfl, by simp⟩, by simp, by simp⟩, n1, ?_, ?_, by simp, by simp, ⟨l9.1, l6.1, l7.1, by simp⟩, hne, by simp, by simp, by simp, by simp, by simp, by simp; omega⟩
      · show wx.heap[g 9]? = _
        rw [n9]
        simp [Gm.cells]
      · have := owns_made n3 l3.1 (by omega)
        simpa using this
      · have := owns_made n5 l5.1 (by omega)
        simpa using this
     have HMK := hide hok
     have HFR := hide hfr
     clear J hall ha n1 n3 n5 n6 n7 n9 hne l3 l5 l6 l7 l9 hok hfr
     go_wp2_with fail
     go_ret2
     exact .inr ⟨HN.out, _, rfl, HMK.out, ⟨rfl, rfl, rfl, by rw [hk], by rw [hk], rfl⟩, HFR.out⟩
end Go.Proofs.YtlejelbefmkakaaGreat

namespace Go.Proofs.YtlejelbefmkakaaGreat
open Go.RowKit
structure EnRow (w : World) (lo hi : Nat) (A : Option Addr) (cap : Nat) (l : List (Int × Tg)) : Prop where
 cap1 : l.length ≤ cap
 len : l.length * 200 ≤ 140737488351232
 at_ : l ≠ [] → ∃ b o, A = some ⟨b, o, none⟩ ∧ lo ≤ b ∧ b < hi ∧ ∀ i x, l[i]? = some x → ∀ j u, (Value.int .i64 x.1 :: x.2.cells)[j]? = some u → w.cell? ⟨b, o + i * 17 + j, none⟩ = some u
 inn : ∀ x ∈ l, (-9223372036854775808 ≤ x.1 ∧ x.1 ≤ 9223372036854775807) ∧ x.2.In w lo hi
theorem EnRow.no {w w' : World} {lo hi : Nat} {A : Option Addr} {cap : Nat} {l : List (Int × Tg)} (h : EnRow w lo hi A cap l) (f : Fr No w w') (hh : hi ≤ w.heap.size) : EnRow w' lo hi A cap l := by
 refine ⟨h.cap1, h.len, fun hl => ?_, fun x hx => ⟨(h.inn x hx).1, (h.inn x hx).2.no f hh⟩⟩
 obtain ⟨b, o, rfl, h0, h1, hc⟩ := h.at_ hl
 exact ⟨b, o, rfl, h0, h1, fun i x hx j u hu => (f.cell (by omega) fun h => h).trans (hc i x hx j u hu)⟩
def homes (l : List (Int × Tg)) (s : Nat) : Int := ((l.filter fun x => x.2.kind != 14 && x.2.home == (s : Int)).length : Int)
def prevOf (l : List (Int × Tg)) : Nat → Int
 | 0 => 0
 | i + 1 => (l[i]?.map Prod.fst).getD 0
def GoodT (sides : Nat) (ths : List (Int × Tg)) (last : Int) (i : Nat) : Prop := ∀ x, ths[i]? = some x → x.2.Form sides ∧ x.1 ≤ last ∧ prevOf ths i < x.1
def GoodC (sides : Nat) (cuts : List Int) (i : Nat) : Prop := ∀ c, cuts[i]? = some c → (0 < c ∧ c < (sides : Int)) ∧ ∀ c', 0 < i → cuts[i - 1]? = some c' → c' < c
def GoodM (ths : List (Int × Tg)) (made : List Int) (s : Nat) : Prop := ∀ n, made[s]? = some n → homes ths s ≤ n ∧ n ≤ 512
structure FromOk (ps cuts : List Int) (ths : List (Int × Tg)) (last : Int) (made : List Int) : Prop where
 new : NewOk ps
 sides : made.length = ps.length + 1
 cut : ∀ i, GoodC made.length cuts i
 thing : ∀ i, GoodT made.length ths last i
 mades : ∀ s, GoodM ths made s
 lasts : 0 ≤ last ∧ last ≤ 64 * made.sum
 snd : (Gm.ofT ths).Snd
 spare : last + (Gm.ofT ths).spare ≤ 64 * made.sum
def cutOf (k : Nat) (cuts : List Int) : List Bool := cuts.foldl (fun l c => l.set c.toNat true) (List.replicate k false)
theorem cutOf_step {k j : Nat} {cuts : List Int} {c : Int} (h : cuts[j]? = some c) : cutOf k (cuts.take (j + 1)) = (cutOf k (cuts.take j)).set c.toNat true := by
 unfold cutOf
 rw [List.take_add_one, h]
 simp
def FromP (ps cuts : List Int) (ths : List (Int × Tg)) (last : Int) (made : List Int) (W : World) (e : Ending) (w' : World) : Prop :=
 (¬ FromOk ps cuts ths last made ∧ e = .returned (.tuple #[.pointer none, .int .i64 71]) ∧ Fr No W w') ∨
 (FromOk ps cuts ths last made ∧ ∃ m : Gm, e = .returned (.tuple #[.pointer (some ⟨m.wb, 0, none⟩), .int .i64 0]) ∧ m.Ok W.heap.size w' ∧
  (m.pl = (Gm.ofT ths).pl ∧ FacI m (fun i => ∃ x, m.th[i]? = some x) m.fac ∧ m.par = ps ∧ m.cut = cutOf made.length cuts ∧ m.made = made ∧ m.last = last) ∧ Fr No W w')
section
variable {m : Gm} {lo : Nat} {W : World}
theorem gok_put (h : m.Ok lo W) {r la : Int} {g : Nat} {x : Tg} {W2 : World} (f : Fr (fun i => i = m.wb ∨ i = m.M) W W2) (hg : ∀ y ∈ m.th, y.2.1 ≠ g) (hlo : lo ≤ g) (hr : ∀ y ∈ m.th, y.1 ≠ r) (hx : Blk W2 g 138 x.cells.toArray) (hv : x.St W2 lo) (hlen : m.th.length < 1000000)
 (hb : Blk W2 m.wb 38 ({ m with last := la, th := m.th ++ [(r, g, x)] } : Gm).cells) {es : Array MapEntry} {cl : Nat} (hm0 : W.heap[m.M]? = some (.map es cl)) (hm : W2.heap[m.M]? = some (.map (es.push { key := .int .i64 r, val := .pointer (some ⟨g, 0, none⟩), born := cl }) (cl + 1))) :
 ({ m with last := la, th := m.th ++ [(r, g, x)] } : Gm).Ok lo W2 := by
 obtain ⟨es', cl', hm', he, hst⟩ := h.things
 rw [hm0] at hm'
 injection hm' with hm'
 injection hm' with e1 e2
 subst e1 e2
 obtain ⟨ef, cf, hf, hfe⟩ := h.facets
 have ho := h.others
 have hs : ∀ i, ((Value.slice m.P m.par.length m.pc).ownBlock = some i ∨ (Value.slice m.C m.cut.length m.cc).ownBlock = some i ∨ (Value.slice m.D m.made.length m.dc).ownBlock = some i ∨ ∃ x ∈ m.th, i = x.2.1 ∨ x.2.2.Has i) → ¬ (i = m.wb ∨ i = m.M) := fun i hi hh => hh.elim (ho i hi).1 (ho i hi).2.1
 refine ⟨hb, ⟨_, _, hm, ⟨by simp [he.1], fun i e y hei hyi => ?_⟩, stm_push hst⟩, ⟨ef, cf, (f.block _ (lt_of_heap hf) fun hh => ?_).trans hf, hfe⟩, owns_fr h.par f fun q hq => hs q (.inl hq), owns_fr h.cut f fun q hq => hs q (.inr (.inl hq)), owns_fr h.made f fun q hq => hs q (.inr (.inr (.inl hq))),
  fun y hy => ?_, fun y hy => ?_, ⟨h.lo0.1, h.lo0.2.1, h.lo0.2.2.1, fun y hy => ?_⟩, h.mf, ?_, ?_, by simp; omega, h.fkeys, h.flen, h.sides⟩
 · simp only [Array.toList_push] at hei
   rcases Nat.lt_trichotomy i m.th.length with hi | rfl | hi
   · rw [List.getElem?_append_left (by rw [he.1]; exact hi)] at hei
     simp only [List.getElem?_append_left hi] at hyi
     exact he.2 i e y hei hyi
   · rw [← he.1, List.getElem?_append_right (Nat.le_refl _), Nat.sub_self] at hei
     simp at hei hyi
     subst hei hyi
     exact ⟨rfl, rfl⟩
   · simp only at hyi
     rw [List.getElem?_eq_none (by simp; omega)] at hyi
     cases hyi
 · rcases hh with hh | hh
   · exact h.wbs.2 hh.symm
   · exact h.mf hh.symm
 · rcases List.mem_append.1 hy with hy | hy
   · exact (h.box y hy).fr f (hs _ (.inr (.inr (.inr ⟨y, hy, .inl rfl⟩))))
   · simp only [List.mem_singleton] at hy
     subst hy
     exact hx
 · rcases List.mem_append.1 hy with hy | hy
   · exact (h.st y hy).fr f fun b hb => hs b (.inr (.inr (.inr ⟨y, hy, .inr hb⟩)))
   · simp only [List.mem_singleton] at hy
     subst hy
     exact hv
 · rcases List.mem_append.1 hy with hy | hy
   · exact h.lo0.2.2.2 y hy
   · simp only [List.mem_singleton] at hy
     subst hy
     show lo ≤ g
     omega
 · rw [List.map_append]
   refine List.nodup_append.2 ⟨h.keys, by simp, fun a ha b' hb' => ?_⟩
   simp only [List.map_cons, List.map_nil, List.mem_singleton] at hb'
   subst hb'
   obtain ⟨y, hy, rfl⟩ := List.mem_map.1 ha
   exact hr y hy
 · refine List.pairwise_append.2 ⟨h.dist, by simp, fun a ha b' hb' => ?_⟩
   simp only [List.mem_singleton] at hb'
   subst hb'
   exact hg a ha
theorem gok_end (h : m.Ok lo W) {la : Int} {D : Option Addr} {dc : Nat} {made : List Int} {W2 : World} (f : Fr (fun i => i = m.wb) W W2) (hm : W2.ownsRow lo 3 1 (.slice D made.length dc) made.length (made.map fun (n : Int) => Value.int .i64 n)) (hl : made.length = m.made.length)
 (hb : Blk W2 m.wb 38 ({ m with last := la, D := D, dc := dc, made := made } : Gm).cells) : ({ m with last := la, D := D, dc := dc, made := made } : Gm).Ok lo W2 := by
 obtain ⟨es, cl, hm0, he⟩ := h.things
 obtain ⟨ef, cf, hf, hfe⟩ := h.facets
 have ho := h.others
 refine ⟨hb, ⟨es, cl, (f.block _ (lt_of_heap hm0) fun e => h.wbs.1 e.symm).trans hm0, he⟩, ⟨ef, cf, (f.block _ (lt_of_heap hf) fun e => h.wbs.2 e.symm).trans hf, hfe⟩, owns_fr h.par f fun q hq => (ho q (.inl hq)).1, owns_fr h.cut f fun q hq => (ho q (.inr (.inl hq))).1, hm,
  fun y hy => (h.box y hy).fr f (ho _ (.inr (.inr (.inr ⟨y, hy, .inl rfl⟩)))).1, fun y hy => (h.st y hy).fr f fun b hb => (ho _ (.inr (.inr (.inr ⟨y, hy, .inr hb⟩)))).1, h.lo0, h.mf, h.keys, h.dist, h.len, h.fkeys, h.flen, ?_⟩
 have := h.sides
 simp only
 rw [hl]
 exact this
end
theorem homes_zero (s : Nat) : homes [] s = 0 := rfl
theorem homes_step {ths : List (Int × Tg)} {j : Nat} {x : Int × Tg} (h : ths[j]? = some x) (s : Nat) : homes (ths.take (j + 1)) s = homes (ths.take j) s + if x.2.kind ≠ 14 ∧ x.2.home = (s : Int) then 1 else 0 := by
 unfold homes
 rw [List.take_add_one, h]
 simp only [Option.toList_some, List.filter_append, List.length_append]
 by_cases hk : x.2.kind ≠ 14 ∧ x.2.home = (s : Int)
 · rw [if_pos hk, List.filter_cons_of_pos (by simp [hk.1, hk.2])]
   simp
 · rw [if_neg hk, List.filter_cons_of_neg (by simp only [Bool.and_eq_true, bne_iff_ne, ne_eq, beq_iff_eq]; exact hk)]
   simp
theorem homes_bound (l : List (Int × Tg)) (s : Nat) : 0 ≤ homes l s ∧ homes l s ≤ l.length := by
 unfold homes
 have := List.length_filter_le (fun x : Int × Tg => x.2.kind != 14 && x.2.home == (s : Int)) l
 omega
def homesRow (k : Nat) (l : List (Int × Tg)) : List Value := (List.range k).map fun s => Value.int .i64 (homes l s)
theorem homesRow_nil (k : Nat) : homesRow k [] = List.replicate k (.int .i64 0) := by
 unfold homesRow
 apply List.ext_getElem
 · simp
 · intro i h1 h2; simp [homes_zero]
theorem homesRow_keep {k j : Nat} {ths : List (Int × Tg)} {x : Int × Tg} (h : ths[j]? = some x) (hk : x.2.kind = 14) : homesRow k (ths.take (j + 1)) = homesRow k (ths.take j) := by
 unfold homesRow
 refine List.map_congr_left fun s _ => ?_
 rw [homes_step h s, if_neg (by simp [hk])]
 simp
theorem homesRow_step {k j s : Nat} {ths : List (Int × Tg)} {x : Int × Tg} (h : ths[j]? = some x) (hk : x.2.kind ≠ 14) (hs : x.2.home = (s : Int)) : homesRow k (ths.take (j + 1)) = (homesRow k (ths.take j)).set s (.int .i64 (homes (ths.take j) s + 1)) := by
 unfold homesRow
 apply List.ext_getElem
 · simp
 · intro i h1 h2
   simp only [List.getElem_map, List.getElem_range, List.getElem_set]
   rw [homes_step h i]
   by_cases hi : s = i
   · subst hi
     rw [if_pos rfl, if_pos ⟨hk, hs⟩]
   · rw [if_neg hi, if_neg (by rintro ⟨-, e⟩; rw [hs] at e; omega)]
     simp
structure ThI (m0 : Gm) (ths : List (Int × Tg)) (last : Int) (k : Nat) (W : World) (g j : Nat) (m : Gm) (wr : World) : Prop where
 ok : m.Ok W.heap.size wr
 fr : Fr No W wr
 same : m.wb = m0.wb ∧ m.M = m0.M ∧ m.par = m0.par ∧ m.cut = m0.cut ∧ m.made = m0.made ∧ m.fac = [] ∧ m.last = 0
 pl : m.pl = (Gm.ofT (ths.take j)).pl
 row : Blk wr g 3 (homesRow k (ths.take j)).toArray
 gB : ¬ m.B g
 g0 : W.heap.size ≤ g
 good : ∀ i, i < j → GoodT k ths last i
 key : ∀ x ∈ m.th, x.1 ≤ prevOf ths j
theorem ofT_pl (ths : List (Int × Tg)) : (Gm.ofT ths).pl = ths.map fun x => (x.1, x.2.pl) := by
 unfold Gm.pl Gm.ofT plE
 rw [List.map_map]
 rfl
theorem pl_step {m : Gm} {ths : List (Int × Tg)} {j g : Nat} {x : Int × Tg} {y : Tg} (h : m.pl = (Gm.ofT (ths.take j)).pl) (hx : ths[j]? = some x) (hy : y.pl = x.2.pl) : ({ m with th := m.th ++ [(x.1, g, y)] } : Gm).pl = (Gm.ofT (ths.take (j + 1))).pl := by
 rw [ofT_pl] at h ⊢
 unfold Gm.pl at h ⊢
 rw [List.take_add_one, hx]
 simp only [List.map_append, Option.toList_some, List.map_cons, List.map_nil, h]
 congr 1
 simp [plE, hy]
theorem pl_len {m : Gm} {ths : List (Int × Tg)} (h : m.pl = (Gm.ofT ths).pl) : m.th.length = ths.length := by
 rw [ofT_pl] at h
 have := congrArg List.length h
 simpa [Gm.pl] using this
end Go.Proofs.YtlejelbefmkakaaGreat

namespace Go.Proofs.YtlejelbefmkakaaGreat
open Go.RowKit
def entC (x : Int × Tg) : List Value := .int .i64 x.1 :: x.2.cells
theorem Tg.cells_len (x : Tg) : x.cells.length = 16 := by
 obtain ⟨kind, home, ⟨k, n, s, A, cap, l, r⟩, VA, vc, vs, n1, lost, ofr, byr, set, full, CA, cc, code, NA, nc, names⟩ := x
 rfl
theorem Tg.cells_one (x : Tg) : ∀ u ∈ x.cells, u.oneCell' = true := by
 obtain ⟨kind, home, ⟨k, n, s, A, cap, l, r⟩, VA, vc, vs, n1, lost, ofr, byr, set, full, CA, cc, code, NA, nc, names⟩ := x
 intro u hu
 simp only [Tg.cells, T.cells, List.cons_append, List.nil_append, List.mem_cons, List.not_mem_nil, or_false] at hu
 rcases hu with rfl | rfl | rfl | rfl | rfl | rfl | rfl | rfl | rfl | rfl | rfl | rfl | rfl | rfl | rfl | rfl <;> rfl
theorem entC_len (x : Int × Tg) : (entC x).length = 17 := by simp [entC, Tg.cells_len]
def entRow (l : List (Int × Tg)) : List Value := l.flatMap entC
theorem entRow_append (l k : List (Int × Tg)) : entRow (l ++ k) = entRow l ++ entRow k := by simp [entRow]
theorem entRow_at {l : List (Int × Tg)} {i j : Nat} {x : Int × Tg} {u : Value} (hx : l[i]? = some x) (hu : (entC x)[j]? = some u) : (entRow l)[i * 17 + j]? = some u := by
 induction l generalizing i with
 | nil => simp at hx
 | cons y l ih =>
  have hj : j < 17 := by
   have := (List.getElem?_eq_some_iff.1 hu).1
   rwa [entC_len] at this
  show (entC y ++ entRow l)[i * 17 + j]? = some u
  cases i with
  | zero =>
   simp at hx
   subst hx
   rw [Nat.zero_mul, Nat.zero_add, List.getElem?_append_left (by rw [entC_len]; exact hj)]
   exact hu
  | succ i =>
   simp at hx
   rw [List.getElem?_append_right (by rw [entC_len]; omega), entC_len]
   have := ih hx
   rwa [show (i + 1) * 17 + j - 17 = i * 17 + j by omega]
theorem entry_info : (Tryz.prog.info? 140).map (fun i => (i.size, i.bytes, i.zero.map fun z => z.cells.size)) = some (17, 200, some 17) := by kernel_rfl
set_option maxRecDepth 100000 in
theorem run_app_ent (w : World) (base g : Nat) (v : Value) (l : List (Int × Tg)) (x : Int × Tg) (hown : w.ownsRow base 140 17 v l.length (entRow l)) (hx : ∀ j u, (entC x)[j]? = some u → w.cell? ⟨g, j, none⟩ = some u) (hl : l.length ≤ 1000000) (hb : base ≤ w.heap.size) (ty : TypeId) :
 ∃ v' w', (Builtin.append_ #[69, 69] ty #[v, .slice (some ⟨g, 0, none⟩) 1 1]).run Tryz.prog w = .ok v' w' ∧ w'.ownsRow base 140 17 v' (l ++ [x]).length (entRow (l ++ [x])) ∧ w.grownBy w' v.ownBlock := by
 obtain ⟨i0, hi0, h3⟩ := Option.map_eq_some_iff.1 entry_info
 simp only [Prod.mk.injEq, Option.map_eq_some_iff] at h3
 obtain ⟨h4, h5, z, hz, hzs⟩ := h3
 obtain ⟨g2, cap2, w', hrun, hown', hgr, hat, hlt⟩ := run_append_lies (P := Tryz.prog) w 69 ty base 140 i0 z 17 200 Tryz.underlying69 hi0 hz h4 h5 hzs (by omega) v l.length (entRow l) hown ⟨g, 0, none⟩ 1 1 (entC x) (by rw [entC_len])
  (fun j u hu => by rw [add_at, Nat.zero_add]; exact hx j u hu) (fun u hu => by
   rcases List.mem_cons.1 hu with rfl | hu
   · rfl
   · exact Tg.cells_one _ u hu) (by omega) (by unfold maxLen; omega) (by omega) hb _ rfl
 refine ⟨_, w', hrun, ?_, hgr⟩
 rw [List.length_append, entRow_append]
 have : entRow [x] = entC x := by simp [entRow]
 rw [this]
 exact hown'
theorem wpList_app_ent {ops : Array Oper} {rest : List Oper} {o : Oper} {a : Act} {Q : Exit → Act → World → Prop} (w : World) (hgd : o.guard = none) (s x : Operand)
 (ho : o.op = .call { callee := .builtin .append, args := #[s, x], argTypes := #[69, 69] }) (base g : Nat) (v : Value) (l : List (Int × Tg)) (y : Int × Tg) (hs : a.eval s = v) (hx : a.eval x = .slice (some ⟨g, 0, none⟩) 1 1)
 (hown : w.ownsRow base 140 17 v l.length (entRow l)) (h2 : ∀ j u, (entC y)[j]? = some u → w.cell? ⟨g, j, none⟩ = some u) (hl : l.length ≤ 1000000) (hb : base ≤ w.heap.size)
 (hK : ∀ v' w', w'.ownsRow base 140 17 v' (l ++ [y]).length (entRow (l ++ [y])) → w.grownBy w' v.ownBlock → wpList Tryz.prog ops Q rest (a.put o.dst v') w') : wpList Tryz.prog ops Q (o :: rest) a w := by
 refine wpList_plain hgd fun K hK' => ?_
 obtain ⟨v', w', hrun, h3, h4⟩ := run_app_ent w base g v l y hown h2 hl hb o.type
 unfold Oper.wp
 simp [execOp, ho, resolve, invoke, builtin, hs, hx, hrun, Result.andThen]
 exact hK' _ _ (hK v' w' h3 h4)
end Go.Proofs.YtlejelbefmkakaaGreat

namespace Go.Proofs.YtlejelbefmkakaaGreat
open Go.RowKit
structure Il (w : World) (lo hi : Nat) (A : Option Addr) (p : List Int) : Prop where
 len : p.length * 8 ≤ 140737488351232
 at_ : p ≠ [] → ∃ b o, A = some ⟨b, o, none⟩ ∧ lo ≤ b ∧ b < hi ∧ ∀ i x, p[i]? = some x → w.cell? ⟨b, o + i, none⟩ = some (.int .i64 x)
theorem Il.no {w w' : World} {lo hi : Nat} {A : Option Addr} {p : List Int} (h : Il w lo hi A p) (f : Fr No w w') (hh : hi ≤ w.heap.size) : Il w' lo hi A p :=
 ⟨h.len, fun hne => by
  obtain ⟨b, o, hA, h0, h1, hc⟩ := h.at_ hne
  exact ⟨b, o, hA, h0, h1, fun i x hx => (f.cell (by omega) fun h => h).trans (hc i x hx)⟩⟩
theorem Il.elem {w : World} {lo hi : Nat} {A : Option Addr} {p : List Int} (h : Il w lo hi A p) {j : Nat} (hj : j < p.length) : ∃ b o, A = some ⟨b, o, none⟩ ∧ b < hi ∧ w.cell? ⟨b, o + j, none⟩ = some (.int .i64 p[j]) := by
 obtain ⟨b, o, hA, -, h1, hc⟩ := h.at_ (by rintro rfl; simp at hj)
 exact ⟨b, o, hA, h1, hc j _ (List.getElem?_eq_getElem hj)⟩
structure WRow (w : World) (lo hi : Nat) (PA : Option Addr) (pc : Nat) (ps : List Int) (CA : Option Addr) (cc : Nat) (cuts : List Int) (TA : Option Addr) (tc : Nat) (ths : List (Int × Tg)) (MA : Option Addr) (mc : Nat) (made : List Int) : Prop where
 p : Il w lo hi PA ps
 c : Il w lo hi CA cuts
 t : EnRow w lo hi TA tc ths
 m : Il w lo hi MA made
theorem Il.own {w : World} {base lo : Nat} {e : TypeId} {A : Option Addr} {n c : Nat} {p : List Int} (h : w.ownsRow base e 1 (.slice A n c) n (refRow p)) (h0 : lo ≤ base) (hl : p.length * 8 ≤ 140737488351232) : Il w lo w.heap.size A p := by
 refine ⟨hl, fun hne => ?_⟩
 have hn : n = p.length := by have := h.1; simp [refRow] at this; omega
 have hn0 : 0 < n := by rw [hn]; exact List.length_pos_iff.2 hne
 obtain ⟨g, c', hA, hg0, hg1⟩ := h.form hn0
 simp only [Value.slice.injEq, true_and] at hA
 obtain ⟨rfl, rfl⟩ := hA
 refine ⟨g, 0, rfl, Nat.le_trans h0 hg0, hg1, fun i x hx => ?_⟩
 have := World.ownsRow.cells h (g := g) rfl i (.int .i64 x) (by simp [refRow, hx])
 rwa [add_at] at this
theorem EnRow.own {w : World} {base lo : Nat} {A : Option Addr} {c : Nat} {l : List (Int × Tg)} (h : w.ownsRow base 140 17 (.slice A l.length c) l.length (entRow l)) (h0 : lo ≤ base) (hl : l.length * 200 ≤ 140737488351232) (hst : ∀ x ∈ l, x.2.In w lo w.heap.size) (hr : ∀ x ∈ l, -9223372036854775808 ≤ x.1 ∧ x.1 ≤ 9223372036854775807) : EnRow w lo w.heap.size A c l := by
 have hcap : l.length ≤ c := by
  rcases h.2 with ⟨h1, h2⟩ | ⟨g, cap, cur, h1, -, -, h2, -⟩
  · rw [h2]; exact Nat.zero_le _
  · simp only [Value.slice.injEq, true_and] at h1
    rw [h1.2]; exact h2
 refine ⟨hcap, hl, fun hne => ?_, fun x hx => ⟨hr x hx, hst x hx⟩⟩
 obtain ⟨g, c', hA, hg0, hg1⟩ := h.form (List.length_pos_iff.2 hne)
 simp only [Value.slice.injEq, true_and] at hA
 obtain ⟨rfl, rfl⟩ := hA
 refine ⟨g, 0, rfl, Nat.le_trans h0 hg0, hg1, fun i x hx j u hu => ?_⟩
 have := World.ownsRow.cells h (g := g) rfl (i * 17 + j) u (entRow_at hx hu)
 rwa [add_at, ← Nat.add_assoc] at this
def SameEqP : Prop := ∀ {w : World} {lo hi lo' hi' : Nat} {PA : Option Addr} {pc : Nat} {ps : List Int} {CA : Option Addr} {cc : Nat} {cuts : List Int} {TA : Option Addr} {tc : Nat} {ths : List (Int × Tg)} {MA : Option Addr} {mc : Nat} {made : List Int} {last : Int}
 {yPA : Option Addr} {ypc : Nat} {yCA : Option Addr} {ycc : Nat} {yTA : Option Addr} {ytc : Nat} {yths : List (Int × Tg)} {yMA : Option Addr} {ymc : Nat}
 (_hx : WRow w lo hi PA pc ps CA cc cuts TA tc ths MA mc made) (_hh : hi ≤ w.heap.size) (_hy : WRow w lo' hi' yPA ypc ps yCA ycc cuts yTA ytc yths yMA ymc made) (_hh' : hi' ≤ w.heap.size) (_hpl : (ths.map fun x => (x.1, x.2.pl)) = yths.map fun x => (x.1, x.2.pl)),
 Calls Tryz.prog 80 #[.agg #[.slice PA ps.length pc, .slice CA cuts.length cc, .slice TA ths.length tc, .int .i64 last, .slice MA made.length mc], .agg #[.slice yPA ps.length ypc, .slice yCA cuts.length ycc, .slice yTA yths.length ytc, .int .i64 last, .slice yMA made.length ymc]] w fun e w' => e = .returned (.bool true) ∧ Fr No w w'
end Go.Proofs.YtlejelbefmkakaaGreat

namespace Go.Proofs.YtlejelbefmkakaaGreat
open Go.RowKit
theorem len_le_sizes : ∀ l : List V, l.length ≤ (l.map V.size).sum
 | [] => by simp
 | v :: l => by
  have := len_le_sizes l
  have := v.size_pos
  simp only [List.length_cons, List.map_cons, List.sum_cons]
  omega
theorem may_len {k n : Int} {s : ByteArray} {l : List V} {r : Int} (h : (V.mk k n s l r).may = true) : l.length ≤ 512 := by
 simp only [V.may, V.fits, Bool.and_eq_true, decide_eq_true_eq] at h
 have h1 := h.1.2
 rw [V.size_mk] at h1
 have := len_le_sizes l
 omega
theorem Tg.Form.vsmay {k : Nat} {x : Tg} (h : x.Form k) : (∀ t ∈ x.vs, t.v.may = true) ∧ x.vs.length ≤ 512 ∧ x.names.length ≤ 64 := by
 have h4 := h.2.2.2.1
 unfold Tg.Bad4 at h4
 have h1 : (ofV (x.vs.map T.v)).2 = 0 := Classical.byContradiction fun hh => h4 (.inl hh)
 unfold ofV at h1
 split at h1
 · rename_i ha
   refine ⟨fun t ht => ?_, ?_, ?_⟩
   · have := List.all_eq_true.1 ha _ (List.mem_map_of_mem ht)
     exact this
   · split at h1
     · rename_i hm
       have hs := may_len hm
       simpa using hs
     · simp at h1
   · have : ¬ 64 < x.names.length := fun hh => h4 (.inr hh)
     omega
 · simp at h1
theorem Tg.Form.home {k : Nat} {x : Tg} (h : x.Form k) (hk : x.kind ≠ 14) : ∃ s : Nat, s < k ∧ x.home = (s : Int) := by
 have h3 := h.2.2.1
 unfold Tg.Bad3 at h3
 have : 0 ≤ x.home ∧ x.home < (k : Int) := Classical.byContradiction fun hh => h3 (.inl ⟨hk, hh⟩)
 exact ⟨x.home.toNat, by omega, by omega⟩
section
variable {m1 m : Gm} {ths : List (Int × Tg)} {last : Int} {k g j : Nat} {W0 wr W4 : World}
theorem put_B {m : Gm} {r : Int} {yb : Nat} {y : Tg} {i : Nat} (h : ({ m with th := m.th ++ [(r, yb, y)] } : Gm).B i) : m.B i ∨ i = yb ∨ y.Has i := by
 rcases h with h | h | h | h | h | h | ⟨x, hx, h⟩
 · exact .inl (.inl h)
 · exact .inl (.inr (.inl h))
 · exact .inl (.inr (.inr (.inl h)))
 · exact .inl (.inr (.inr (.inr (.inl h))))
 · exact .inl (.inr (.inr (.inr (.inr (.inl h)))))
 · exact .inl (.inr (.inr (.inr (.inr (.inr (.inl h))))))
 · rcases List.mem_append.1 hx with hx | hx
   · exact .inl (.inr (.inr (.inr (.inr (.inr (.inr ⟨x, hx, h⟩))))))
   · simp only [List.mem_singleton] at hx
     subst hx
     exact .inr h
theorem ThI.put (inv : ThI m1 ths last k W0 g j m wr) (hl : ths.length ≤ 1000000) {r : Int} {x y : Tg} {yb : Nat} (hx : ths[j]? = some (r, x)) (hgood : x.Form k ∧ r ≤ last ∧ prevOf ths j < r) (f4 : Fr No wr W4) (hyb : wr.heap.size ≤ yb) (hy : Blk W4 yb 138 y.cells.toArray) (hst : y.St W4 wr.heap.size) (hpl : y.pl = x.pl)
 {es : Array MapEntry} {cl : Nat} (hm4 : W4.heap[m.M]? = some (.map es cl)) {W5 : World} (h5 : W5 = W4.drew.putObj m.M (.map (es.push { key := .int .i64 r, val := .pointer (some ⟨yb, 0, none⟩), born := cl }) (cl + 1))) :
 ({ m with th := m.th ++ [(r, yb, y)] } : Gm).Ok W0.heap.size W5 ∧ Fr No W0 W5 ∧ Blk W5 g 3 (homesRow k (ths.take j)).toArray ∧ Blk W5 yb 138 y.cells.toArray ∧
 (x.kind = 14 → ThI m1 ths last k W0 g (j + 1) { m with th := m.th ++ [(r, yb, y)] } W5) ∧
 ∀ s : Nat, x.kind ≠ 14 → x.home = (s : Int) → s < k → ThI m1 ths last k W0 g (j + 1) { m with th := m.th ++ [(r, yb, y)] } (W5.setCell ⟨g, s, none⟩ (.int .i64 (homes (ths.take j) s + 1))) := by
 have hM := lt_of_heap hm4
 have f5 : Fr (fun i => i = m.M) W4 W5 := by
  rw [h5]
  exact ((Fr.refl _ W4).drew).trans (fr_putObj _ _ _)
 have hm5 : W5.heap[m.M]? = some (.map (es.push { key := .int .i64 r, val := .pointer (some ⟨yb, 0, none⟩), born := cl }) (cl + 1)) := by
  rw [h5]
  have hM' : m.M < W4.drew.heap.size := hM
  show (W4.drew.heap.setIfInBounds m.M _)[m.M]? = _
  rw [Array.getElem?_setIfInBounds, if_pos rfl, if_pos hM']
 have hMlt : m.M < wr.heap.size := (inv.ok.lt m.M (.inr (.inl rfl))).2
 have hglt : g < wr.heap.size := inv.row.lt
 have hw0 := inv.fr.size
 have hybM : yb ≠ m.M := by omega
 have hgM : g ≠ m.M := fun e => inv.gB (e ▸ .inr (.inl rfl))
 have hok4 := inv.ok.no f4
 have hhas : ∀ b, y.Has b → wr.heap.size ≤ b := fun b hb => (hst.inn.has hb).1
 have hy5 : Blk W5 yb 138 y.cells.toArray := hy.fr f5 hybM
 have hst5 : y.St W5 W0.heap.size := (hst.fr f5 fun b hb e => by have := hhas b hb; have e' : b = m.M := e; omega).more hw0
 have hkey : ∀ z ∈ m.th, z.1 ≠ r := fun z hz e => by have := inv.key z hz; omega
 have hlt : j < ths.length := (List.getElem?_eq_some_iff.1 hx).1
 have hlen : m.th.length < 1000000 := by
  rw [pl_len inv.pl, List.length_take]
  omega
 have hok5 : ({ m with th := m.th ++ [(r, yb, y)] } : Gm).Ok W0.heap.size W5 := gok_put (la := m.last) (r := r) (x := y) hok4 (f5.mono fun i _ h => .inr h) (fun z hz => by have := (inv.ok.box z hz).lt; omega) (by omega) hkey hy5 hst5 hlen (hok4.blk.fr f5 hok4.wbs.1) hm4 hm5
 have hrow5 := (inv.row.fr f4 fun h => h).fr f5 hgM
 have fr5 : Fr No W0 W5 := (inv.fr.trans f4).trans' f5 fun i hi e => by
  have e' : i = m.M := e
  have := (inv.ok.lt m.M (.inr (.inl rfl))).1
  omega
 have hgB : ¬ ({ m with th := m.th ++ [(r, yb, y)] } : Gm).B g := fun h => by
  rcases put_B h with h | h | h
  · exact inv.gB h
  · omega
  · have := hhas g h; omega
 have hgd : ∀ i, i < j + 1 → GoodT k ths last i := fun i hi => by
  by_cases hij : i = j
  · subst hij
    intro z hz
    rw [hx] at hz
    injection hz with hz
    subst hz
    exact hgood
  · exact inv.good i (by omega)
 have hpv : prevOf ths (j + 1) = r := by simp [prevOf, hx]
 have hkk : ∀ z ∈ m.th ++ [(r, yb, y)], z.1 ≤ prevOf ths (j + 1) := fun z hz => by
  rw [hpv]
  rcases List.mem_append.1 hz with hz | hz
  · have := inv.key z hz; omega
  · simp only [List.mem_singleton] at hz
    subst hz
    exact Int.le_refl _
 have hplN := pl_step (g := yb) inv.pl hx hpl
 refine ⟨hok5, fr5, hrow5, hy5, fun hk => ⟨hok5, fr5, inv.same, hplN, by rw [homesRow_keep hx hk]; exact hrow5, hgB, inv.g0, hgd, hkk⟩, fun s hk hs hsk => ?_⟩
 have f6 : Fr (fun i => i = g) W5 (W5.setCell ⟨g, s, none⟩ (.int .i64 (homes (ths.take j) s + 1))) := (Fr.refl (fun i => i = g) W5).set (fun _ => rfl) _
 refine ⟨hok5.fr f6 fun i hi e => hgB (e ▸ hi), fr5.trans' f6 fun i hi e => by
  have e' : i = g := e
  have := inv.g0
  omega, inv.same, hplN, ?_, hgB, inv.g0, hgd, hkk⟩
 have := hrow5.set_ s (.int .i64 (homes (ths.take j) s + 1))
 rw [homesRow_step hx hk hs]
 simpa using this
end
theorem sum_good {ths : List (Int × Tg)} {made : List Int} {j k : Nat} (h : ∀ i, i < j → GoodM ths made i) (hk : made.length ≤ k) : 0 ≤ (made.take j).sum ∧ (made.take j).sum ≤ 512 * (k : Int) := by
 have h1 : ∀ j, (∀ i, i < j → GoodM ths made i) → 0 ≤ (made.take j).sum ∧ (made.take j).sum ≤ 512 * ((made.take j).length : Int) := by
  intro j
  induction j with
  | zero => simp
  | succ j ih =>
   intro h
   have hj := ih fun i hi => h i (by omega)
   rw [List.take_add_one]
   cases hg : made[j]? with
   | none => simpa using hj
   | some n =>
    have hn := h j (by omega) n hg
    have := (homes_bound ths j).1
    simp only [Option.toList_some, List.sum_append, List.sum_cons, List.sum_nil, List.length_append, List.length_cons, List.length_nil]
    omega
 have h2 := h1 j h
 have h3 : (made.take j).length ≤ k := by rw [List.length_take]; omega
 omega
theorem Gm.spare_bound (m : Gm) : -64 * (m.th.length : Int) ≤ m.spare ∧ m.spare ≤ 64 * (m.th.length : Int) := by
 unfold Gm.spare
 generalize m.th = l
 induction l with
 | nil => simp
 | cons x l ih =>
  have := m.spN_bound x
  simp only [List.map_cons, List.sum_cons, List.length_cons]
  omega
end Go.Proofs.YtlejelbefmkakaaGreat

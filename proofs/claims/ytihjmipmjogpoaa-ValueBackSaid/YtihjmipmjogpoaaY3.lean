/- Chapter 2: what the reader reads, in plain Lean. -/
import Derived.Test.YtihjmipmjogpoaaY2
namespace Go.Proofs.Ytihjmipmjogpoaa
open Go.RowKit

abbrev Got := Option (V × ByteArray × Nat)

def parseL (g : ByteArray → Nat → Got) : Nat → ByteArray → Nat → Option (List V × ByteArray × Nat)
  | 0, s, n => some ([], s, n)
  | c + 1, s, n => (g s n).bind fun q => (parseL g c q.2.1 q.2.2).map fun x => (q.1 :: x.1, x.2)

def cutN (s : ByteArray) (n : Nat) : Option (Nat × ByteArray) := if n ≤ s.size then some (bigN (strB (s.extract 0 n)), s.extract n s.size) else none

def hdB (s : ByteArray) : Nat := (s.data.toList.getD 0 0).toNat

/-- One value off the front, with a reader for its parts. -/
def parseG (g : Option (ByteArray → Nat → Got)) (s : ByteArray) (n : Nat) : Got :=
  if s.size < 1 ∨ n = 0 then none
  else if hdB s = 0 then some (.mk 0 0 ⟨#[]⟩ [] 0, s.extract 1 s.size, n - 1)
  else if hdB s = 1 then (cutN (s.extract 1 s.size) 8).map fun q => (.mk 1 ((q.1 : Int) - 9223372036854775808) ⟨#[]⟩ [] 0, q.2, n - 1)
  else if hdB s = 4 then (cutN (s.extract 1 s.size) 4).bind fun q => if 0 < q.1 then some (.mk 4 0 ⟨#[]⟩ [] q.1, q.2, n - 1) else none
  else if hdB s = 2 then (cutN (s.extract 1 s.size) 2).bind fun q => if 256 < q.1 ∨ q.2.size < q.1 then none else some (.mk 2 0 (q.2.extract 0 q.1) [] 0, q.2.extract q.1 q.2.size, n - 1)
  else if hdB s = 3 then (cutN (s.extract 1 s.size) 2).bind fun q => match g with
    | none => none
    | some g => if n - 1 < q.1 then none else (parseL g q.1 q.2 (n - 1)).map fun x => (.mk 3 0 ⟨#[]⟩ x.1 0, x.2)
  else none

def parse : Nat → ByteArray → Nat → Got
  | 0 => parseG none
  | d + 1 => parseG (some (parse d))

/-- The parts still to be read, behind those that are. -/
theorem parseL_step (g : ByteArray → Nat → Got) (c : Nat) (s : ByteArray) (n : Nat) (x : V × ByteArray × Nat) (h : g s n = some x) : parseL g (c + 1) s n = (parseL g c x.2.1 x.2.2).map fun y => (x.1 :: y.1, y.2) := by
  simp [parseL, h]

theorem parseL_none (g : ByteArray → Nat → Got) (c : Nat) (s : ByteArray) (n : Nat) (h : g s n = none) : parseL g (c + 1) s n = none := by
  simp [parseL, h]

theorem cutN_none {s : ByteArray} {n : Nat} (h : s.size < n) : cutN s n = none := if_neg (by omega)
theorem cutN_some {s : ByteArray} {n : Nat} (h : n ≤ s.size) : cutN s n = some (bigN (strB (s.extract 0 n)), s.extract n s.size) := if_pos h

theorem hd_extract (s : ByteArray) (h : 1 ≤ s.size) : ((s.extract 0 1).data.toList.getD 0 0).toNat = hdB s ∧ (s.extract 0 1).size = 1 := by
  have h0 : 0 < s.data.size := h
  refine ⟨?_, by rw [ByteArray.size_extract]; omega⟩
  unfold hdB
  congr 1
  simp [ByteArray.data_extract, h0]

theorem hdB_lt (s : ByteArray) : hdB s < 256 := UInt8.toNat_lt _

end Go.Proofs.Ytihjmipmjogpoaa

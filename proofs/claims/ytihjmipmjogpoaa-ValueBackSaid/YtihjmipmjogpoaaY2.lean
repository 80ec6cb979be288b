/- Chapter 2: the reader's numbers. -/
import Derived.Test.YtihjmipmjogpoaaY1
import Derived.Lib.ConvBytes
import Derived.Lib.SmallJoins
namespace Go.Proofs.Ytihjmipmjogpoaa
open Go.RowKit

/-- The number of a row of bytes, the highest first. -/
def bigN (l : List Nat) : Nat := l.foldl (fun a x => a * 256 + x) 0

theorem bigN_snoc (l : List Nat) (x : Nat) : bigN (l ++ [x]) = bigN l * 256 + x := by simp [bigN]

theorem bigN_lt (l : List Nat) (h : ∀ x ∈ l, x < 256) : bigN l < 256 ^ l.length := by
  suffices h' : ∀ a : Nat, l.foldl (fun a x => a * 256 + x) a < (a + 1) * 256 ^ l.length by simpa [bigN] using h' 0
  induction l with
  | nil => intro a; simp
  | cons x l ih =>
    intro a
    have h1 := ih (fun y hy => h y (by simp [hy])) (a * 256 + x)
    have h2 := h x (by simp)
    simp only [List.foldl_cons, List.length_cons, Nat.pow_succ]
    have h3 : (a * 256 + x + 1) * 256 ^ l.length ≤ ((a + 1) * 256) * 256 ^ l.length := Nat.mul_le_mul_right _ (by omega)
    have h4 : (a + 1) * 256 * 256 ^ l.length = (a + 1) * (256 ^ l.length * 256) := by rw [Nat.mul_assoc, Nat.mul_comm 256]
    omega

theorem strB_lt (s : ByteArray) : ∀ x ∈ strB s, x < 256 := by
  intro x hx
  simp only [strB, List.mem_map] at hx
  obtain ⟨y, -, rfl⟩ := hx
  exact y.toNat_lt

theorem or_shift (a x : Nat) (ha : a < 72057594037927936) (hx : x < 256) : bits .or .u64 ((a : Int) * 256) (x : Int) = (a : Int) * 256 + (x : Int) := by
  have e1 : BitVec.ofInt 64 ((a : Int) * 256) = BitVec.ofNat 64 (a * 256) := by
    rw [show ((a : Int) * 256) = ((a * 256 : Nat) : Int) by omega, BitVec.ofInt_natCast]
  have e2 : (BitVec.ofInt 64 ((a : Int) * 256) ||| BitVec.ofInt 64 (x : Int)).toNat = a * 256 + x := by
    rw [e1, BitVec.ofInt_natCast, BitVec.toNat_or, BitVec.toNat_ofNat, BitVec.toNat_ofNat, Nat.mod_eq_of_lt (by omega), Nat.mod_eq_of_lt (by omega)]
    have h := Nat.two_pow_add_eq_or_of_lt (i := 8) (b := x) hx a
    rw [show a * 256 = 2 ^ 8 * a by omega]
    exact h.symm
  show IntKind.u64.wrap ((BitVec.ofInt 64 ((a : Int) * 256) ||| BitVec.ofInt 64 (x : Int)).toNat : Int) = _
  rw [e2, IntKind.wrap_u64]
  omega

def NumP (b r : Nat) (s : ByteArray) (n d : Int) (len : Nat) (w : World) (e : Ending) (w' : World) : Prop :=
  Fr (fun i => i = b) w w' ∧ ∃ (ok : Bool) (x : Nat) (s' : ByteArray), e = .returned (.tuple #[.int .u64 (x : Int), .bool ok]) ∧ Rdr w' b r s' n d ∧
    ((ok = false ∧ x = 0 ∧ s.size < len ∧ s' = s) ∨ (ok = true ∧ len ≤ s.size ∧ x = bigN (strB (s.extract 0 len)) ∧ s' = s.extract len s.size))

set_option maxRecDepth 100000 in
set_option maxHeartbeats 4000000 in
theorem number_any (b r : Nat) (s : ByteArray) (n d : Int) (len : Nat) (w : World) (hlen : len ≤ 8) (h : Rdr w b r s n d) : Calls Try.prog 143 #[.pointer (some ⟨r, 0, none⟩), .int .i64 (len : Int)] w (NumP b r s n d len w) := by
  have c0 := h.st.cell 0
  simp only [List.getElem?_toArray, List.getElem?_cons_zero] at c0
  have cf := h.st.frozen 0
  have q0 := h.st.lt
  have hT := rtake_any b s len w (by omega) h.box
  have H := hide h
  have HT := hide hT
  clear h hT
  go_enter Try.func143, Try.ntmps143
  go_wp2_with fail
  refine HT.out.mono ?_
  rintro e w2 ⟨fr2, hq⟩
  obtain ⟨s1, ok, rfl, hs1, hfin⟩ : ∃ (s1 : ByteArray) (ok : Bool), e = .returned (.tuple #[.string s1, .bool ok]) ∧ s1.size ≤ 8 ∧ (∀ w3, Fr No w2 w3 → NumP b r s n d len w (.returned (.tuple #[.int .u64 (bigN (strB s1) : Int), .bool ok])) w3) := by
    have hst2 := H.out.st.fr fr2 (fun h => H.out.ne h.symm)
    rcases hq with ⟨h1, rfl, h2⟩ | ⟨h1, rfl, h2⟩
    · refine ⟨_, _, rfl, by decide, fun w3 f3 => ⟨fr2.thenNo f3, false, 0, s, rfl, Rdr.fr ⟨h2, hst2⟩ f3 (fun h => h) (fun h => h), .inl ⟨rfl, rfl, by omega, rfl⟩⟩⟩
    · refine ⟨_, _, rfl, ?_, fun w3 f3 => ⟨fr2.thenNo f3, true, _, _, rfl, Rdr.fr ⟨h2, hst2⟩ f3 (fun h => h) (fun h => h), .inr ⟨rfl, by omega, by simp, by simp⟩⟩⟩
      rw [ByteArray.size_extract]; simp; omega
  have hcv := fun w => Lib.run_convert_string_bytes (P := Try.prog) w 9 151 5 s1 Try.underlying9 Try.underlying151 Try.underlying5
  have hbs := Lib.bytesWorld_size w2 5 s1
  have hcell := Lib.bytesWorld_cell w2 5 s1
  have fb := Fr.ofBelow (Joins.below_bytesWorld _ w2 5 s1 (Nat.le_refl _))
  have HFI := hide hfin
  have HB := hide fb
  clear hq fr2 hfin c0 cf q0 fb
  go_wp2_with fail
  generalize Lib.bytesWorld w2 5 s1 = W0 at *
  go_loopw [4, 21] (fun s4 i wr => ∃ j : Nat, j ≤ s1.size ∧ i = .int .i64 j ∧ s4 = .int .u64 (bigN ((strB s1).take j) : Int) ∧ Fr No W0 wr) (fun _ i _ => s1.size - (intOf i).toNat)
  case atStart => exact ⟨0, Nat.zero_le _, rfl, rfl, Fr.refl _ _⟩
  case round =>
    obtain ⟨j, hj, rfl, rfl, fr⟩ := hrel
    by_cases hlt : j < s1.size
    · have hcj := hcell j hlt
      rw [← fr.cell (by rw [hbs]; omega) (fun h => h)] at hcj
      have hjl : j < (strB s1).length := by rw [strB_length]; exact hlt
      have htk : (strB s1).take (j + 1) = (strB s1).take j ++ [(strB s1)[j]] := List.take_succ_eq_append_getElem hjl
      have hx : (strB s1)[j] < 256 := strB_lt s1 _ (List.getElem_mem hjl)
      have hbl : bigN ((strB s1).take j) < 256 ^ j := by
        have := bigN_lt ((strB s1).take j) (fun x hx => strB_lt s1 x (List.mem_of_mem_take hx))
        rwa [List.length_take, Nat.min_eq_left (by omega)] at this
      have hcx : (s1.data.toList.getD j 0).toNat = (strB s1)[j] := by
        have h9 : j < s1.data.size := hlt
        simp [strB, Array.getElem?_eq_getElem h9]
      rw [hcx] at hcj
      generalize (strB s1)[j] = x at *
      have hb2 : bigN ((strB s1).take j) < 72057594037927936 := Nat.lt_of_lt_of_le hbl (by have : (256 : Nat) ^ j ≤ 256 ^ 7 := Nat.pow_le_pow_right (by omega) (by omega); simpa using this)
      have HT := hide htk
      have HF := hide fr
      clear htk fr hbl hcx hjl hcell
      go_wp2_with fail
      go_roundw
      case rel => exact ⟨j + 1, by omega, by go_num, by rw [HT.out, bigN_snoc, or_shift _ _ hb2 hx]; simp, HF.out⟩
      case measure => simp [intOf]; omega
    · have hje : j = s1.size := by omega
      have htk : (strB s1).take j = strB s1 := by rw [hje, ← strB_length, List.take_length]
      have HF := hide fr
      clear fr hcell
      rw [htk]
      go_wp2
      go_ret2
      exact HFI.out _ (HB.out.trans HF.out)

end Go.Proofs.Ytihjmipmjogpoaa

/- Chapter 2: the reader of bytes: what is made, what it takes. -/
import Derived.Test.YtihjmipmjogpoaaW3
namespace Go.Proofs.Ytihjmipmjogpoaa
open Go.RowKit

/-- A reader at r over the box at b: so many bytes ahead, so many parts and levels left. -/
structure Rdr (w : World) (b r : Nat) (s : ByteArray) (n d : Int) : Prop where
  box : Blk w b 9 #[.string s]
  st : Blk w r 162 #[.func (.func 141) #[] #[.pointer (some ⟨b, 0, none⟩)], .func (.func 142) #[] #[.pointer (some ⟨b, 0, none⟩)], .int .i64 n, .int .i64 d]

theorem Rdr.fr {w w' : World} {b r : Nat} {s : ByteArray} {n d : Int} {S : Nat → Prop} (h : Rdr w b r s n d) (f : Fr S w w') (hb : ¬ S b) (hr : ¬ S r) : Rdr w' b r s n d := ⟨h.box.fr f hb, h.st.fr f hr⟩

theorem Rdr.ne {w : World} {b r : Nat} {s : ByteArray} {n d : Int} (h : Rdr w b r s n d) : b ≠ r := h.box.ne_ h.st (by decide)

theorem rover_any (s : ByteArray) (w : World) : Calls Try.prog 115 #[.string s] w fun e w' => e = .returned (.pointer (some ⟨w.heap.size + 1, 0, none⟩)) ∧ Rdr w' w.heap.size (w.heap.size + 1) s 512 16 ∧ Fr No w w' := by
  have hb := Blk.new w 9 #[.string s]
  have hf := ((Fr.refl No w).alloc (.cells #[.string s] 9))
  go_enter Try.func115, Try.ntmps115
  go_wp2
  go_ret
  exact ⟨rfl, ⟨hb.alloc _, Blk.new' _ 162 _ (by simp)⟩, hf.alloc _⟩

/-- What a take leaves. -/
def RTakeP (b : Nat) (s : ByteArray) (n : Int) (w : World) (e : Ending) (w' : World) : Prop :=
  Fr (fun i => i = b) w w' ∧ ((s.size < n ∧ e = .returned (.tuple #[.string ⟨#[]⟩, .bool false]) ∧ Blk w' b 9 #[.string s]) ∨
    (n ≤ s.size ∧ e = .returned (.tuple #[.string (s.extract 0 n.toNat), .bool true]) ∧ Blk w' b 9 #[.string (s.extract n.toNat s.size)]))

theorem rtake_any (b : Nat) (s : ByteArray) (n : Int) (w : World) (h0 : 0 ≤ n) (h : Blk w b 9 #[.string s]) : Calls Try.prog 141 #[.int .i64 n, .pointer (some ⟨b, 0, none⟩)] w (RTakeP b s n w) := by
  have c0 := h.cell 0
  simp only [List.getElem?_toArray, List.getElem?_cons_zero] at c0
  have cf := h.frozen 0
  have q0 := h.lt
  have H := hide h
  by_cases hn : s.size < n
  · go_enter Try.func141, Try.ntmps141
    go_wp2
    go_ret2
    exact ⟨Fr.refl _ _, .inl ⟨hn, rfl, H.out⟩⟩
  · have hn' : n ≤ s.size := by omega
    go_enter Try.func141, Try.ntmps141
    go_wp2
    go_ret2
    exact ⟨(Fr.refl (fun i => i = b) w).set (p := ⟨b, 0, none⟩) (fun _ => rfl) _, .inr ⟨hn', rfl, H.out.set_ 0 _⟩⟩

theorem rrest_any (b : Nat) (s : ByteArray) (w : World) (h : Blk w b 9 #[.string s]) : Calls Try.prog 142 #[.pointer (some ⟨b, 0, none⟩)] w fun e w' => e = .returned (.string s) ∧ w' = w := by
  have c0 := h.cell 0
  simp only [List.getElem?_toArray, List.getElem?_cons_zero] at c0
  go_enter Try.func142, Try.ntmps142
  go_wp2
  go_ret
  exact ⟨rfl, rfl⟩

end Go.Proofs.Ytihjmipmjogpoaa

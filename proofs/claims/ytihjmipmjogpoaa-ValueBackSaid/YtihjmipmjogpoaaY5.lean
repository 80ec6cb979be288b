/- Chapter 2: where the reading of a list's parts stands. -/
import Derived.Test.YtihjmipmjogpoaaY4
namespace Go.Proofs.Ytihjmipmjogpoaa
open Go.RowKit

/-- Where the reading of a list's parts stands. -/
structure LdInv (W5 : World) (c b r : Nat) (d1 : Int) (m j : Nat) (g : ByteArray → Nat → Got) (s0 : ByteArray) (n0 : Nat) (A : Option Addr) (cap : Nat) (l : List T) (s2 : ByteArray) (n2 : Nat) (wr : World) : Prop where
  fr : Fr (fun i => (i = b ∨ i = r) ∨ i = c) W5 wr
  len : l.length = j
  box : Blk wr c 27 #[.int .u8 3, .int .i64 0, .string ⟨#[]⟩, .slice A l.length cap, .int .i64 0]
  row : wr.ownsRow W5.heap.size 27 5 (.slice A l.length cap) l.length (rowCells l)
  ins : ∀ x ∈ l, ∃ lo hi, W5.heap.size ≤ lo ∧ hi ≤ wr.heap.size ∧ x.In wr lo hi ∧ ∀ q, (Value.slice A l.length cap).ownBlock = some q → q < lo ∨ hi ≤ q
  rd : Rdr wr b r s2 n2 d1
  n : n2 ≤ 512
  s : s2.size ≤ 4000000
  says : parseL g m s0 n0 = (parseL g (m - j) s2 n2).map fun y => (l.map T.v ++ y.1, y.2)

theorem LdInv.push {W5 wr w6 w7 : World} {c b r : Nat} {d1 : Int} {m j : Nat} {g : ByteArray → Nat → Got} {s0 : ByteArray} {n0 : Nat} {A : Option Addr} {cap : Nat} {l : List T} {s2 : ByteArray} {n2 : Nat} (h : LdInv W5 c b r d1 m j g s0 n0 A cap l s2 n2 wr) (hc : c < W5.heap.size) (hb : b < W5.heap.size) (hr : r < W5.heap.size) (hcb : c ≠ b) (hcr : c ≠ r)
    (hj : j < m) {t : T} {s3 : ByteArray} {n3 : Nat} (hg : g s2 n2 = some (t.v, s3, n3)) (hle : s3.size ≤ s2.size ∧ n3 ≤ n2) (f6 : Fr (fun i => i = b ∨ i = r) wr w6) (ht : t.In w6 wr.heap.size w6.heap.size) (hR : Rdr w6 b r s3 n3 d1) {o1 o2 : Obj} {g' cap' : Nat}
    (hgrow : ((w6.alloc o1).alloc o2).grownBy w7 (Value.slice A l.length cap).ownBlock) (hown : w7.ownsRow W5.heap.size 27 5 (.slice (some ⟨g', 0, none⟩) (l.length + 1) cap') (l.length + 1) (rowCells l ++ t.cells)) (hat : (Value.slice A l.length cap).ownBlock = some g' ∨ g' = ((w6.alloc o1).alloc o2).heap.size) :
    LdInv W5 c b r d1 m (j + 1) g s0 n0 (some ⟨g', 0, none⟩) cap' (l ++ [t]) s3 n3 (w7.setCell ⟨c, 3, none⟩ (.slice (some ⟨g', 0, none⟩) (l.length + 1) cap')) := by
  have hol := owns_lt h.row
  have hs5 := h.fr.size
  have hs6 := f6.size
  have f7 : Fr (fun i => (Value.slice A l.length cap).ownBlock = some i) w6 w7 := (((Fr.refl _ w6).alloc o1).alloc o2).grown hgrow (fun k hk _ => hk)
  have hs7 := f7.size
  have f67 : Fr (fun i => (i = b ∨ i = r) ∨ i = c) W5 w7 := (h.fr.trans' f6 (fun i _ hi => .inl hi)).trans' f7 (fun i hi hk => by have := hol i hk; omega)
  have hnb : ∀ i, i < W5.heap.size → ¬ (Value.slice A l.length cap).ownBlock = some i := fun i hi hk => by have := hol i hk; omega
  have fc : Fr (fun i => i = c) w7 (w7.setCell ⟨c, 3, none⟩ (.slice (some ⟨g', 0, none⟩) (l.length + 1) cap')) := (Fr.refl (fun i => i = c) w7).set (p := ⟨c, 3, none⟩) (fun _ => rfl) _
  have hgc : g' ≠ c := by
    rcases hat with h' | h'
    · have := hol _ h'; omega
    · simp at h'; omega
  have e1 : (l ++ [t]).length = l.length + 1 := by simp
  refine ⟨f67.trans' fc (fun i _ hi => .inr hi), by rw [e1, h.len], ?_, ?_, ?_, ?_, by have := h.n; omega, by have := h.s; omega, ?_⟩
  · have hx := ((h.box.fr f6 (fun hi => hi.elim hcb hcr)).fr f7 (hnb c hc)).set_ 3 (.slice (some ⟨g', 0, none⟩) (l.length + 1) cap')
    rw [e1]
    simpa using hx
  · rw [rowCells_snoc, e1]
    exact owns_fr hown fc (fun q hq hc' => by
      simp [Value.ownBlock] at hq
      have h' : q = c := hc'
      omega)
  · intro x hx
    rcases List.mem_append.1 hx with hx | hx
    · obtain ⟨lo, hi, h1, h2, h3, h4⟩ := h.ins x hx
      refine ⟨lo, hi, h1, by simp; omega, ?_, fun q hq => ?_⟩
      · exact ((h3.fr f6 h2 (fun i h5 h6 h7 => by have h7' : i = b ∨ i = r := h7; omega)).fr f7 (by omega) (fun i h5 h6 h7 => by have := h4 i h7; omega)).fr fc (by omega) (fun i h5 h6 h7 => by have h7' : i = c := h7; omega)
      · simp [Value.ownBlock] at hq
        subst hq
        rcases hat with h' | h'
        · exact h4 _ h'
        · simp at h'; omega
    · obtain rfl : x = t := by simpa using hx
      refine ⟨wr.heap.size, w6.heap.size, hs5, by simp; omega, ?_, fun q hq => ?_⟩
      · exact (ht.fr f7 (Nat.le_refl _) (fun i h5 h6 h7 => by have := hol i h7; omega)).fr fc (by omega) (fun i h5 h6 h7 => by have h7' : i = c := h7; omega)
      · simp [Value.ownBlock] at hq
        subst hq
        rcases hat with h' | h'
        · have := hol _ h'; omega
        · simp at h'; omega
  · exact (hR.fr f7 (hnb b hb) (hnb r hr)).fr fc (fun h' => hcb (Eq.symm h')) (fun h' => hcr (Eq.symm h'))
  · rw [h.says, show m - j = (m - (j + 1)) + 1 by omega, parseL_step g _ s2 n2 _ hg, Option.map_map]
    congr 1
    funext y
    simp

end Go.Proofs.Ytihjmipmjogpoaa

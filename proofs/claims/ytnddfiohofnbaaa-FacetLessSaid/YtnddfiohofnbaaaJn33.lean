/- Texts joined: Hf3. -/
import Derived.Test.YtnddfiohofnbaaaJn32
/- Layer 11 over any sound world: Stack, Find. -/
namespace Go.Proofs.Ytnddfiohofnbaaa
open Go.RowKit

/-- What all of some sets have in common. -/
def allS (S : List Nat) : Nat := S.foldl (fun a b => a &&& b) 63

theorem allS_step {S : List Nat} {j : Nat} (h : j < S.length) : allS (S.take (j + 1)) = allS (S.take j) &&& S[j] := by
  unfold allS
  rw [List.take_add_one, List.getElem?_eq_getElem h, List.foldl_append]
  rfl

theorem allS_lt (S : List Nat) : allS S < 64 := by
  unfold allS
  have : ∀ (S : List Nat) (a : Nat), a < 64 → S.foldl (fun a b => a &&& b) a < 64 := by
    intro S
    induction S with
    | nil => intro a h; exact h
    | cons x S ih => intro a h; exact ih _ (and_lt h)
  exact this S 63 (by decide)

section
variable {m m' : Gm} {lo n : Nat} {W W' : World} {r q t : Int} {a b c s : Nat}

theorem RowA.no {A : Option Addr} {S : List Nat} (h : RowA W A S) (f : Fr No W W') : RowA W' A S := fun j hj => by
  obtain ⟨g, o, e, hg, hc⟩ := h j hj
  exact ⟨g, o, e, Nat.lt_of_lt_of_le hg f.size, (f.cell hg fun h => h).trans hc⟩

set_option maxRecDepth 100000 in
set_option maxHeartbeats 8000000 in
/-- Stack, of a thing and sets that may be. -/
theorem Stack_f (h : FW m lo n W) (hn : n ≤ 100000) {x : Nat × Tg} (hg : m.get r = some x) (hb : m.Abl r b) {A : Option Addr} {cap : Nat} {S : List Nat} (hA : RowA W A S) (hS : ∀ x ∈ S, x < 64) (hl : S.length ≤ 1000000) :
    Calls Try.prog 33 #[.pointer (some ⟨m.wb, 0, none⟩), .int .i64 r, .slice A S.length cap] W (NarR m lo n (m.root r) (allS S &&& b) W) := by
  have hf := (Fr.refl No W).alloc (.cells #[.int .i64 r] 28)
  have b2 := Blk.new W 28 #[.int .i64 r]
  have hask := ask_g (cap := cap) (h.ok.no hf) (hA.no hf) (fun x hx => by have := hS x hx; omega) hl (b2.cell 0) b2.lt
  have hv : m.askV S r = 0 := by
    unfold Gm.askV
    rw [if_pos (List.all_eq_true.2 fun x hx => by simpa using hS x hx)]
    simp [Gm.isE, hg]
  rw [hv] at hask
  obtain ⟨y, hy, hyk⟩ := h.fs.root_is hg
  obtain ⟨a, ha⟩ := h.fs.abl _ y hy
  have hba := h.fs.able_root hg hb ha
  have hlt := allS_lt S
  have hNar := fun w' (f : Fr No W w') => narrow_g (h.ok.no f) (Nat.le_trans h.lo1 f.size) h.what (h.room hn) hg hy hyk (h.rng hy) ha hb hba hlt
  have HFIN : Hid (∀ (g : Nat) (w3 w' : World), Fr No W w3 → (m.nar g (m.root r) (allS S &&& b) a).2.Ok lo w' → Fr m.B w3 w' → NarR m lo n (m.root r) (allS S &&& b) W (.returned (.tuple #[.int .i64 (m.nar g (m.root r) (allS S &&& b) a).1, .int .i64 0])) w') := hide fun g w3 w' f3 hok f => by
    obtain ⟨q', m', y', e, h1, h2, h3, h4, h5, h6, h7⟩ := (h.no f3).nar hy hyk ha (and_lt hlt) (by rw [Nat.and_assoc, hba]) hn hok f
    exact ⟨q', m', y', e, h1, h2, h3, h4, h5, f3.no.trans h6, f3.no.trans h7⟩
  have HSELF : Hid (S = [] → ∀ w', Fr No W w' → NarR m lo n (m.root r) (allS S &&& b) W (.returned (.tuple #[.int .i64 r, .int .i64 0])) w') := hide fun hS0 w' f => by
    subst hS0
    refine ⟨r, m, x, rfl, Gm.Ext.refl m, (h.no f).more, hg, rfl, ?_, f.no, f.no⟩
    have : allS [] &&& b = b := and63 hb.lt
    rw [this]
    exact hb
  have HASK := hide hask
  have HNAR := hide hNar
  have HF0 := hide hf
  have HA := hide hA
  have HS := hide hS
  have HL := hide hl
  clear hask hv hNar hf b2 hA hS hl h hg hb hy hyk ha hba hlt
  generalize m.root r = t at *
  go_enter Try.func33, Try.ntmps33
  go_wp2_with fail
  generalize World.alloc W _ = W0 at *
  refine HASK.out.mono ?_
  rintro e w1 ⟨rfl, rfl⟩
  by_cases h0 : S.length = 0
  · have hS0 : S = [] := List.length_eq_zero_iff.1 h0
    subst hS0
    have HFN := hide (HSELF.out rfl w1 HF0.out)
    clear h0
    go_wp2
    go_ret2
    exact HFN.out
  · have e0 : (S.length == 0) = false := by simpa using h0
    have hlen := HL.out
    clear h0
    go_wp2_with fail
    go_loopw [9, 26] (fun v i wr => ∃ j : Nat, j ≤ S.length ∧ i = .int .i64 j ∧ v = .int .u8 (allS (S.take j) : Int) ∧ wr = w1) (fun _ i _ => S.length - (intOf i).toNat)
    case atStart => exact ⟨0, Nat.zero_le _, rfl, rfl, rfl⟩
    case round =>
      obtain ⟨j, hj, rfl, rfl, rfl⟩ := hrel
      by_cases hlt : j < S.length
      · obtain ⟨b', o, rfl, hb1, x0⟩ := (HA.out.no HF0.out) j hlt
        have hx := HS.out _ (List.getElem_mem hlt)
        have hal := allS_lt (S.take j)
        have e1 : bits .and .u8 (allS (S.take j) : Int) (S[j] : Int) = ((allS (S.take j) &&& S[j] : Nat) : Int) := u8_and_nat _ _ (by omega) (by omega)
        rw [← allS_step hlt] at e1
        generalize hq2 : allS (S.take (j + 1)) = a2 at *
        have HE := hide hq2
        generalize allS (S.take j) = a1 at *
        generalize S[j] = u at *
        clear hx hal hq2
        go_wp2
        go_roundw
        case rel => exact ⟨j + 1, hlt, by go_num, by rw [HE.out], trivial⟩
        case measure => simp [intOf] <;> omega
      · obtain rfl : S.length = j := by omega
        rw [List.take_length]
        go_wp2_with fail
        refine (HNAR.out wr HF0.out).mono ?_
        rintro e w5 ⟨g, rfl, hok, f5⟩
        have HFN := hide (HFIN.out g wr w5 HF0.out hok f5)
        clear hok f5
        go_wp2
        go_ret2
        exact HFN.out

set_option maxRecDepth 100000 in
set_option maxHeartbeats 4000000 in
/-- Find, of a narrowing that is there. -/
theorem Find_f (h : FW m lo n W) {x z : Nat × Tg} (hg : m.get r = some x) (hb : m.Abl r b) (hs : s < 64) (hz : m.get q = some z) (hrt : m.root q = m.root r) (hq : m.Abl q (s &&& b)) :
    Calls Try.prog 34 #[.pointer (some ⟨m.wb, 0, none⟩), .int .i64 r, .int .u8 (s : Int)] W fun e w' => e = .returned (.tuple #[.int .i64 q, .bool true]) ∧ Fr No W w' := by
  obtain ⟨y, hy, hyk⟩ := h.fs.root_is hg
  obtain ⟨a, ha⟩ := h.fs.abl _ y hy
  have hf := ((Fr.refl No W).alloc (.cells #[.int .u8 (s : Int)] 52)).alloc (.cells #[.int .i64 r] 28)
  have b1 := (Blk.new W 52 #[.int .u8 (s : Int)]).alloc (.cells #[.int .i64 r] 28)
  have b2 := Blk.new' (W.alloc (.cells #[.int .u8 (s : Int)] 52)) 28 #[.int .i64 r] (g := W.heap.size + 1) (by simp)
  have hrow : RowA ((W.alloc (.cells #[.int .u8 (s : Int)] 52)).alloc (.cells #[.int .i64 r] 28)) (some ⟨W.heap.size, 0, none⟩) [s] := fun j hj => by
    have : j = 0 := by simp at hj; exact hj
    subst this
    exact ⟨_, _, rfl, b1.lt, b1.cell 0⟩
  have hask := ask_g (cap := 1) (h.ok.no hf) hrow (by simp; omega) (by simp) (b2.cell 0) b2.lt
  have hv : m.askV [s] r = 0 := by simp [Gm.askV, hs, Gm.isE, hg]
  rw [hv] at hask
  have HASK := hide hask
  have HR := hide fun w' (f : Fr No W w') => root_g (h.ok.no f) h.what hg
  have HB := hide fun w' (f : Fr No W w') => Able_w (h.ok.no f) hb
  have HA := hide fun w' (f : Fr No W w') => Able_w (h.ok.no f) ha
  have e1 : bits .and .u8 (s : Int) (b : Int) = ((s &&& b : Nat) : Int) := u8_and_nat s b (by omega) (by have := hb.lt; omega)
  have HFD := hide fun w' (f : Fr No W w') => gFind_w (h.ok.no f) (m.root r) ((s &&& b : Nat) : Int)
  have HF0 := hide hf
  by_cases hsa : s &&& b = a
  · have hqt : q = m.root r := h.fs.one h.ok.fkeys hz hy (by rw [hrt, Gm.root_of hy hyk]) (by rw [hsa] at hq; exact hq) ha
    have e2 : (((s &&& b : Nat) : Int) == (a : Int)) = true := by simp [hsa]
    subst hqt
    generalize s &&& b = cb at *
    clear hf b1 b2 hrow hask hv h hg hb hs hz hrt hq hy hyk ha hsa
    generalize m.root r = t at *
    go_enter Try.func34, Try.ntmps34
    go_wp2_with fail
    generalize World.alloc (World.alloc W _) _ = W0 at *
    refine HASK.out.mono ?_
    rintro e w1 ⟨rfl, rfl⟩
    go_wp2_with fail
    refine (HR.out w1 HF0.out).mono ?_
    rintro e w2 ⟨rfl, f2⟩
    have HF2 := hide (HF0.out.trans f2)
    clear f2
    go_wp2_with fail
    refine (HB.out w2 HF2.out).mono ?_
    rintro e w3 ⟨rfl, f3⟩
    have HF3 := hide (HF2.out.trans f3)
    clear f3
    go_wp2_with fail
    refine (HA.out w3 HF3.out).mono ?_
    rintro e w4 ⟨rfl, f4⟩
    have HF4 := hide (HF3.out.trans f4)
    clear f4
    go_wp2
    go_ret2
    exact ⟨rfl, HF4.out⟩
  · have e2 : (((s &&& b : Nat) : Int) == (a : Int)) = false := by simp; omega
    have hzk : z.2.kind = 14 := Classical.byContradiction fun hk => by
      have : q = m.root r := by rw [← hrt, Gm.root_of hz hk]
      rw [this] at hq
      exact hsa (hq.uniq ha)
    obtain ⟨s', hs', -, y', hy', -, c', hc', h1', h2'⟩ := h.fs.set q z hz hzk
    have hro := Gm.root_fac hz hzk
    have e4 := hq.uniq (.facet hz hzk hs' hc')
    rw [h1'] at e4
    have hmem := (h.fs.fac z.2.ofr z.2.set q).2 ⟨z, hz, hzk, rfl, rfl⟩
    rw [← hro, hrt, hs', ← e4] at hmem
    have hfg : m.fget (m.root r) ((s &&& b : Nat) : Int) = some q := by
      cases hq0 : m.fget (m.root r) ((s &&& b : Nat) : Int) with
      | none => exact absurd ⟨rfl, rfl⟩ (Gm.fget_none hq0 _ hmem)
      | some q2 =>
        obtain ⟨j, hj, -⟩ := Gm.fget_some hq0
        have m1 := List.mem_of_getElem? hj
        obtain ⟨i1, hi1, e5⟩ := List.mem_iff_getElem.1 m1
        obtain ⟨i2, hi2, e6⟩ := List.mem_iff_getElem.1 hmem
        have : i1 = i2 := by
          refine (List.getElem_inj (h₀ := by simpa using hi1) (h₁ := by simpa using hi2) h.ok.fkeys).1 ?_
          simp [e5, e6]
        subst this
        rw [e5] at e6
        simpa using e6
    have hfd : m.findV (m.root r) ((s &&& b : Nat) : Int) = .tuple #[.int .i64 q, .bool true] := by unfold Gm.findV; rw [hfg]
    rw [hfd] at HFD
    generalize s &&& b = cb at *
    clear hf b1 b2 hrow hask hv h hg hb hs hz hrt hq hy hyk ha hsa hzk hs' hy' hc' h1' h2' hro e4 hmem hfg hfd
    generalize m.root r = t at *
    go_enter Try.func34, Try.ntmps34
    go_wp2_with fail
    generalize World.alloc (World.alloc W _) _ = W0 at *
    refine HASK.out.mono ?_
    rintro e w1 ⟨rfl, rfl⟩
    go_wp2_with fail
    refine (HR.out w1 HF0.out).mono ?_
    rintro e w2 ⟨rfl, f2⟩
    have HF2 := hide (HF0.out.trans f2)
    clear f2
    go_wp2_with fail
    refine (HB.out w2 HF2.out).mono ?_
    rintro e w3 ⟨rfl, f3⟩
    have HF3 := hide (HF2.out.trans f3)
    clear f3
    go_wp2_with fail
    refine (HA.out w3 HF3.out).mono ?_
    rintro e w4 ⟨rfl, f4⟩
    have HF4 := hide (HF3.out.trans f4)
    clear f4
    go_wp2_with fail
    refine (HFD.out w4 HF4.out).mono ?_
    rintro e w' ⟨rfl, rfl⟩
    go_wp2
    go_ret2
    exact ⟨rfl, HF4.out⟩
end

end Go.Proofs.Ytnddfiohofnbaaa

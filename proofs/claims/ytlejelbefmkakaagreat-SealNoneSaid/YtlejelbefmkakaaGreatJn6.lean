/- Texts joined: Wo12, Wo14, Wo13, Wo15, Wo16, Wo17, Wo18, X4, B3. -/
import Derived.Test.YtlejelbefmkakaaGreatJn5
import Derived.Deep.RegionHeld3
import Derived.Deep.AppendLies
import Derived.Deep.RegionLaw
/- Worlds: Make, of a sealer, an opener, a box. -/
namespace Go.Proofs.YtlejelbefmkakaaGreat
open Go.RowKit

/-- What Make leaves of a thing that may be made. -/
def MakeRes (m : Wm) (kind home : Int) (v : V) (n1 lost ofr byr set : Int) (full : Bool) (s lo : Nat) (W : World) (e : Ending) (w' : World) : Prop :=
  e = .returned (.tuple #[.int .i64 ((m.th.length : Int) + 1), .int .i64 0]) ∧ ∃ (g : Nat) (t' : T), t'.v = v ∧ W.heap.size ≤ g ∧ (∀ b ∈ t'.blocks, W.heap.size ≤ b) ∧ (m.add g ⟨kind, home, t', n1, lost, ofr, byr, set, full⟩ s).Ok lo w' ∧ Fr m.B W w'

theorem zero_refs : V.zero.refs = [] := by
  unfold V.refs
  rw [if_pos zero_may]
  simp [V.zero, V.walk_mk, walkL, refsOf]

set_option maxRecDepth 100000 in
set_option maxHeartbeats 8000000 in
theorem make5 {m : Wm} {lo : Nat} {W : World} (h : m.Ok lo W) (hlo : lo ≤ W.heap.size) (home : Nat) (hs : home < m.made.length) (h512 : m.made[home] < 512) (hlen : m.th.length < 100000) :
    Calls Tryz.prog 85 #[.pointer (some ⟨m.wb, 0, none⟩), .agg (th16 5 (home : Int) 0 0 ⟨#[]⟩ none 0 0 0 0 0 0 0 0 false)] W (MakeRes m 5 home T.zero.v 0 0 0 0 0 false home lo W) := by
  have ht := fun W' : World => (T.zero_ow W' 0 W'.heap.size).inn
  have hzv : T.zero.v.may = true := by rw [T.zero_v, zero_may]
  have hF := fun W' (f : Fr No W W') => form5 (h.no f) home hs
  have hN := fun W' (f : Fr No W W') => names_w (h.no f) 5 (home : Int) 0 0 ⟨#[]⟩ none 0 [] 0 0 0 0 0 0 false W'.heap.size (ht W') (Nat.le_refl _) (by show T.zero.v.refs.length ≤ _; rw [T.zero_v, zero_refs]; simp)
  have hO := fun W' (f : Fr No W W') => ownWhat_w 5 (home : Int) 0 0 ⟨#[]⟩ none 0 [] 0 0 0 0 0 0 false W' W'.heap.size (ht W') (Nat.le_refl _) hzv
  have hz0 : m.are (T.mk 0 0 ⟨#[]⟩ none 0 [] 0).v.refs = true := by show m.are T.zero.v.refs = true; rw [T.zero_v, zero_refs]; rfl
  rw [hz0] at hN
  simp only [List.length_nil] at hN hO
  have hT := fun W' (_ : Fr No W W') => fits5 (W := W') (home : Int) 0 0 ⟨#[]⟩ none 0 0 0 0 0 0 0 0 false m.wb
  have hb0 := Blk.new W 138 (th16 5 (home : Int) 0 0 ⟨#[]⟩ none 0 0 0 0 0 0 0 0 false)
  have hf0 := (Fr.refl No W).alloc (.cells (th16 5 (home : Int) 0 0 ⟨#[]⟩ none 0 0 0 0 0 0 0 0 false) 138)
  have HOK := hide h
  have HF := hide hF
  have HN := hide hN
  have HO := hide hO
  have HT := hide hT
  have HB := hide hb0
  have HF0 := hide hf0
  unfold th16 at HF HN HO HT HB HF0 hb0 ⊢
  obtain ⟨d0, d1, d2, d3, d4, d5, d6, d7, d8, d9, d10, d11, d12, d13, d14, d15⟩ := hb0.cells16
  have dq := hb0.lt
  clear hF hN hO hT hb0 hf0 h ht hzv hz0
  go_enter Tryz.func85, Tryz.ntmps85
  go_wp2_with fail
  generalize World.alloc W _ = W0 at *
  refine (none_w (HOK.out.no HF0.out)).mono ?_
  rintro e w' ⟨rfl, rfl⟩
  go_wp2_with fail
  refine (HF.out w' HF0.out).mono ?_
  rintro e w1 ⟨rfl, ff⟩
  have hb := HB.out.fr ff fun h => h
  replace HB := hide hb
  replace HF0 := hide (HF0.out.trans ff)
  clear d0 d1 d2 d3 d4 d5 d6 d7 d8 d9 d10 d11 d12 d13 d14 d15 dq ff
  obtain ⟨d0, d1, d2, d3, d4, d5, d6, d7, d8, d9, d10, d11, d12, d13, d14, d15⟩ := hb.cells16
  have dq := hb.lt
  clear hb
  go_wp2_with fail
  refine (HN.out w1 HF0.out).mono ?_
  rintro e w2 ⟨rfl, ff⟩
  have hb := HB.out.fr ff fun h => h
  replace HB := hide hb
  replace HF0 := hide (HF0.out.trans ff)
  clear d0 d1 d2 d3 d4 d5 d6 d7 d8 d9 d10 d11 d12 d13 d14 d15 dq ff
  obtain ⟨d0, d1, d2, d3, d4, d5, d6, d7, d8, d9, d10, d11, d12, d13, d14, d15⟩ := hb.cells16
  have dq := hb.lt
  clear hb
  go_wp2_with fail
  refine (asks5 w2).mono ?_
  rintro e w3 ⟨rfl, rfl⟩
  go_wp2_with fail
  refine (by5 5 (by simp) w3).mono ?_
  rintro e w5 ⟨rfl, rfl⟩
  go_wp2_with fail
  refine (HT.out w5 HF0.out).mono ?_
  rintro e w6 ⟨rfl, ff⟩
  have hb := HB.out.fr ff fun h => h
  replace HB := hide hb
  replace HF0 := hide (HF0.out.trans ff)
  clear d0 d1 d2 d3 d4 d5 d6 d7 d8 d9 d10 d11 d12 d13 d14 d15 dq ff
  obtain ⟨d0, d1, d2, d3, d4, d5, d6, d7, d8, d9, d10, d11, d12, d13, d14, d15⟩ := hb.cells16
  have dq := hb.lt
  clear hb
  go_wp2_with fail
  have hok6 := HOK.out.no HF0.out
  have hz : 0 < m.made.length := by omega
  obtain ⟨gD, c, hA2, hg0, hg1⟩ := hok6.made.form hz
  simp only [Value.slice.injEq, true_and] at hA2
  have hcell : w6.cell? ⟨gD, home, none⟩ = some (.int .i64 (m.made[home] : Int)) := by
    have := World.ownsRow.cells hok6.made (g := gD) (by rw [hA2.1]; rfl) home (.int .i64 (m.made[home] : Int)) (by simp [hs])
    rwa [add_at, Nat.zero_add] at this
  have x5 : w6.cell? ⟨m.wb, 5, none⟩ = some (.slice m.D m.made.length m.dc) := by
    have := hok6.blk.cell 5
    simpa [Wm.cells] using this
  rw [hA2.1] at x5
  have xq := hok6.blk.lt
  have hlt5 : decide ((m.made[home] : Int) ≥ 512) = false := by simp; omega
  generalize hmd : m.made[home] = mv at *
  clear hok6 hz hA2
  go_region
  all_goals
    go_simp
    go_wp2_with fail
    have HF7 := hide HF0.out.drew
    refine (HO.out w6.drew HF7.out).mono ?_
    rintro e w8 ⟨⟨k9, n9, s9, A9, cap9, l9, r9⟩, rfl, hv9, hsh9, f9⟩
    have hb := HB.out.fr (((Fr.refl No w6).drew).trans f9) fun h => h
    have hz6 := HF0.out.size
    have hly := lay_w ((HOK.out.no HF7.out).no f9) (by have := f9.size; have := HF7.out.size; omega) 5 k9 n9 s9 A9 cap9 l9 r9 0 0 0 0 0 false home hs (by rw [hmd]; exact h512) (by decide) hlen (hsh9.more (by have := HF7.out.size; omega) (Nat.le_refl _))
    have hval : (Th.val ⟨5, (home : Int), T.mk k9 n9 s9 A9 cap9 l9 r9, 0, 0, 0, 0, 0, false⟩) = .agg (th16 5 (home : Int) k9 n9 s9 A9 l9.length cap9 r9 0 0 0 0 0 false) := rfl
    rw [hval]
    have hbl : ∀ b ∈ (T.mk k9 n9 s9 A9 cap9 l9 r9).blocks, W.heap.size ≤ b := fun b hb => by have := (T.In.blocks _ hsh9.inn b hb).1; have := HF7.out.size; omega
    have HLY := hide hly
    have HV9 := hide hv9
    have HBL := hide hbl
    have HF9 := hide (HF7.out.trans f9)
    have hd0 : w8.cell? ⟨W.heap.size, 0, none⟩ = some (.int .u8 5) := hb.cell 0
    have HB8 := hide hb
    unfold th16 at HLY ⊢
    clear d0 d1 d2 d3 d4 d5 d6 d7 d8 d9 d10 d11 d12 d13 d14 d15 dq hcell x5 xq hlt5 hv9 hsh9 f9 hly hval hbl hb hz6 hd0
    go_wp2_with fail
    refine HLY.out.mono ?_
    rintro e w9 ⟨rfl, hok9, f10⟩
    have hnb : ¬ m.B W.heap.size := fun hb => by have := (HOK.out.lt _ hb).2; omega
    have hb9 := HB8.out.fr f10 hnb
    have hd0 : w9.cell? ⟨W.heap.size, 0, none⟩ = some (.int .u8 5) := hb9.cell 0
    have hq0 := hb9.lt
    have HOK9 := hide hok9
    have HF10 := hide (HF9.out.no.trans f10)
    have hg8 := HF9.out.size
    have HG8 := hide hg8
    clear hok9 f10 hnb hb9 hg8
    go_wp2_with fail
    go_ret2
    exact ⟨rfl, _, _, HV9.out, HG8.out, HBL.out, HOK9.out, HF10.out⟩

end Go.Proofs.YtlejelbefmkakaaGreat

/- Worlds: Make, of a thing of the kind 7. -/
namespace Go.Proofs.YtlejelbefmkakaaGreat
open Go.RowKit

set_option maxRecDepth 100000 in
set_option maxHeartbeats 8000000 in
theorem make7 {m : Wm} {lo : Nat} {W : World} (h : m.Ok lo W) (hlo : lo ≤ W.heap.size) (home : Nat) (k n : Int) (s : ByteArray) (A : Option Addr) (cap : Nat) (l : List T) (r : Int) (hs : home < m.made.length) (h512 : m.made[home] < 512) (hlen : m.th.length < 100000) (hi : Nat) (ht : (T.mk k n s A cap l r).In W 0 hi) (hhi : hi ≤ W.heap.size) (hm : (T.mk k n s A cap l r).v.may = true) (hln : (T.mk k n s A cap l r).v.refs.length ≤ 140737488351232) (hare : m.are (T.mk k n s A cap l r).v.refs = true) (ofr : Int) {x : Nat × Th} (hg : m.get ofr = some x) (hk5 : x.2.kind = 5) (hxh : x.2.home = (home : Int)) :
    Calls Tryz.prog 85 #[.pointer (some ⟨m.wb, 0, none⟩), .agg (th16 7 (home : Int) k n s A l.length cap r 0 0 ofr 0 0 false)] W (MakeRes m 7 home (T.mk k n s A cap l r).v 0 0 ofr 0 0 false home lo W) := by
  have hF := fun W' (f : Fr No W W') => form7 (h.no f) home k n s A cap l r ofr hi (ht.no f hhi) (Nat.le_trans hhi f.size) hm hs
  have hN := fun W' (f : Fr No W W') => names_w (h.no f) 7 (home : Int) k n s A cap l r 0 0 ofr 0 0 false hi (ht.no f hhi) (Nat.le_trans hhi f.size) hln
  rw [hare] at hN
  have hO := fun W' (f : Fr No W W') => ownWhat_w 7 (home : Int) k n s A cap l r 0 0 ofr 0 0 false W' hi (ht.no f hhi) (Nat.le_trans hhi f.size) hm
  have hT := fun W' (f : Fr No W W') => fits7 (h.no f) (home : Int) k n s A l.length cap r 0 0 ofr 0 0 false hg hk5 hxh
  have hI := fun W' (f : Fr No W W') => Is_w (h.no f) ofr
  have hgi : (m.get ofr).isSome = true := by rw [hg]; rfl
  rw [hgi] at hI
  have hb0 := Blk.new W 138 (th16 7 (home : Int) k n s A l.length cap r 0 0 ofr 0 0 false)
  have hf0 := (Fr.refl No W).alloc (.cells (th16 7 (home : Int) k n s A l.length cap r 0 0 ofr 0 0 false) 138)
  have HOK := hide h
  have HF := hide hF
  have HN := hide hN
  have HO := hide hO
  have HT := hide hT
  have HI := hide hI
  have HB := hide hb0
  have HF0 := hide hf0
  unfold th16 at HF HN HO HT HB HF0 hb0 ⊢
  obtain ⟨d0, d1, d2, d3, d4, d5, d6, d7, d8, d9, d10, d11, d12, d13, d14, d15⟩ := hb0.cells16
  have dq := hb0.lt
  clear hF hN hO hT hb0 hf0 h hI hgi hg hk5 hxh ht hhi hm hln hare
  go_enter Tryz.func85, Tryz.ntmps85
  go_wp2_with fail
  generalize World.alloc W _ = W0 at *
  refine (none_w (HOK.out.no HF0.out)).mono ?_
  rintro e w' ⟨rfl, rfl⟩
  go_wp2_with fail
  refine (HF.out w' HF0.out).mono ?_
  rintro e w1 ⟨rfl, ff⟩
  have hb := HB.out.fr ff fun h => h
  replace HB := hide hb
  replace HF0 := hide (HF0.out.trans ff)
  clear d0 d1 d2 d3 d4 d5 d6 d7 d8 d9 d10 d11 d12 d13 d14 d15 dq ff
  obtain ⟨d0, d1, d2, d3, d4, d5, d6, d7, d8, d9, d10, d11, d12, d13, d14, d15⟩ := hb.cells16
  have dq := hb.lt
  clear hb
  go_wp2_with fail
  refine (HN.out w1 HF0.out).mono ?_
  rintro e w2 ⟨rfl, ff⟩
  have hb := HB.out.fr ff fun h => h
  replace HB := hide hb
  replace HF0 := hide (HF0.out.trans ff)
  clear d0 d1 d2 d3 d4 d5 d6 d7 d8 d9 d10 d11 d12 d13 d14 d15 dq ff
  obtain ⟨d0, d1, d2, d3, d4, d5, d6, d7, d8, d9, d10, d11, d12, d13, d14, d15⟩ := hb.cells16
  have dq := hb.lt
  clear hb
  go_wp2_with fail
  refine (asks7 w2).mono ?_
  rintro e w3 ⟨rfl, rfl⟩
  go_wp2_with fail
  refine (HI.out w3 HF0.out).mono ?_
  rintro e w4 ⟨rfl, rfl⟩
  go_wp2_with fail
  refine (by5 7 (by simp) w4).mono ?_
  rintro e w5 ⟨rfl, rfl⟩
  go_wp2_with fail
  refine (HT.out w5 HF0.out).mono ?_
  rintro e w6 ⟨rfl, ff⟩
  have hb := HB.out.fr ff fun h => h
  replace HB := hide hb
  replace HF0 := hide (HF0.out.trans ff)
  clear d0 d1 d2 d3 d4 d5 d6 d7 d8 d9 d10 d11 d12 d13 d14 d15 dq ff
  obtain ⟨d0, d1, d2, d3, d4, d5, d6, d7, d8, d9, d10, d11, d12, d13, d14, d15⟩ := hb.cells16
  have dq := hb.lt
  clear hb
  go_wp2_with fail
  have hok6 := HOK.out.no HF0.out
  have hz : 0 < m.made.length := by omega
  obtain ⟨gD, c, hA2, hg0, hg1⟩ := hok6.made.form hz
  simp only [Value.slice.injEq, true_and] at hA2
  have hcell : w6.cell? ⟨gD, home, none⟩ = some (.int .i64 (m.made[home] : Int)) := by
    have := World.ownsRow.cells hok6.made (g := gD) (by rw [hA2.1]; rfl) home (.int .i64 (m.made[home] : Int)) (by simp [hs])
    rwa [add_at, Nat.zero_add] at this
  have x5 : w6.cell? ⟨m.wb, 5, none⟩ = some (.slice m.D m.made.length m.dc) := by
    have := hok6.blk.cell 5
    simpa [Wm.cells] using this
  rw [hA2.1] at x5
  have xq := hok6.blk.lt
  have hlt5 : decide ((m.made[home] : Int) ≥ 512) = false := by simp; omega
  generalize hmd : m.made[home] = mv at *
  clear hok6 hz hA2
  go_region
  all_goals
    go_simp
    go_wp2_with fail
    have HF7 := hide HF0.out.drew
    refine (HO.out w6.drew HF7.out).mono ?_
    rintro e w8 ⟨⟨k9, n9, s9, A9, cap9, l9, r9⟩, rfl, hv9, hsh9, f9⟩
    have hb := HB.out.fr (((Fr.refl No w6).drew).trans f9) fun h => h
    have hz6 := HF0.out.size
    have hly := lay_w ((HOK.out.no HF7.out).no f9) (by have := f9.size; have := HF7.out.size; omega) 7 k9 n9 s9 A9 cap9 l9 r9 0 0 ofr 0 0 false home hs (by rw [hmd]; exact h512) (by decide) hlen (hsh9.more (by have := HF7.out.size; omega) (Nat.le_refl _))
    have hval : (Th.val ⟨7, (home : Int), T.mk k9 n9 s9 A9 cap9 l9 r9, 0, 0, ofr, 0, 0, false⟩) = .agg (th16 7 (home : Int) k9 n9 s9 A9 l9.length cap9 r9 0 0 ofr 0 0 false) := rfl
    rw [hval]
    have hbl : ∀ b ∈ (T.mk k9 n9 s9 A9 cap9 l9 r9).blocks, W.heap.size ≤ b := fun b hb => by have := (T.In.blocks _ hsh9.inn b hb).1; have := HF7.out.size; omega
    have HLY := hide hly
    have HV9 := hide hv9
    have HBL := hide hbl
    have HF9 := hide (HF7.out.trans f9)
    have hd0 : w8.cell? ⟨W.heap.size, 0, none⟩ = some (.int .u8 7) := hb.cell 0
    have HB8 := hide hb
    unfold th16 at HLY ⊢
    clear d0 d1 d2 d3 d4 d5 d6 d7 d8 d9 d10 d11 d12 d13 d14 d15 dq hcell x5 xq hlt5 hv9 hsh9 f9 hly hval hbl hb hz6 hd0
    go_wp2_with fail
    refine HLY.out.mono ?_
    rintro e w9 ⟨rfl, hok9, f10⟩
    have hnb : ¬ m.B W.heap.size := fun hb => by have := (HOK.out.lt _ hb).2; omega
    have hb9 := HB8.out.fr f10 hnb
    have hd0 : w9.cell? ⟨W.heap.size, 0, none⟩ = some (.int .u8 7) := hb9.cell 0
    have hq0 := hb9.lt
    have HOK9 := hide hok9
    have HF10 := hide (HF9.out.no.trans f10)
    have hg8 := HF9.out.size
    have HG8 := hide hg8
    clear hok9 f10 hnb hb9 hg8
    go_wp2_with fail
    go_ret2
    exact ⟨rfl, _, _, HV9.out, HG8.out, HBL.out, HOK9.out, HF10.out⟩

end Go.Proofs.YtlejelbefmkakaaGreat

/- Worlds: Make, of a thing of the kind 6. -/
namespace Go.Proofs.YtlejelbefmkakaaGreat
open Go.RowKit

set_option maxRecDepth 100000 in
set_option maxHeartbeats 8000000 in
theorem make6 {m : Wm} {lo : Nat} {W : World} (h : m.Ok lo W) (hlo : lo ≤ W.heap.size) (home : Nat) (hs : home < m.made.length) (h512 : m.made[home] < 512) (hlen : m.th.length < 100000) (ofr : Int) {x : Nat × Th} (hg : m.get ofr = some x) (hk5 : x.2.kind = 5) (hxh : x.2.home = (home : Int)) (hno : ∀ x ∈ m.th, ¬ (x.2.kind = 6 ∧ x.2.ofr = ofr)) :
    Calls Tryz.prog 85 #[.pointer (some ⟨m.wb, 0, none⟩), .agg (th16 6 (home : Int) 0 0 ⟨#[]⟩ none 0 0 0 0 0 ofr 0 0 false)] W (MakeRes m 6 home T.zero.v 0 0 ofr 0 0 false home lo W) := by
  have ht := fun W' : World => (T.zero_ow W' 0 W'.heap.size).inn
  have hzv : T.zero.v.may = true := by rw [T.zero_v, zero_may]
  have hF := fun W' (f : Fr No W W') => form6 (h.no f) home ofr hs
  have hN := fun W' (f : Fr No W W') => names_w (h.no f) 6 (home : Int) 0 0 ⟨#[]⟩ none 0 [] 0 0 0 ofr 0 0 false W'.heap.size (ht W') (Nat.le_refl _) (by show T.zero.v.refs.length ≤ _; rw [T.zero_v, zero_refs]; simp)
  have hO := fun W' (f : Fr No W W') => ownWhat_w 6 (home : Int) 0 0 ⟨#[]⟩ none 0 [] 0 0 0 ofr 0 0 false W' W'.heap.size (ht W') (Nat.le_refl _) hzv
  have hz0 : m.are (T.mk 0 0 ⟨#[]⟩ none 0 [] 0).v.refs = true := by show m.are T.zero.v.refs = true; rw [T.zero_v, zero_refs]; rfl
  rw [hz0] at hN
  simp only [List.length_nil] at hN hO
  have hT := fun W' (f : Fr No W W') => fits6 (h.no f) (home : Int) 0 0 ⟨#[]⟩ none 0 0 0 0 0 ofr 0 0 false hg hk5 hxh hno
  have hI := fun W' (f : Fr No W W') => Is_w (h.no f) ofr
  have hgi : (m.get ofr).isSome = true := by rw [hg]; rfl
  rw [hgi] at hI
  have hb0 := Blk.new W 138 (th16 6 (home : Int) 0 0 ⟨#[]⟩ none 0 0 0 0 0 ofr 0 0 false)
  have hf0 := (Fr.refl No W).alloc (.cells (th16 6 (home : Int) 0 0 ⟨#[]⟩ none 0 0 0 0 0 ofr 0 0 false) 138)
  have HOK := hide h
  have HF := hide hF
  have HN := hide hN
  have HO := hide hO
  have HT := hide hT
  have HI := hide hI
  have HB := hide hb0
  have HF0 := hide hf0
  unfold th16 at HF HN HO HT HB HF0 hb0 ⊢
  obtain ⟨d0, d1, d2, d3, d4, d5, d6, d7, d8, d9, d10, d11, d12, d13, d14, d15⟩ := hb0.cells16
  have dq := hb0.lt
  clear hF hN hO hT hb0 hf0 h hI hgi hg hk5 hxh ht hzv hz0 hno
  go_enter Tryz.func85, Tryz.ntmps85
  go_wp2_with fail
  generalize World.alloc W _ = W0 at *
  refine (none_w (HOK.out.no HF0.out)).mono ?_
  rintro e w' ⟨rfl, rfl⟩
  go_wp2_with fail
  refine (HF.out w' HF0.out).mono ?_
  rintro e w1 ⟨rfl, ff⟩
  have hb := HB.out.fr ff fun h => h
  replace HB := hide hb
  replace HF0 := hide (HF0.out.trans ff)
  clear d0 d1 d2 d3 d4 d5 d6 d7 d8 d9 d10 d11 d12 d13 d14 d15 dq ff
  obtain ⟨d0, d1, d2, d3, d4, d5, d6, d7, d8, d9, d10, d11, d12, d13, d14, d15⟩ := hb.cells16
  have dq := hb.lt
  clear hb
  go_wp2_with fail
  refine (HN.out w1 HF0.out).mono ?_
  rintro e w2 ⟨rfl, ff⟩
  have hb := HB.out.fr ff fun h => h
  replace HB := hide hb
  replace HF0 := hide (HF0.out.trans ff)
  clear d0 d1 d2 d3 d4 d5 d6 d7 d8 d9 d10 d11 d12 d13 d14 d15 dq ff
  obtain ⟨d0, d1, d2, d3, d4, d5, d6, d7, d8, d9, d10, d11, d12, d13, d14, d15⟩ := hb.cells16
  have dq := hb.lt
  clear hb
  go_wp2_with fail
  refine (asks6 w2).mono ?_
  rintro e w3 ⟨rfl, rfl⟩
  go_wp2_with fail
  refine (HI.out w3 HF0.out).mono ?_
  rintro e w4 ⟨rfl, rfl⟩
  go_wp2_with fail
  refine (by5 6 (by simp) w4).mono ?_
  rintro e w5 ⟨rfl, rfl⟩
  go_wp2_with fail
  refine (HT.out w5 HF0.out).mono ?_
  rintro e w6 ⟨rfl, ff⟩
  have hb := HB.out.fr ff fun h => h
  replace HB := hide hb
  replace HF0 := hide (HF0.out.trans ff)
  clear d0 d1 d2 d3 d4 d5 d6 d7 d8 d9 d10 d11 d12 d13 d14 d15 dq ff
  obtain ⟨d0, d1, d2, d3, d4, d5, d6, d7, d8, d9, d10, d11, d12, d13, d14, d15⟩ := hb.cells16
  have dq := hb.lt
  clear hb
  go_wp2_with fail
  have hok6 := HOK.out.no HF0.out
  have hz : 0 < m.made.length := by omega
  obtain ⟨gD, c, hA2, hg0, hg1⟩ := hok6.made.form hz
  simp only [Value.slice.injEq, true_and] at hA2
  have hcell : w6.cell? ⟨gD, home, none⟩ = some (.int .i64 (m.made[home] : Int)) := by
    have := World.ownsRow.cells hok6.made (g := gD) (by rw [hA2.1]; rfl) home (.int .i64 (m.made[home] : Int)) (by simp [hs])
    rwa [add_at, Nat.zero_add] at this
  have x5 : w6.cell? ⟨m.wb, 5, none⟩ = some (.slice m.D m.made.length m.dc) := by
    have := hok6.blk.cell 5
    simpa [Wm.cells] using this
  rw [hA2.1] at x5
  have xq := hok6.blk.lt
  have hlt5 : decide ((m.made[home] : Int) ≥ 512) = false := by simp; omega
  generalize hmd : m.made[home] = mv at *
  clear hok6 hz hA2
  go_region
  all_goals
    go_simp
    go_wp2_with fail
    have HF7 := hide HF0.out.drew
    refine (HO.out w6.drew HF7.out).mono ?_
    rintro e w8 ⟨⟨k9, n9, s9, A9, cap9, l9, r9⟩, rfl, hv9, hsh9, f9⟩
    have hb := HB.out.fr (((Fr.refl No w6).drew).trans f9) fun h => h
    have hz6 := HF0.out.size
    have hly := lay_w ((HOK.out.no HF7.out).no f9) (by have := f9.size; have := HF7.out.size; omega) 6 k9 n9 s9 A9 cap9 l9 r9 0 0 ofr 0 0 false home hs (by rw [hmd]; exact h512) (by decide) hlen (hsh9.more (by have := HF7.out.size; omega) (Nat.le_refl _))
    have hval : (Th.val ⟨6, (home : Int), T.mk k9 n9 s9 A9 cap9 l9 r9, 0, 0, ofr, 0, 0, false⟩) = .agg (th16 6 (home : Int) k9 n9 s9 A9 l9.length cap9 r9 0 0 ofr 0 0 false) := rfl
    rw [hval]
    have hbl : ∀ b ∈ (T.mk k9 n9 s9 A9 cap9 l9 r9).blocks, W.heap.size ≤ b := fun b hb => by have := (T.In.blocks _ hsh9.inn b hb).1; have := HF7.out.size; omega
    have HLY := hide hly
    have HV9 := hide hv9
    have HBL := hide hbl
    have HF9 := hide (HF7.out.trans f9)
    have hd0 : w8.cell? ⟨W.heap.size, 0, none⟩ = some (.int .u8 6) := hb.cell 0
    have HB8 := hide hb
    unfold th16 at HLY ⊢
    clear d0 d1 d2 d3 d4 d5 d6 d7 d8 d9 d10 d11 d12 d13 d14 d15 dq hcell x5 xq hlt5 hv9 hsh9 f9 hly hval hbl hb hz6 hd0
    go_wp2_with fail
    refine HLY.out.mono ?_
    rintro e w9 ⟨rfl, hok9, f10⟩
    have hnb : ¬ m.B W.heap.size := fun hb => by have := (HOK.out.lt _ hb).2; omega
    have hb9 := HB8.out.fr f10 hnb
    have hd0 : w9.cell? ⟨W.heap.size, 0, none⟩ = some (.int .u8 6) := hb9.cell 0
    have hq0 := hb9.lt
    have HOK9 := hide hok9
    have HF10 := hide (HF9.out.no.trans f10)
    have hg8 := HF9.out.size
    have HG8 := hide hg8
    clear hok9 f10 hnb hb9 hg8
    go_wp2_with fail
    go_ret2
    exact ⟨rfl, _, _, HV9.out, HG8.out, HBL.out, HOK9.out, HF10.out⟩

end Go.Proofs.YtlejelbefmkakaaGreat

/- seal.Pair. -/
namespace Go.Proofs.YtlejelbefmkakaaGreat
open Go.RowKit

section
variable {m : Wm} {lo : Nat} {W : World}

theorem add_old {g s i B : Nat} {x : Th} (hg : B ≤ g) (hv : ∀ b ∈ x.v.blocks, B ≤ b) (hi : (m.add g x s).B i) (hlt : i < B) : m.B i := by
  rcases hi with hi | hi | hi | hi | ⟨y, hy, hi⟩
  · exact .inl hi
  · exact .inr (.inl hi)
  · exact .inr (.inr (.inl hi))
  · refine .inr (.inr (.inr (.inl ?_)))
    simpa [Wm.add] using hi
  · rcases List.mem_append.1 hy with hy | hy
    · exact .inr (.inr (.inr (.inr ⟨y, hy, hi⟩)))
    · simp only [List.mem_singleton] at hy
      subst hy
      rcases hi with hi | hi
      · simp only at hi; omega
      · have := hv i hi; omega

theorem add_len (g s : Nat) (x : Th) : (m.add g x s).th.length = m.th.length + 1 := by simp [Wm.add]
theorem add_made (g s : Nat) (x : Th) : (m.add g x s).made.length = m.made.length := by simp [Wm.add]
theorem add_at_made {g s : Nat} {x : Th} (hs : s < m.made.length) : (m.add g x s).made[s]'(by rw [add_made]; exact hs) = m.made[s] + 1 := by
  simp [Wm.add, List.getD_eq_getElem?_getD, hs]
theorem add_get_new (g s : Nat) (x : Th) : (m.add g x s).get ((m.th.length : Int) + 1) = some (g, x) := by
  unfold Wm.get Wm.at_
  rw [add_len, if_pos (by omega)]
  simp [Wm.add]
theorem add_get_old {g s : Nat} {x : Th} {r : Int} {y : Nat × Th} (h : m.get r = some y) : (m.add g x s).get r = some y := by
  unfold Wm.get Wm.at_ at h ⊢
  rw [add_len]
  split at h
  · rename_i hr
    rw [if_pos (by omega)]
    simp only [Option.bind_some] at h ⊢
    show (m.th ++ [(g, x)])[(r - 1).toNat]? = some y
    rw [List.getElem?_append_left (by omega)]
    exact h
  · cases h

/-- What Pair leaves. -/
def PairRes (m : Wm) (home lo : Nat) (W : World) (e : Ending) (w' : World) : Prop :=
  e = .returned (.tuple #[.int .i64 ((m.th.length : Int) + 1), .int .i64 ((m.th.length : Int) + 1 + 1), .int .i64 0]) ∧ ∃ (g1 g2 : Nat) (t1 t2 : T), t1.v = V.zero ∧ t2.v = V.zero ∧
    ((m.add g1 ⟨5, home, t1, 0, 0, 0, 0, 0, false⟩ home).add g2 ⟨6, home, t2, 0, 0, (m.th.length : Int) + 1, 0, 0, false⟩ home).Ok lo w' ∧ Fr m.B W w' ∧
    ∀ i, ((m.add g1 ⟨5, home, t1, 0, 0, 0, 0, 0, false⟩ home).add g2 ⟨6, home, t2, 0, 0, (m.th.length : Int) + 1, 0, 0, false⟩ home).B i → i < W.heap.size → m.B i

set_option maxRecDepth 100000 in
set_option maxHeartbeats 4000000 in
theorem Pair_ok (h : m.Ok lo W) (hlo : lo ≤ W.heap.size) (home : Nat) (hs : home < m.made.length) (h512 : m.made[home] + 2 ≤ 512) (hlen : m.th.length + 2 < 100000) (hof : ∀ x ∈ m.th, x.2.ofr ≤ (m.th.length : Int)) :
    Calls Tryz.prog 18 #[.pointer (some ⟨m.wb, 0, none⟩), .int .i64 (home : Int)] W (PairRes m home lo W) := by
  have HTh := hide (there_w h)
  have HS := hide (Sides_w h)
  have HM := hide (Made_w h hs)
  have hmk := make5 h hlo home hs (by omega) (by omega)
  unfold th16 at hmk
  have HMK := hide hmk
  have h0 : decide ((home : Int) < 0) = false := by simp
  have h1 : decide ((home : Int) ≥ (m.made.length : Int)) = false := by simp; omega
  have hw : IntKind.i64.wrap ((m.made[home] : Int) + 2) = (m.made[home] : Int) + 2 := IntWalk.i64_in _ (by omega)
  have h2 : decide (512 < (m.made[home] : Int) + 2) = false := by simp; omega
  clear hmk
  go_enter Tryz.func18, Tryz.ntmps18
  go_wp2_with fail
  refine HTh.out.mono ?_
  rintro e w' ⟨rfl, rfl⟩
  go_wp2_with fail
  refine HS.out.mono ?_
  rintro e w' ⟨rfl, rfl⟩
  go_wp2_with fail
  refine HM.out.mono ?_
  rintro e w' ⟨rfl, rfl⟩
  go_wp2_with fail
  refine HMK.out.mono ?_
  rintro e w1 ⟨rfl, g1, t1, hv1, hg1, hb1, hok1, f1⟩
  have hmk2 := make6 hok1 (Nat.le_trans hlo f1.size) home (by rw [add_made]; exact hs) (by rw [add_at_made hs]; omega) (by rw [add_len]; omega) ((m.th.length : Int) + 1) (add_get_new _ _ _) rfl rfl (fun y hy hh => by
    rcases List.mem_append.1 hy with hy | hy
    · have := hof y hy
      omega
    · simp only [List.mem_singleton] at hy
      subst hy
      have := hh.1
      simp at this)
  have hwb : (m.add g1 ⟨5, home, t1, 0, 0, 0, 0, 0, false⟩ home).wb = m.wb := rfl
  rw [hwb] at hmk2
  unfold th16 MakeRes at hmk2
  rw [add_len] at hmk2
  have HMK2 := hide hmk2
  clear hmk2 h0 h1 h2 hw HMK HM HS HTh
  go_wp2_with fail
  refine HMK2.out.mono ?_
  rintro e w2 ⟨rfl, g2, t2, hv2, hg2, hb2, hok2, f2⟩
  have hfr : Fr m.B w' w2 := f1.trans' f2 fun i hi hb => add_old hg1 hb1 hb hi
  have hold : ∀ i, ((m.add g1 ⟨5, home, t1, 0, 0, 0, 0, 0, false⟩ home).add g2 ⟨6, home, t2, 0, 0, (m.th.length : Int) + 1, 0, 0, false⟩ home).B i → i < w'.heap.size → m.B i := fun i hi hlt =>
    add_old hg1 hb1 (add_old hg2 hb2 hi (Nat.lt_of_lt_of_le hlt f1.size)) hlt
  have HFR := hide hfr
  have HOLD := hide hold
  have HOK2 := hide hok2
  have HV1 := hide hv1
  have HV2 := hide hv2
  clear hfr hold hok2 hv1 hv2 hg1 hb1 hg2 hb2 hok1 f1 f2 hwb hof
  have hcast : ((m.th.length + 1 : Nat) : Int) + 1 = (m.th.length : Int) + 1 + 1 := by omega
  go_wp2_with fail
  refine bodyPost_ret (v := .tuple #[.int .i64 ((m.th.length : Int) + 1), .int .i64 ((m.th.length : Int) + 1 + 1), .int .i64 0]) (by simp [results, Tryz.results18, go_sem, *]) rfl ?_
  exact ⟨rfl, g1, g2, t1, t2, HV1.out.trans T.zero_v, HV2.out.trans T.zero_v, HOK2.out, HFR.out, HOLD.out⟩

set_option maxRecDepth 100000 in
/-- There is no room for two more. -/
theorem Pair_limit (h : m.Ok lo W) (home : Nat) (hs : home < m.made.length) (h512 : 512 < m.made[home] + 2) :
    Calls Tryz.prog 18 #[.pointer (some ⟨m.wb, 0, none⟩), .int .i64 (home : Int)] W fun e w' => e = .returned (.tuple #[.int .i64 0, .int .i64 0, .int .i64 8]) ∧ w' = W := by
  have HTh := hide (there_w h)
  have HS := hide (Sides_w h)
  have HM := hide (Made_w h hs)
  have hle := h.mades _ (List.getElem_mem hs)
  have h0 : decide ((home : Int) < 0) = false := by simp
  have h1 : decide ((home : Int) ≥ (m.made.length : Int)) = false := by simp; omega
  have hw : IntKind.i64.wrap ((m.made[home] : Int) + 2) = (m.made[home] : Int) + 2 := IntWalk.i64_in _ (by omega)
  have h2 : decide (512 < (m.made[home] : Int) + 2) = true := by simp; omega
  clear h hle
  go_enter Tryz.func18, Tryz.ntmps18
  go_wp2_with fail
  refine HTh.out.mono ?_
  rintro e w' ⟨rfl, rfl⟩
  go_wp2_with fail
  refine HS.out.mono ?_
  rintro e w' ⟨rfl, rfl⟩
  go_wp2_with fail
  refine HM.out.mono ?_
  rintro e w' ⟨rfl, rfl⟩
  go_wp2_with fail
  refine bodyPost_ret (v := .tuple #[.int .i64 0, .int .i64 0, .int .i64 8]) (by simp [results, Tryz.results18, go_sem, *]) rfl ?_
  exact ⟨rfl, rfl⟩
end

end Go.Proofs.YtlejelbefmkakaaGreat

/- seal.refs, seal.Seal. -/
namespace Go.Proofs.YtlejelbefmkakaaGreat
open Go.RowKit

section
variable {m : Wm} {lo : Nat} {W : World}

/-- The references of a value are things. -/
theorem srefs_yes (h : m.Ok lo W) (t : T) (hi : Nat) (ht : t.In W 0 hi) (hhi : hi ≤ W.heap.size) (hln : t.v.refs.length ≤ 140737488351232) (hare : m.are t.v.refs = true) :
    Calls Tryz.prog 87 #[.pointer (some ⟨m.wb, 0, none⟩), t.val] W fun e w' => e = .returned (.int .i64 0) ∧ Fr No W w' := by
  have hR := fun W' (f : Fr No W W') => Refs_any t W' 0 hi (ht.no f hhi) (Nat.le_trans hhi f.size)
  obtain ⟨k, n, s, A, cap, l, r⟩ := t
  rw [T.val_mk] at *
  generalize (T.mk k n s A cap l r).v.refs = L at *
  have HOK := hide h
  have HR := hide hR
  have HA := hide hare
  have hf0 := (Fr.refl No W).alloc (.cells #[.int .u8 k, .int .i64 n, .string s, .slice A l.length cap, .int .i64 r] 28)
  have HF0 := hide hf0
  clear h hR hare ht hhi hf0
  go_enter Tryz.func87, Tryz.ntmps87
  go_wp2_with fail
  generalize World.alloc W _ = W0 at *
  refine (HR.out W0 HF0.out).mono ?_
  rintro e w1 ⟨v, rfl, hrow, f1⟩
  obtain ⟨A1, c1, rfl⟩ := owns_form hrow
  have HROW := hide hrow
  have HF1 := hide (HF0.out.trans f1)
  clear hrow f1
  go_wp2_with fail
  go_loopw [10] (fun i wr => ∃ j : Nat, j ≤ L.length ∧ i = .int .i64 j ∧ wr = w1) (fun i _ => L.length - (intOf i).toNat)
  case atStart => exact ⟨0, Nat.zero_le _, rfl, rfl⟩
  case round =>
    obtain ⟨j, hj, rfl, rfl⟩ := hrel
    by_cases hlt : j < L.length
    · obtain ⟨b, rfl, hb1, e0⟩ := row_at HROW.out hlt
      have hI := Is_w (HOK.out.no HF1.out) L[j]
      have hy : (m.get L[j]).isSome = true := List.all_eq_true.1 HA.out _ (List.getElem_mem hlt)
      rw [hy] at hI
      have HI := hide hI
      generalize L[j] = u at *
      clear hI hy
      go_wp2_with fail
      refine HI.out.mono ?_
      rintro e w2 ⟨rfl, rfl⟩
      go_wp2
      go_roundw
      case rel => exact ⟨j + 1, hlt, by go_num, trivial⟩
      case measure => simp [intOf]; omega
    · obtain rfl : L.length = j := by omega
      go_wp2
      go_ret
      exact ⟨rfl, HF1.out⟩

/-- What Seal leaves. -/
def SealRes (m : Wm) (home r : Int) (v : V) (s lo : Nat) (W : World) (e : Ending) (w' : World) : Prop :=
  e = .returned (.tuple #[.int .i64 ((m.th.length : Int) + 1), .int .i64 0]) ∧ ∃ (g : Nat) (t' : T), t'.v = v ∧ (m.add g ⟨7, home, t', 0, 0, r, 0, 0, false⟩ s).Ok lo w' ∧ Fr m.B W w' ∧ ∀ i, (m.add g ⟨7, home, t', 0, 0, r, 0, 0, false⟩ s).B i → i < W.heap.size → m.B i

set_option maxRecDepth 100000 in
set_option maxHeartbeats 4000000 in
theorem Seal_ok (h : m.Ok lo W) (hlo : lo ≤ W.heap.size) (home : Nat) (hs : home < m.made.length) (h512 : m.made[home] < 512) (hlen : m.th.length < 100000) {sr : Int} {x : Nat × Th} (hg : m.get sr = some x) (hk5 : x.2.kind = 5) (hxh : x.2.home = (home : Int))
    (t : T) (hi : Nat) (ht : t.In W 0 hi) (hhi : hi ≤ W.heap.size) (hm : t.v.may = true) (hln : t.v.refs.length ≤ 140737488351232) (hare : m.are t.v.refs = true) :
    Calls Tryz.prog 19 #[.pointer (some ⟨m.wb, 0, none⟩), .int .i64 sr, t.val] W (SealRes m home sr t.v home lo W) := by
  have hM := fun W' (f : Fr No W W') => may_any t W' 0 hi (ht.no f hhi) (Nat.le_trans hhi f.size)
  have hR := fun W' (f : Fr No W W') => srefs_yes (h.no f) t hi (ht.no f hhi) (Nat.le_trans hhi f.size) hln hare
  have hI := fun W' (f : Fr No W W') => Is_w (h.no f) sr
  have hK := fun W' (f : Fr No W W') => Kind_w (h.no f) sr
  have hH := fun W' (f : Fr No W W') => Home_w (h.no f) hg (by rw [hk5]; decide)
  have hgi : (m.get sr).isSome = true := by rw [hg]; rfl
  have hgk : m.kind sr = 5 := by unfold Wm.kind; rw [hg, ← hk5]; rfl
  rw [hgi] at hI
  rw [hgk] at hK
  rw [hxh] at hH
  rw [hm] at hM
  obtain ⟨k, n, s, A, cap, l, r⟩ := t
  have hmk := fun W' (f : Fr No W W') => make7 (h.no f) (Nat.le_trans hlo f.size) home k n s A cap l r hs h512 hlen hi (ht.no f hhi) (Nat.le_trans hhi f.size) hm hln hare sr hg hk5 hxh
  unfold th16 at hmk
  rw [T.val_mk] at *
  generalize (T.mk k n s A cap l r).v = u at *
  have HTh := hide fun W' (f : Fr No W W') => there_w (h.no f)
  have HM := hide hM
  have HR := hide hR
  have HI := hide hI
  have HK := hide hK
  have HH := hide hH
  have HMK := hide hmk
  have hb0 := Blk.new W 28 #[.int .u8 k, .int .i64 n, .string s, .slice A l.length cap, .int .i64 r]
  have hf0 := (Fr.refl No W).alloc (.cells #[.int .u8 k, .int .i64 n, .string s, .slice A l.length cap, .int .i64 r] 28)
  obtain ⟨e0, e1, e2, e3, e4, ef⟩ := hb0.cells5
  have eq_ := hb0.lt
  have HB := hide hb0
  have HF := hide hf0
  clear hM hR hI hK hH hmk hb0 hf0 hgi hgk h ht hhi hm hln hare hg hk5 hxh
  go_enter Tryz.func19, Tryz.ntmps19
  go_wp2_with fail
  generalize World.alloc W _ = W0 at *
  refine (HTh.out W0 HF.out).mono ?_
  rintro e w' ⟨rfl, rfl⟩
  go_wp2_with fail
  refine (HM.out w' HF.out).mono ?_
  rintro e w1 ⟨rfl, ff⟩
  have hb := HB.out.fr ff fun h => h
  replace HB := hide hb
  replace HF := hide (HF.out.trans ff)
  clear e0 e1 e2 e3 e4 ef eq_ ff
  obtain ⟨e0, e1, e2, e3, e4, ef⟩ := hb.cells5
  have eq_ := hb.lt
  clear hb
  go_wp2_with fail
  refine (HI.out w1 HF.out).mono ?_
  rintro e w2 ⟨rfl, rfl⟩
  go_wp2_with fail
  refine (HR.out w2 HF.out).mono ?_
  rintro e w3 ⟨rfl, ff⟩
  have hb := HB.out.fr ff fun h => h
  replace HB := hide hb
  replace HF := hide (HF.out.trans ff)
  clear e0 e1 e2 e3 e4 ef eq_ ff
  obtain ⟨e0, e1, e2, e3, e4, ef⟩ := hb.cells5
  have eq_ := hb.lt
  clear hb
  go_wp2_with fail
  refine (HK.out w3 HF.out).mono ?_
  rintro e w4 ⟨rfl, rfl⟩
  go_wp2_with fail
  refine (HH.out w4 HF.out).mono ?_
  rintro e w5 ⟨rfl, rfl⟩
  go_wp2_with fail
  refine (HMK.out w5 HF.out).mono ?_
  rintro e w6 ⟨rfl, g, t', hv, hg, hbl, hok, fr⟩
  have hsz := HF.out.size
  have hold : ∀ i, (m.add g ⟨7, (home : Int), t', 0, 0, sr, 0, 0, false⟩ home).B i → i < W.heap.size → m.B i := fun i hi hlt => add_old (B := W.heap.size) (by omega) (fun b hb => by have := hbl b hb; omega) hi hlt
  have HOLD := hide hold
  have HOK6 := hide hok
  have HV := hide hv
  have HFR := hide (HF.out.no.trans fr)
  clear hold hok hv fr hbl hg hsz e0 e1 e2 e3 e4 ef eq_
  go_wp2_with fail
  go_ret2
  exact ⟨rfl, g, t', HV.out, HOK6.out, HFR.out, HOLD.out⟩
end

end Go.Proofs.YtlejelbefmkakaaGreat

/- Worlds: What. -/
namespace Go.Proofs.YtlejelbefmkakaaGreat
open Go.RowKit

/-- What What answers of a thing. -/
def WhatRes (x : Th) (W : World) (e : Ending) (w' : World) : Prop :=
  ∃ t' : T, e = .returned (.tuple #[Th.val ⟨x.kind, x.home, t', x.n, x.lost, x.ofr, x.byr, x.set, x.full⟩, .int .i64 0]) ∧ t'.v = x.v.v ∧ t'.Sh w' W.heap.size w'.heap.size ∧ Fr No W w'

set_option maxRecDepth 100000 in
set_option maxHeartbeats 4000000 in
theorem What_ok {m : Wm} {lo : Nat} {W : World} (h : m.Ok lo W) {r : Int} {x : Nat × Th} (hg : m.get r = some x) (hm : x.2.v.v.may = true) :
    Calls Tryz.prog 89 #[.pointer (some ⟨m.wb, 0, none⟩), .int .i64 r] W (WhatRes x.2 W) := by
  have hf0 := (Fr.refl No W).alloc (.cells (th16 0 0 0 0 ⟨#[]⟩ none 0 0 0 0 0 0 0 0 false) 138)
  have h0 := h.no hf0
  have hN := none_w h0
  have hI := Is_w h0 r
  have hl := look_thing h0 r
  have hx := Wm.get_mem hg
  have hbx := h0.box x hx
  have c0 := map_cell h0
  have q0 := h0.blk.lt
  have hsh := (h.vals x hx).inn
  have hi1 : (m.get r).isSome = true := by rw [hg]; rfl
  rw [hi1] at hI
  rw [hg] at hl
  have hb4 := Blk.new W 138 (th16 0 0 0 0 ⟨#[]⟩ none 0 0 0 0 0 0 0 0 false)
  obtain ⟨gx, kind, home, ⟨k, n, s, A, cap, l, r1⟩, n1, lost, ofr, byr, set, full⟩ := x
  have hbx' : Blk (W.alloc (.cells (th16 0 0 0 0 ⟨#[]⟩ none 0 0 0 0 0 0 0 0 false) 138)) gx 138 (th16 kind home k n s A l.length cap r1 n1 lost ofr byr set full) := hbx
  have hO := fun W' (f : Fr No W W') => ownWhat_w kind home k n s A cap l r1 n1 lost ofr byr set full W' W.heap.size (T.In.more (Nat.zero_le _) (Nat.le_refl _) _ (hsh.no f (Nat.le_refl _))) f.size hm
  simp only [Option.map_some] at hl
  unfold WhatRes
  simp only
  generalize (T.mk k n s A cap l r1).v = u at *
  unfold th16 at hbx' hf0 hb4 hO hN hI hl c0 q0
  obtain ⟨d0, d1, d2, d3, d4, d5, d6, d7, d8, d9, d10, d11, d12, d13, d14, d15⟩ := hbx'.cells16
  have dq := hbx'.lt
  have HN := hide hN
  have HI := hide hI
  have HO := hide hO
  have HF0 := hide hf0
  have HB4 := hide hb4
  clear hN hI hO hf0 hb4 h0 hx hbx hbx' hsh hi1 h hg hm
  go_enter Tryz.func89, Tryz.ntmps89
  go_wp2_with fail
  generalize hW0 : World.alloc W _ = W0 at *
  refine HN.out.mono ?_
  rintro e w' ⟨rfl, rfl⟩
  go_wp2_with fail
  refine HI.out.mono ?_
  rintro e w' ⟨rfl, rfl⟩
  go_wp2_with fail
  refine (HO.out w' HF0.out).mono ?_
  rintro e w1 ⟨⟨k2, n2, s2, A2, cap2, l2, r2⟩, rfl, hv, hsh, f1⟩
  have hval : (Th.val ⟨kind, home, T.mk k2 n2 s2 A2 cap2 l2 r2, n1, lost, ofr, byr, set, full⟩) = .agg (th16 kind home k2 n2 s2 A2 l2.length cap2 r2 n1 lost ofr byr set full) := rfl
  rw [hval]
  have hb := HB4.out.fr f1 fun h => h
  obtain ⟨e0, e1, e2, e3, e4, e5, e6, e7, e8, e9, e10, e11, e12, e13, e14, e15⟩ := hb.cells16
  have ez := hb.frozen
  have eq_ := hb.lt
  have HV := hide hv
  have HSH := hide hsh
  have HF1 := hide f1
  unfold th16
  clear hb hv hsh f1 d0 d1 d2 d3 d4 d5 d6 d7 d8 d9 d10 d11 d12 d13 d14 d15 dq hval c0 q0 hl
  go_wp2_with fail
  refine bodyPost_ret (v := .tuple #[.agg (th16 kind home k2 n2 s2 A2 l2.length cap2 r2 n1 lost ofr byr set full), .int .i64 0]) (by simp [results, Tryz.results89, th16, go_sem, *]) rfl ?_
  generalize hWe : World.setCell _ _ _ = We
  have fe : Fr (fun i => i = W.heap.size) w1 We := by
    rw [← hWe]
    repeat (first | with_reducible exact Fr.refl _ w1 | with_reducible refine Fr.set ?_ (by simp) _)
  have hs0 : W.heap.size + 1 ≤ w'.heap.size := by rw [← hW0]; simp
  have hbl : ∀ b ∈ (T.mk k2 n2 s2 A2 cap2 l2 r2).blocks, w'.heap.size ≤ b := fun b hb => (T.In.blocks _ HSH.out.inn b hb).1
  refine ⟨T.mk k2 n2 s2 A2 cap2 l2 r2, rfl, HV.out, ((HSH.out.fr fe fun b hb h => by have := hbl b hb; omega).more (by omega) fe.size), (HF0.out.trans HF1.out).trans' fe fun i hi h => by omega⟩

end Go.Proofs.YtlejelbefmkakaaGreat

/- seal.Open, of a box and an opener. -/
namespace Go.Proofs.YtlejelbefmkakaaGreat
open Go.RowKit

/-- A reference as a value. -/
def tRef (b : Int) : T := .mk 4 0 ⟨#[]⟩ none 0 [] b

theorem tRef_val (b : Int) : (tRef b).val = .agg #[.int .u8 4, .int .i64 0, .string ⟨#[]⟩, .slice none 0 0, .int .i64 b] := rfl
theorem tRef_v (b : Int) : (tRef b).v = .mk 4 0 ⟨#[]⟩ [] b := by rw [tRef, T.v_mk]; rfl
theorem tRef_in {b : Int} (h0 : 1 ≤ b) (h1 : b ≤ 9223372036854775807) (w : World) (lo hi : Nat) : (tRef b).In w lo hi :=
  T.in_mk.2 ⟨⟨by decide, by decide, by decide, by decide, by decide, by decide, Nat.le_refl _, by omega, h1⟩, fun h => absurd rfl h, by simp⟩
theorem tRef_may {b : Int} (h0 : 1 ≤ b) : (tRef b).v.may = true := by
  rw [tRef_v]
  simp [V.may, V.fits, V.ok_mk, V.size_mk, V.dep_mk, fok]
  omega
theorem tRef_refs {b : Int} (h0 : 1 ≤ b) : (tRef b).v.refs = [b] := by
  unfold V.refs
  rw [if_pos (tRef_may h0), tRef_v, V.walk_mk]
  simp [walkL, refsOf]

theorem get_range {m : Wm} {r : Int} {x : Nat × Th} (h : m.get r = some x) : 1 ≤ r ∧ r ≤ (m.th.length : Int) := by
  have := Wm.get_is (m := m) (r := r)
  rw [h] at this
  simpa using this.symm

/-- What Open answers. -/
def OpenRes (xb xo : Th) (W : World) (e : Ending) (w' : World) : Prop :=
  (xb.ofr = xo.ofr → ∃ t' : T, e = .returned (.tuple #[t'.val, .int .i64 0]) ∧ t'.v = xb.v.v ∧ t'.Sh w' W.heap.size w'.heap.size) ∧
  (xb.ofr ≠ xo.ofr → e = .returned (.tuple #[T.zero.val, .int .i64 91])) ∧ Fr No W w'

set_option maxRecDepth 100000 in
set_option maxHeartbeats 8000000 in
theorem Open_ok {m : Wm} {lo : Nat} {W : World} (h : m.Ok lo W) {o b : Int} {xo xb : Nat × Th} (hgo : m.get o = some xo) (hko : xo.2.kind = 6) (hmo : xo.2.v.v.may = true) (hgb : m.get b = some xb) (hkb : xb.2.kind = 7) (hmb : xb.2.v.v.may = true) :
    Calls Tryz.prog 20 #[.pointer (some ⟨m.wb, 0, none⟩), .int .i64 o, (tRef b).val] W (OpenRes xb.2 xo.2 W) := by
  obtain ⟨hb1, hb2⟩ := get_range hgb
  have hln := h.len
  have hin := fun W' lo' hi => tRef_in (b := b) hb1 (by omega) W' lo' hi
  have hM := fun W' (_ : Fr No W W') => may_any (tRef b) W' 0 W'.heap.size (hin _ _ _) (Nat.le_refl _)
  have hR := fun W' (f : Fr No W W') => srefs_yes (h.no f) (tRef b) W'.heap.size (hin _ _ _) (Nat.le_refl _) (by rw [tRef_refs hb1]; simp) (by rw [tRef_refs hb1]; simp [Wm.are, hgb])
  have hI := fun W' (f : Fr No W W') => Is_w (h.no f) o
  have hKo := fun W' (f : Fr No W W') => Kind_w (h.no f) o
  have hKb := fun W' (f : Fr No W W') => Kind_w (h.no f) b
  have hWb := fun W' (f : Fr No W W') => What_ok (h.no f) hgb hmb
  have hWo := fun W' (f : Fr No W W') => What_ok (h.no f) hgo hmo
  have e1 : (m.get o).isSome = true := by rw [hgo]; rfl
  have e2 : m.kind o = 6 := by unfold Wm.kind; rw [hgo, ← hko]; rfl
  have e3 : m.kind b = 7 := by unfold Wm.kind; rw [hgb, ← hkb]; rfl
  rw [e1] at hI
  rw [e2] at hKo
  rw [e3] at hKb
  rw [tRef_may hb1] at hM
  rw [tRef_val] at hM hR ⊢
  unfold WhatRes at hWb hWo
  obtain ⟨gb, ⟨kb, hb, vb, nb, lb, ob, yb, sb, fb⟩⟩ := xb
  obtain ⟨go, ⟨ko, ho, vo, no, lo', oo, yo, so, fo⟩⟩ := xo
  simp only at hWb hWo
  unfold OpenRes
  simp only
  have HTh := hide fun W' (f : Fr No W W') => there_w (h.no f)
  have HM := hide hM
  have HR := hide hR
  have HI := hide hI
  have HKo := hide hKo
  have HKb := hide hKb
  have HWb := hide hWb
  have HWo := hide hWo
  have h5 := (Blk.new W 28 #[.int .u8 4, .int .i64 0, .string ⟨#[]⟩, .slice none 0 0, .int .i64 b]).alloc (.cells #[.int .u8 0, .int .i64 0, .string ⟨#[]⟩, .slice none 0 0, .int .i64 0] 28)
  have h6 := Blk.new' (W.alloc (.cells #[.int .u8 4, .int .i64 0, .string ⟨#[]⟩, .slice none 0 0, .int .i64 b] 28)) 28 #[.int .u8 0, .int .i64 0, .string ⟨#[]⟩, .slice none 0 0, .int .i64 0] (g := W.heap.size + 1) (by simp)
  have hf0 := ((Fr.refl No W).alloc (.cells #[.int .u8 4, .int .i64 0, .string ⟨#[]⟩, .slice none 0 0, .int .i64 b] 28)).alloc (.cells #[.int .u8 0, .int .i64 0, .string ⟨#[]⟩, .slice none 0 0, .int .i64 0] 28)
  obtain ⟨e0, e1', e2', e3', e4, ef⟩ := h5.cells5
  have eq_ := h5.lt
  have HB := hide h5
  have HB6 := hide h6
  have HF := hide hf0
  clear hin hM hR hI hKo hKb hWb hWo e1 e2 e3 h5 h6 hf0 h hgo hko hmo hgb hkb hmb hb1 hb2 hln
  go_enter Tryz.func20, Tryz.ntmps20
  go_wp2_with fail
  generalize hW0 : World.alloc (World.alloc W _) _ = W0 at *
  refine (HTh.out W0 HF.out).mono ?_
  rintro e w' ⟨rfl, rfl⟩
  go_wp2_with fail
  refine (HM.out w' HF.out).mono ?_
  rintro e w1 ⟨rfl, ff⟩
  have hb' := HB.out.fr ff fun h => h
  replace HB6 := hide (HB6.out.fr ff fun h => h)
  replace HB := hide hb'
  have HF1 := hide (HF.out.trans ff)
  have hs0 : W.heap.size + 2 ≤ w'.heap.size := by rw [← hW0]; simp
  have HS0 := hide (Nat.le_trans hs0 ff.size)
  clear e0 e1' e2' e3' e4 ef eq_ ff hs0 hW0 HF
  obtain ⟨e0, e1, e2, e3, e4, ef⟩ := hb'.cells5
  have eq_ := hb'.lt
  clear hb'
  go_wp2_with fail
  refine (HI.out w1 HF1.out).mono ?_
  rintro e w2 ⟨rfl, rfl⟩
  go_wp2_with fail
  refine (HR.out w2 HF1.out).mono ?_
  rintro e w3 ⟨rfl, ff⟩
  have hb' := HB.out.fr ff fun h => h
  replace HB6 := hide (HB6.out.fr ff fun h => h)
  replace HB := hide hb'
  replace HF1 := hide (HF1.out.trans ff)
  replace HS0 := hide (Nat.le_trans HS0.out ff.size)
  clear e0 e1 e2 e3 e4 ef eq_ ff
  obtain ⟨e0, e1, e2, e3, e4, ef⟩ := hb'.cells5
  have eq_ := hb'.lt
  clear hb'
  go_wp2_with fail
  refine (HKo.out w3 HF1.out).mono ?_
  rintro e w4 ⟨rfl, rfl⟩
  go_wp2_with fail
  refine (HKb.out w4 HF1.out).mono ?_
  rintro e w5 ⟨rfl, rfl⟩
  go_wp2_with fail
  refine (HWb.out w5 HF1.out).mono ?_
  rintro e w6 ⟨⟨k1, n1, s1, A1, c1, l1, r1⟩, rfl, hv1, hsh1, f6⟩
  have hval1 : (Th.val ⟨kb, hb, T.mk k1 n1 s1 A1 c1 l1 r1, nb, lb, ob, yb, sb, fb⟩) = .agg (th16 kb hb k1 n1 s1 A1 l1.length c1 r1 nb lb ob yb sb fb) := rfl
  rw [hval1]
  unfold th16
  have fx := f6.alloc (.cells (th16 kb hb k1 n1 s1 A1 l1.length c1 r1 nb lb ob yb sb fb) 138)
  have b9 := Blk.new w6 138 (th16 kb hb k1 n1 s1 A1 l1.length c1 r1 nb lb ob yb sb fb)
  unfold th16 at fx b9
  have HSZ6 := hide f6.size
  have HSH1 := hide (hsh1.no ((Fr.refl No w6).alloc (.cells (th16 kb hb k1 n1 s1 A1 l1.length c1 r1 nb lb ob yb sb fb) 138)))
  unfold th16 at HSH1
  have HV1 := hide hv1
  replace HB6 := hide (HB6.out.fr fx fun h => h)
  have HB9 := hide b9
  have HF6 := hide (HF1.out.trans fx)
  have HS6 := hide (Nat.le_trans HS0.out fx.size)
  have HZ5 := hide HF1.out.size
  clear e0 e1 e2 e3 e4 ef eq_ hval1 hv1 hsh1 f6 fx b9 HB HF1 HM HR HI HKo HKb HTh HWb
  go_wp2_with fail
  generalize hg9 : w6.heap.size = g9 at *
  have HG9 : Hid (g9 ≤ (w6.alloc (.cells #[.int .u8 kb, .int .i64 hb, .int .u8 k1, .int .i64 n1, .string s1, .slice A1 l1.length c1, .int .i64 r1, .slice none 0 0, .int .i64 nb, .int .i64 lb, .int .i64 ob, .int .i64 yb, .int .u8 sb, .bool fb, .slice none 0 0, .slice none 0 0] 138)).heap.size) := hide (by simp; omega)
  generalize World.alloc w6 _ = w7 at *
  refine (HWo.out w7 HF6.out).mono ?_
  rintro e w8 ⟨⟨k2, n2, s2, A2, c2, l2, r2⟩, rfl, hv2, hsh2, f8⟩
  have hval2 : (Th.val ⟨ko, ho, T.mk k2 n2 s2 A2 c2 l2 r2, no, lo', oo, yo, so, fo⟩) = .agg (th16 ko ho k2 n2 s2 A2 l2.length c2 r2 no lo' oo yo so fo) := rfl
  rw [hval2]
  unfold th16
  have fx := f8.alloc (.cells (th16 ko ho k2 n2 s2 A2 l2.length c2 r2 no lo' oo yo so fo) 138)
  have b11 := Blk.new w8 138 (th16 ko ho k2 n2 s2 A2 l2.length c2 r2 no lo' oo yo so fo)
  unfold th16 at fx b11
  have b9 := HB9.out.fr fx fun h => h
  have b6 := HB6.out.fr fx fun h => h
  have HSH2 := hide (HSH1.out.no fx)
  have HF8 := hide (HF6.out.trans fx)
  have HF86 := hide fx
  have HS8 := hide (Nat.le_trans HS6.out fx.size)
  obtain ⟨d0, d1, d2, d3, d4, d5, d6, d7, d8, d9, d10, d11, d12, d13, d14, d15⟩ := b9.cells16
  have dq := b9.lt
  have p10 := b11.cell 10
  have pq := b11.lt
  obtain ⟨z0, z1, z2, z3, z4, zf⟩ := b6.cells5
  have zq := b6.lt
  simp only [List.getElem?_toArray, List.getElem?_cons_zero, List.getElem?_cons_succ] at p10
  clear hval2 hv2 hsh2 f8 fx b11 b9 b6 HB6 HB9 HF6 HWo
  by_cases hob : ob = oo
  · have hne : (ob != oo) = false := by simp [hob]
    go_wp2_with fail
    refine bodyPost_ret (v := .tuple #[.agg #[.int .u8 k1, .int .i64 n1, .string s1, .slice A1 l1.length c1, .int .i64 r1], .int .i64 0]) (by simp [results, Tryz.results20, go_sem, *]) rfl ?_
    generalize World.alloc w8 _ = w9 at *
    generalize hWe : World.setCell _ _ _ = We
    have fe : Fr (fun i => i = W.heap.size + 1) w9 We := by
      rw [← hWe]
      repeat (first | with_reducible exact Fr.refl _ w9 | with_reducible refine Fr.set ?_ (by simp) _)
    have hfr : Fr No W We := HF8.out.trans' fe fun i hi h => by omega
    have hbl : ∀ b ∈ (T.mk k1 n1 s1 A1 c1 l1 r1).blocks, W.heap.size + 2 ≤ b := fun b hb => by have := (T.In.blocks _ HSH2.out.inn b hb).1; have := HS0.out; omega
    have hsz := HZ5.out
    have hup := fe.size
    refine ⟨fun _ => ⟨T.mk k1 n1 s1 A1 c1 l1 r1, rfl, HV1.out, (HSH2.out.fr fe fun b hb h => by have := hbl b hb; omega).more (by omega) ?_⟩, fun h => absurd hob h, hfr⟩
    have h8 := HF86.out.size
    have h9 := HG9.out
    omega
  · have hne : (ob != oo) = true := by simp [hob]
    go_wp2_with fail
    refine bodyPost_ret (v := .tuple #[.agg #[.int .u8 0, .int .i64 0, .string ⟨#[]⟩, .slice none 0 0, .int .i64 0], .int .i64 91]) (by simp [results, Tryz.results20, go_sem, *]) rfl ?_
    generalize World.alloc w8 _ = w9 at *
    generalize hWe : World.setCell _ _ _ = We
    have fe : Fr (fun i => i = W.heap.size + 1) w9 We := by
      rw [← hWe]
      repeat (first | with_reducible exact Fr.refl _ w9 | with_reducible refine Fr.set ?_ (by simp) _)
    have hfr : Fr No W We := HF8.out.trans' fe fun i hi h => by omega
    exact ⟨fun h => absurd h hob, fun _ => rfl, hfr⟩

end Go.Proofs.YtlejelbefmkakaaGreat


namespace Go.Proofs.YtlejelbefmkakaaGreat
open Go.RowKit

/-- What a pair's or a row's mark looks like, out of what its parts' do. -/
def listMk (ps : List (Value → Prop)) (m : Value) : Prop :=
  match ps with
  | [p, q] => ∃ x y, m = .iface 276 (.agg #[x, y]) ∧ p x ∧ q y
  | _ => ∃ A len cap, m = .iface 279 (.agg #[.slice A len cap])

def mkOf (k n : Int) (s : ByteArray) (ps : List (Value → Prop)) (r : Int) (m : Value) : Prop :=
  if k = 1 then m = .iface 272 (.int .i64 n)
  else if k = 2 then m = .iface 273 (.string s)
  else if k = 4 then m = .iface 274 (.int .i64 r)
  else if k = 3 then listMk ps m
  else m = .iface 281 (.agg #[])

/-- What the mark of a value looks like. -/
def IsMk : V → Value → Prop
  | .mk k n s l r => mkOf k n s (l.map IsMk) r
termination_by v => v

theorem IsMk_mk (k n : Int) (s : ByteArray) (l : List V) (r : Int) : IsMk (.mk k n s l r) = mkOf k n s (l.map IsMk) r := by rw [IsMk]

theorem listMk_row {ps : List (Value → Prop)} {m : Value} (h : ps.length ≠ 2) : listMk ps m = ∃ A len cap, m = .iface 279 (.agg #[.slice A len cap]) := by
  match ps, h with
  | [], _ => rfl
  | [p], _ => rfl
  | [p, q], h => simp at h
  | p :: q :: x :: ps, _ => rfl

theorem mkOf.iface {k n : Int} {s : ByteArray} {ps : List (Value → Prop)} {r : Int} {m : Value} (h : mkOf k n s ps r m) : ∃ ty x, m = .iface ty x := by
  unfold mkOf at h
  by_cases h1 : k = 1
  · rw [if_pos h1] at h; exact ⟨_, _, h⟩
  rw [if_neg h1] at h
  by_cases h2 : k = 2
  · rw [if_pos h2] at h; exact ⟨_, _, h⟩
  rw [if_neg h2] at h
  by_cases h4 : k = 4
  · rw [if_pos h4] at h; exact ⟨_, _, h⟩
  rw [if_neg h4] at h
  by_cases h3 : k = 3
  · rw [if_pos h3] at h
    by_cases hl : ps.length = 2
    · obtain ⟨p, q, rfl⟩ : ∃ p q, ps = [p, q] := by
        match ps, hl with
        | [p, q], _ => exact ⟨p, q, rfl⟩
      obtain ⟨x, y, h, _⟩ := h; exact ⟨_, _, h⟩
    · rw [listMk_row hl] at h
      obtain ⟨A, le, ca, h⟩ := h; exact ⟨_, _, h⟩
  · rw [if_neg h3] at h; exact ⟨_, _, h⟩

theorem IsMk.iface {v : V} {m : Value} (h : IsMk v m) : ∃ ty x, m = .iface ty x := by
  cases v with
  | mk k n s l r => rw [IsMk_mk] at h; exact mkOf.iface h

def MarkP (v : V) (w : World) (e : Ending) (w' : World) : Prop := ∃ m, e = .returned m ∧ IsMk v m ∧ Fr No w w'

theorem Fr.grownNo {a w : World} (h : Fr No a w) : a.grownBy w none := ⟨h.os, h.tape, h.output, h.size, fun k hk _ => h.block k hk (fun h => h)⟩

theorem owns_no {a w : World} {base : Nat} {e : TypeId} {size : Nat} {v : Value} {n : Nat} {xs : List Value} (h : a.ownsRow base e size v n xs) (hf : Fr No a w) : w.ownsRow base e size v n xs :=
  h.kept hf.grownNo (by cases v.ownBlock <;> simp)

theorem mark_after {W0 w2 : World} {g base j : Nat} {v m : Value} {xs : List Value} (hb : Blk W0 g 279 #[v]) (ho : W0.ownsRow base 49 1 v j xs) (fr : Fr No W0.drew w2) :
    (w2.alloc (.cells #[m] 49)).ownsRow base 49 1 v j xs ∧ (w2.alloc (.cells #[m] 49)).cell? ⟨g, 0, none⟩ = some v ∧ (w2.alloc (.cells #[m] 49)).frozen? ⟨g, 0, none⟩ = false ∧ w2.cell? ⟨g, 0, none⟩ = some v ∧ W0.heap.size ≤ w2.heap.size ∧ g < w2.heap.size := by
  have h1 : Blk w2 g 279 #[v] := Blk.fr (a := W0.drew) hb fr (fun h => h)
  have h2 := h1.alloc (.cells #[m] 49)
  exact ⟨(owns_no (a := W0.drew) ho fr).alloc _, h2.cell 0, h2.frozen 0, h1.cell 0, fr.size, h1.lt⟩

theorem mark_grown {W w3 : World} {g : Nat} {v : Value} (hg : W.grownBy w3 v.ownBlock) (hc : W.cell? ⟨g, 0, none⟩ = some v) (hf : W.frozen? ⟨g, 0, none⟩ = false) (hlt : g < W.heap.size) (hne : some g ≠ v.ownBlock) :
    w3.cell? ⟨g, 0, none⟩ = some v ∧ w3.frozen? ⟨g, 0, none⟩ = false :=
  ⟨(hg.cell_far ⟨g, 0, none⟩ hlt hne).trans hc, (hg.frozen_far ⟨g, 0, none⟩ hlt hne).trans hf⟩

structure MarkInv (w : World) (X : Array Value) (j : Nat) (wr : World) : Prop where
  fr : Fr No w wr
  big : w.heap.size + 2 ≤ wr.heap.size
  row : ∃ v xs, Blk wr (w.heap.size + 1) 279 #[v] ∧ wr.ownsRow (w.heap.size + 2) 49 1 v j xs

theorem mark_info : (Tryz.prog.info? 49).map (fun i => (i.zero, i.size, i.bytes)) = some (some .nilIface, 1, 16) := by kernel_rfl

theorem at2 {α : Type} {l : List α} (h : l.length = 2) : ∃ a b, l = [a, b] := by
  match l, h with
  | [a, b], _ => exact ⟨a, b, rfl⟩

set_option maxRecDepth 100000 in
set_option maxHeartbeats 2000000 in
theorem mark_any (t : T) : ∀ (w : World) (lo hi : Nat), t.In w lo hi → hi ≤ w.heap.size → Calls Tryz.prog 163 #[t.val] w (MarkP t.v w) := by
  induction t using T.ind with
  | h k n s A cap l r ih =>
    intro w lo hi ht hh
    rw [T.val_mk]
    have fit := (T.in_mk.1 ht).1
    have hlen := fit.len1
    by_cases h3 : k = 3
    · subst h3
      by_cases hl2 : l.length = 2
      · obtain ⟨x1, x2, rfl⟩ := at2 hl2
        obtain ⟨b, o, k1, n1, s1, A1, cap1, l1, r1, rfl, hb0, hb1, rfl, hin, e0, e1, e2, e3, e4⟩ := T.elem ht (j := 0) (by simp)
        obtain ⟨b', o', k2, n2, s2, A2, cap2, l2, r2, hbb, hb0', hb1', rfl, hin', f0, f1, f2, f3, f4⟩ := T.elem ht (j := 1) (by simp)
        simp only [Option.some.injEq, Addr.mk.injEq, and_true] at hbb
        obtain ⟨rfl, rfl⟩ := hbb
        have IH1 := ih _ (by simp : T.mk k1 n1 s1 A1 cap1 l1 r1 ∈ _)
        have IH2 := ih _ (by simp : T.mk k2 n2 s2 A2 cap2 l2 r2 ∈ _)
        rw [T.val_mk] at IH1 IH2
        simp only [Nat.zero_mul, Nat.add_zero, Nat.one_mul] at e0 e1 e2 e3 e4 f0 f1 f2 f3 f4
        have hbw : b < w.heap.size := by omega
        have hbw' : b ≤ w.heap.size := by omega
        clear ih hl2
        go_enter Tryz.func163, Tryz.ntmps163
        go_wp2_with fail
        have frw := (Fr.refl No w).alloc (.cells #[.int .u8 3, .int .i64 n, .string s, .slice (some ⟨b, o, none⟩) 2 cap, .int .i64 r] 28)
        obtain ⟨c0, c1, c2, c3, c4, cf⟩ := (Blk.new w 28 #[.int .u8 3, .int .i64 n, .string s, .slice (some ⟨b, o, none⟩) 2 cap, .int .i64 r]).cells5
        have hin1 := hin.no frw hh
        have hin2 := hin'.no frw hh
        rw [← frw.cells _ _ hbw] at e0 e1 e2 e3 e4 f0 f1 f2 f3 f4
        have hsz0 : (w.alloc (.cells #[.int .u8 3, .int .i64 n, .string s, .slice (some ⟨b, o, none⟩) 2 cap, .int .i64 r] 28)).heap.size = w.heap.size + 1 := by simp
        generalize w.alloc (.cells #[.int .u8 3, .int .i64 n, .string s, .slice (some ⟨b, o, none⟩) 2 cap, .int .i64 r] 28) = W0 at *
        have hb2 : b < W0.heap.size := by omega
        have hb3 : w.heap.size < W0.heap.size := by omega
        have HF := hide frw
        have HZ := hide hsz0
        clear frw hsz0 hin hin' ht
        have hh0 : hi ≤ W0.heap.size := by have := HZ.out; omega
        go_region_held3 (fun w' => (∀ c i, c < W0.heap.size → w'.cell? ⟨c, i, none⟩ = W0.cell? ⟨c, i, none⟩) ∧ Fr No W0 w')
          (first | exact ⟨fun _ _ _ => rfl, Fr.drew (Fr.refl No W0)⟩ | (have hq : Fr No W0 _ := (‹_ ∧ Fr No W0 _›).2.trans ‹Fr No _ _›; exact ⟨hq.cells, hq⟩))
          (first
            | (go_at_call 163; have hs0 := (‹_ ∧ Fr No W0 _›).2; ((with_reducible refine (IH1 _ lo hi ?_ ?_).mono ?_); (exact hin1.no hs0 hh0); (exact Nat.le_trans hh0 hs0.size); rintro e w2 ⟨m1, rfl, hm1, fr1⟩; obtain ⟨ty1, y1, rfl⟩ := hm1.iface))
            | (go_at_call 163; have hs0 := (‹_ ∧ Fr No W0 _›).2; ((with_reducible refine (IH2 _ lo hi ?_ ?_).mono ?_); (exact hin2.no hs0 hh0); (exact Nat.le_trans hh0 hs0.size); rintro e w3 ⟨m2, rfl, hm2, fr2⟩; obtain ⟨ty2, y2, rfl⟩ := hm2.iface)))
        go_wp2
        go_ret
        refine ⟨_, rfl, ?_, ?_⟩
        · rw [T.v_mk, IsMk_mk]
          exact ⟨_, _, rfl, hm1, hm2⟩
        · exact HF.out.trans (‹Fr No W0 w2›.trans fr2)
      · have hl2' : ((l.length : Int) == 2) = false := by simp; omega
        obtain ⟨i0, hi0, hz0, hz1, hz2⟩ := info_parts mark_info
        go_enter Tryz.func163, Tryz.ntmps163
        go_wp2_with fail
        go_loopw [44] (fun i wr => ∃ j : Nat, j ≤ l.length ∧ i = .int .i64 j ∧ MarkInv w #[] j wr) (fun i _ => l.length - (intOf i).toNat)
        case atStart =>
          exact ⟨0, Nat.zero_le _, rfl, ((Fr.refl No w).alloc _).alloc _, by simp, _, [], Blk.new' (w.alloc _) 279 _ (by simp), World.ownsRow_nil _ _ _ _⟩
        case round =>
          obtain ⟨j, hj, rfl, inv⟩ := hrel
          have fr := inv.fr
          have big := inv.big
          obtain ⟨v, xs, blk, own⟩ := inv.row
          by_cases hlt : j < l.length
          · obtain ⟨b, o, k1, n1, s1, A1, cap1, l1, r1, rfl, hb0, hb1, hx, hin, e0, e1, e2, e3, e4⟩ := T.elem (ht.no fr hh) hlt
            have IH := ih l[j] (List.getElem_mem hlt)
            rw [hx, T.val_mk] at IH
            have HX := hide hx
            have hle := Nat.le_of_lt hlt
            clear hx ih inv
            have HT := hide ht
            clear ht
            go_wp2_with fail
            have blk1 := blk.alloc (.cells #[.int .u8 k1, .int .i64 n1, .string s1, .slice A1 l1.length cap1, .int .i64 r1] 28)
            have own1 := own.alloc (.cells #[.int .u8 k1, .int .i64 n1, .string s1, .slice A1 l1.length cap1, .int .i64 r1] 28)
            obtain ⟨x0, x1, x2, x3, x4, xf⟩ := (Blk.new wr 28 #[.int .u8 k1, .int .i64 n1, .string s1, .slice A1 l1.length cap1, .int .i64 r1]).cells5
            have frA := (Fr.refl No wr).alloc (.cells #[.int .u8 k1, .int .i64 n1, .string s1, .slice A1 l1.length cap1, .int .i64 r1] 28)
            have hinA := hin.no frA (by omega)
            have hszA : (wr.alloc (.cells #[.int .u8 k1, .int .i64 n1, .string s1, .slice A1 l1.length cap1, .int .i64 r1] 28)).heap.size = wr.heap.size + 1 := by simp
            generalize wr.alloc (.cells #[.int .u8 k1, .int .i64 n1, .string s1, .slice A1 l1.length cap1, .int .i64 r1] 28) = W0 at *
            have c0 := blk1.cell 0
            simp only [List.getElem?_toArray, List.getElem?_cons_zero] at c0
            have hv0 : ¬ v.ownBlock = some (w.heap.size + 1) := fun h => by have := own.lt _ h; omega
            have hv1 : ¬ v.ownBlock = some wr.heap.size := fun h => by have := own.lt _ h; omega
            have hq0 : w.heap.size + 1 < W0.heap.size := by omega
            have hq1 : wr.heap.size < W0.heap.size := by omega
            have hh0 : hi ≤ W0.heap.size := by omega
            have HF := hide frA
            have HZ := hide hszA
            have HB := hide blk1
            have HB0 := hide blk
            have HO := hide own
            have HO1 := hide own1
            have f0 := blk1.frozen 0
            have hv0' : some (w.heap.size + 1) ≠ v.ownBlock := Ne.symm hv0
            clear frA hszA blk1 hin e0 e1 e2 e3 e4 blk own own1
            go_region_law (first
              | ((refine step_append_lies _ (by rfl) _ _ _ (by rfl) (w.heap.size + 2) 49 i0 _ 1 16 Tryz.underlying277 hi0 hz0 hz1 hz2 rfl (by omega) v j xs (by rfl) ownD ⟨w2.heap.size, 0, none⟩ 1 1 [.iface ty1 y1] (by rfl) (by rfl) (cell_one_new _ _ _) (by simp [Value.oneCell']) (by omega) (by unfold maxLen; omega) (by omega) (by simp; omega) _ rfl ?_); intro g cp w3 hown3 hgrow hat hlt3; obtain ⟨c3, f3⟩ := mark_grown hgrow c2D f2D (by simp; omega) hv0')
              | (go_simp; go_at_call 163; (with_reducible refine (IH _ lo hi ?_ ?_).mono ?_); (exact hinA.no ((Fr.refl No W0).drew) hh0); (exact hh0); rintro e w2 ⟨m1, rfl, hm1, fr1⟩; obtain ⟨ty1, y1, rfl⟩ := hm1.iface; obtain ⟨ownD, c2D, f2D, c2, hsz2, hlt2⟩ := mark_after (m := .iface ty1 y1) HB.out HO1.out fr1))
            all_goals
              go_wp2
              go_roundw
              case rel =>
                have hb2 : Blk w3 (w.heap.size + 1) 279 #[v] := (hgrow.block (w.heap.size + 1) (by simp; omega) hv0').trans ((Blk.fr (a := W0.drew) HB.out fr1 (fun h => h)).alloc _)
                have hF : Fr No w w3 := (((((fr.thenNo HF.out).drew).thenNo fr1).alloc _).grown hgrow (fun c hc hlt => by have := HO.out.lt c hc; omega))
                exact ⟨j + 1, hlt, by go_num, hF.setNew (by simp) _, Nat.le_trans (by omega) (show w2.heap.size ≤ _ by have := hgrow.size; simp at this ⊢; omega), _, _, hb2.set_ 0 _, ownsRow_setCell_below hown3 (by simp) _⟩
              case measure => simp [intOf]; omega
          · obtain rfl : l.length = j := by omega
            have c0 := blk.cell 0
            simp only [List.getElem?_toArray, List.getElem?_cons_zero] at c0
            obtain ⟨A', n', c', rfl⟩ : ∃ A' n' c', v = .slice A' n' c' := by
              rcases own.2 with ⟨rfl, _⟩ | ⟨g, cp, cur, rfl, _⟩
              · exact ⟨_, _, _, rfl⟩
              · exact ⟨_, _, _, rfl⟩
            have HI := hide inv
            have HO := hide own
            clear inv own ih
            go_wp2
            go_ret
            refine ⟨_, rfl, ?_, HI.out.fr⟩
            rw [T.v_mk, IsMk_mk]
            show listMk _ _
            rw [listMk_row (by simpa using hl2)]
            exact ⟨_, _, _, rfl⟩
    · by_cases h1 : k = 1
      · subst h1
        go_enter Tryz.func163, Tryz.ntmps163
        go_wp2
        go_ret
        exact ⟨_, rfl, by rw [T.v_mk, IsMk_mk]; rfl, (Fr.refl No w).alloc _⟩
      have k1 : (k == 1) = false := by simp; exact h1
      by_cases h2 : k = 2
      · subst h2
        go_enter Tryz.func163, Tryz.ntmps163
        go_wp2
        go_ret
        exact ⟨_, rfl, by rw [T.v_mk, IsMk_mk]; rfl, (Fr.refl No w).alloc _⟩
      have k2 : (k == 2) = false := by simp; exact h2
      by_cases h4 : k = 4
      · subst h4
        go_enter Tryz.func163, Tryz.ntmps163
        go_wp2
        go_ret
        exact ⟨_, rfl, by rw [T.v_mk, IsMk_mk]; rfl, (Fr.refl No w).alloc _⟩
      have k4 : (k == 4) = false := by simp; exact h4
      have k3 : (k == 3) = false := by simp; exact h3
      go_enter Tryz.func163, Tryz.ntmps163
      go_wp2
      go_ret
      exact ⟨_, rfl, by rw [T.v_mk, IsMk_mk, mkOf, if_neg h1, if_neg h2, if_neg h4, if_neg h3]; rfl, (Fr.refl No w).alloc _⟩
end Go.Proofs.YtlejelbefmkakaaGreat

/- brand.Of: the mark of a value that may be. -/
namespace Go.Proofs.YtlejelbefmkakaaGreat
open Go.RowKit

def OfP (v : V) (w : World) (e : Ending) (w' : World) : Prop :=
  (v.may = true → ∃ m, e = .returned (.tuple #[m, .int .i64 0]) ∧ IsMk v m ∧ Fr No w w') ∧ (v.may = false → e = .returned (.tuple #[.nilIface, .int .i64 2]) ∧ Fr No w w')

set_option maxHeartbeats 1000000 in
theorem Of_any (t : T) (w : World) (lo hi : Nat) (ht : t.In w lo hi) (hh : hi ≤ w.heap.size) : Calls Tryz.prog 92 #[t.val] w (OfP t.v w) := by
  have hM := fun w' h h' => may_any t w' lo hi h h'
  have hO := fun w' h h' => mark_any t w' lo hi h h'
  cases t with
  | mk k n s A cap l r =>
    rw [T.val_mk] at *
    cases hm : (T.mk k n s A cap l r).v.may
    · rw [hm] at hM
      have HM := hide hm
      clear hm hO
      go_enter Tryz.func92, Tryz.ntmps92
      go_wp2_with fail
      refine (hM _ (ht.no (((Fr.refl No w).alloc _)) hh) (by simp; omega)).mono ?_
      rintro e w2 ⟨rfl, fr2⟩
      go_wp2
      go_ret2
      exact ⟨fun h => (by rw [HM.out] at h; cases h), fun _ => ⟨rfl, ((Fr.refl No w).alloc _).trans fr2⟩⟩
    · rw [hm] at hM
      have HM := hide hm
      clear hm
      go_enter Tryz.func92, Tryz.ntmps92
      go_wp2_with fail
      refine (hM _ (ht.no (((Fr.refl No w).alloc _)) hh) (by simp; omega)).mono ?_
      rintro e w2 ⟨rfl, fr2⟩
      have b0 := ((Blk.new' w 28 #[.int .u8 k, .int .i64 n, .string s, .slice A l.length cap, .int .i64 r] (g := w.heap.size) rfl)).fr fr2 (fun h => h)
      obtain ⟨c0, c1, c2, c3, c4, cf⟩ := b0.cells5
      have hF2 : Fr No w w2 := ((Fr.refl No w).alloc _).trans fr2
      have ht2 := ht.no hF2 hh
      have hh2 : hi ≤ w2.heap.size := Nat.le_trans hh hF2.size
      clear b0 ht
      go_wp2_with fail
      refine (hO _ ht2 hh2).mono ?_
      rintro e w3 ⟨m, rfl, hmk, fr3⟩
      obtain ⟨ty, y, rfl⟩ := hmk.iface
      go_wp2
      go_ret2
      exact ⟨fun _ => ⟨_, rfl, hmk, hF2.trans fr3⟩, fun h => by rw [HM.out] at h; cases h⟩

end Go.Proofs.YtlejelbefmkakaaGreat

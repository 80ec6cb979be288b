/- Texts joined: Wo14. -/
import Derived.Test.YtnddfiohofnbaaaJn10
/- Worlds: Make, of a thing of the kind 7. -/
namespace Go.Proofs.Ytnddfiohofnbaaa
open Go.RowKit

set_option maxRecDepth 100000 in
set_option maxHeartbeats 8000000 in
theorem make7 {m : Wm} {lo : Nat} {W : World} (h : m.Ok lo W) (hlo : lo ≤ W.heap.size) (home : Nat) (k n : Int) (s : ByteArray) (A : Option Addr) (cap : Nat) (l : List T) (r : Int) (hs : home < m.made.length) (h512 : m.made[home] < 512) (hlen : m.th.length < 100000) (hi : Nat) (ht : (T.mk k n s A cap l r).In W 0 hi) (hhi : hi ≤ W.heap.size) (hm : (T.mk k n s A cap l r).v.may = true) (hln : (T.mk k n s A cap l r).v.refs.length ≤ 140737488351232) (hare : m.are (T.mk k n s A cap l r).v.refs = true) (ofr : Int) {x : Nat × Th} (hg : m.get ofr = some x) (hk5 : x.2.kind = 5) (hxh : x.2.home = (home : Int)) :
    Calls Try.prog 39 #[.pointer (some ⟨m.wb, 0, none⟩), .agg (th16 7 (home : Int) k n s A l.length cap r 0 0 ofr 0 0 false)] W (MakeRes m 7 home (T.mk k n s A cap l r).v 0 0 ofr 0 0 false home lo W) := by
  have hF := fun W' (f : Fr No W W') => form7 (h.no f) home k n s A cap l r ofr hi (ht.no f hhi) (Nat.le_trans hhi f.size) hm hs
  have hN := fun W' (f : Fr No W W') => names_w (h.no f) 7 (home : Int) k n s A cap l r 0 0 ofr 0 0 false hi (ht.no f hhi) (Nat.le_trans hhi f.size) hln
  rw [hare] at hN
  have hO := fun W' (f : Fr No W W') => ownWhat_w 7 (home : Int) k n s A cap l r 0 0 ofr 0 0 false W' hi (ht.no f hhi) (Nat.le_trans hhi f.size) hm
  have hT := fun W' (f : Fr No W W') => fits7 (h.no f) (home : Int) k n s A l.length cap r 0 0 ofr 0 0 false hg hk5 hxh
  have hI := fun W' (f : Fr No W W') => Is_w (h.no f) ofr
  have hgi : (m.get ofr).isSome = true := by rw [hg]; rfl
  rw [hgi] at hI
  have hb0 := Blk.new W 83 (th16 7 (home : Int) k n s A l.length cap r 0 0 ofr 0 0 false)
  have hf0 := (Fr.refl No W).alloc (.cells (th16 7 (home : Int) k n s A l.length cap r 0 0 ofr 0 0 false) 83)
  have HOK := hide h
  have HF := hide hF
  have HN := hide hN
  have HO := hide hO
  have HT := hide hT
  have HI := hide hI
  have HB := hide hb0
  have HF0 := hide hf0
  unfold th16 at HF HN HO HT HB HF0 hb0 ⊢
  obtain ⟨d0, d1, d2, d3, d4, d5, d6, d7, d8, d9, d10, d11, d12, d13, d14, d15⟩ := hb0.cells16
  have dq := hb0.lt
  clear hF hN hO hT hb0 hf0 h hI hgi hg hk5 hxh ht hhi hm hln hare
  go_enter Try.func39, Try.ntmps39
  go_wp2_with fail
  generalize World.alloc W _ = W0 at *
  refine (none_w (HOK.out.no HF0.out)).mono ?_
  rintro e w' ⟨rfl, rfl⟩
  go_wp2_with fail
  refine (HF.out w' HF0.out).mono ?_
  rintro e w1 ⟨rfl, ff⟩
  have hb := HB.out.fr ff fun h => h
  replace HB := hide hb
  replace HF0 := hide (HF0.out.trans ff)
  clear d0 d1 d2 d3 d4 d5 d6 d7 d8 d9 d10 d11 d12 d13 d14 d15 dq ff
  obtain ⟨d0, d1, d2, d3, d4, d5, d6, d7, d8, d9, d10, d11, d12, d13, d14, d15⟩ := hb.cells16
  have dq := hb.lt
  clear hb
  go_wp2_with fail
  refine (HN.out w1 HF0.out).mono ?_
  rintro e w2 ⟨rfl, ff⟩
  have hb := HB.out.fr ff fun h => h
  replace HB := hide hb
  replace HF0 := hide (HF0.out.trans ff)
  clear d0 d1 d2 d3 d4 d5 d6 d7 d8 d9 d10 d11 d12 d13 d14 d15 dq ff
  obtain ⟨d0, d1, d2, d3, d4, d5, d6, d7, d8, d9, d10, d11, d12, d13, d14, d15⟩ := hb.cells16
  have dq := hb.lt
  clear hb
  go_wp2_with fail
  refine (asks7 w2).mono ?_
  rintro e w3 ⟨rfl, rfl⟩
  go_wp2_with fail
  refine (HI.out w3 HF0.out).mono ?_
  rintro e w4 ⟨rfl, rfl⟩
  go_wp2_with fail
  refine (by5 7 (by simp) w4).mono ?_
  rintro e w5 ⟨rfl, rfl⟩
  go_wp2_with fail
  refine (HT.out w5 HF0.out).mono ?_
  rintro e w6 ⟨rfl, ff⟩
  have hb := HB.out.fr ff fun h => h
  replace HB := hide hb
  replace HF0 := hide (HF0.out.trans ff)
  clear d0 d1 d2 d3 d4 d5 d6 d7 d8 d9 d10 d11 d12 d13 d14 d15 dq ff
  obtain ⟨d0, d1, d2, d3, d4, d5, d6, d7, d8, d9, d10, d11, d12, d13, d14, d15⟩ := hb.cells16
  have dq := hb.lt
  clear hb
  go_wp2_with fail
  have hok6 := HOK.out.no HF0.out
  have hz : 0 < m.made.length := by omega
  obtain ⟨gD, c, hA2, hg0, hg1⟩ := hok6.made.form hz
  simp only [Value.slice.injEq, true_and] at hA2
  have hcell : w6.cell? ⟨gD, home, none⟩ = some (.int .i64 (m.made[home] : Int)) := by
    have := World.ownsRow.cells hok6.made (g := gD) (by rw [hA2.1]; rfl) home (.int .i64 (m.made[home] : Int)) (by simp [hs])
    rwa [add_at, Nat.zero_add] at this
  have x5 : w6.cell? ⟨m.wb, 5, none⟩ = some (.slice m.D m.made.length m.dc) := by
    have := hok6.blk.cell 5
    simpa [Wm.cells] using this
  rw [hA2.1] at x5
  have xq := hok6.blk.lt
  have hlt5 : decide ((m.made[home] : Int) ≥ 512) = false := by simp; omega
  generalize hmd : m.made[home] = mv at *
  clear hok6 hz hA2
  go_region
  all_goals
    go_simp
    go_wp2_with fail
    have HF7 := hide HF0.out.drew
    refine (HO.out w6.drew HF7.out).mono ?_
    rintro e w8 ⟨⟨k9, n9, s9, A9, cap9, l9, r9⟩, rfl, hv9, hsh9, f9⟩
    have hb := HB.out.fr (((Fr.refl No w6).drew).trans f9) fun h => h
    have hz6 := HF0.out.size
    have hly := lay_w ((HOK.out.no HF7.out).no f9) (by have := f9.size; have := HF7.out.size; omega) 7 k9 n9 s9 A9 cap9 l9 r9 0 0 ofr 0 0 false home hs (by rw [hmd]; exact h512) (by decide) hlen (hsh9.more (by have := HF7.out.size; omega) (Nat.le_refl _))
    have hval : (Th.val ⟨7, (home : Int), T.mk k9 n9 s9 A9 cap9 l9 r9, 0, 0, ofr, 0, 0, false⟩) = .agg (th16 7 (home : Int) k9 n9 s9 A9 l9.length cap9 r9 0 0 ofr 0 0 false) := rfl
    rw [hval]
    have hbl : ∀ b ∈ (T.mk k9 n9 s9 A9 cap9 l9 r9).blocks, W.heap.size ≤ b := fun b hb => by have := (T.In.blocks _ hsh9.inn b hb).1; have := HF7.out.size; omega
    have HLY := hide hly
    have HV9 := hide hv9
    have HBL := hide hbl
    have HF9 := hide (HF7.out.trans f9)
    have hd0 : w8.cell? ⟨W.heap.size, 0, none⟩ = some (.int .u8 7) := hb.cell 0
    have HB8 := hide hb
    unfold th16 at HLY ⊢
    clear d0 d1 d2 d3 d4 d5 d6 d7 d8 d9 d10 d11 d12 d13 d14 d15 dq hcell x5 xq hlt5 hv9 hsh9 f9 hly hval hbl hb hz6 hd0
    go_wp2_with fail
    refine HLY.out.mono ?_
    rintro e w9 ⟨rfl, hok9, f10⟩
    have hnb : ¬ m.B W.heap.size := fun hb => by have := (HOK.out.lt _ hb).2; omega
    have hb9 := HB8.out.fr f10 hnb
    have hd0 : w9.cell? ⟨W.heap.size, 0, none⟩ = some (.int .u8 7) := hb9.cell 0
    have hq0 := hb9.lt
    have HOK9 := hide hok9
    have HF10 := hide (HF9.out.no.trans f10)
    have hg8 := HF9.out.size
    have HG8 := hide hg8
    clear hok9 f10 hnb hb9 hg8
    go_wp2_with fail
    go_ret2
    exact ⟨rfl, _, _, HV9.out, HG8.out, HBL.out, HOK9.out, HF10.out⟩

end Go.Proofs.Ytnddfiohofnbaaa

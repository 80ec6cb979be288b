/- Chapter 2: Front. -/
import Derived.Test.YtihjmipmjogpoaaY7
namespace Go.Proofs.Ytihjmipmjogpoaa
open Go.RowKit

/-- What Front leaves. -/
structure FrontP (s : ByteArray) (w : World) (e : Ending) (w' : World) : Prop where
  fr : Fr No w w'
  no : parse 16 s 512 = none → e = .returned (.tuple #[.agg #[.int .u8 0, .int .i64 0, .string ⟨#[]⟩, .slice none 0 0, .int .i64 0], .string ⟨#[]⟩, .int .i64 20])
  yes : ∀ u s' n', parse 16 s 512 = some (u, s', n') → ∃ t : T, t.v = u ∧ e = .returned (.tuple #[t.val, .string s', .int .i64 0]) ∧ t.In w' w.heap.size w'.heap.size

set_option maxRecDepth 100000 in
set_option maxHeartbeats 4000000 in
theorem Front_any (s : ByteArray) (w : World) (hs : s.size ≤ 4000000) : Calls Try.prog 51 #[.string s] w (FrontP s w) := by
  have hO := rover_any s
  have fr1 := (Fr.refl No w).alloc (.cells #[.int .u8 0, .int .i64 0, .string ⟨#[]⟩, .slice none 0 0, .int .i64 0] 27)
  have hK := Blk.new' w 27 #[.int .u8 0, .int .i64 0, .string ⟨#[]⟩, .slice none 0 0, .int .i64 0] rfl
  have hsz : (w.alloc (.cells #[.int .u8 0, .int .i64 0, .string ⟨#[]⟩, .slice none 0 0, .int .i64 0] 27)).heap.size = w.heap.size + 1 := by simp
  go_enter Try.func51, Try.ntmps51
  go_wp2_with fail
  generalize World.alloc w _ = W0 at *
  refine (hO W0).mono ?_
  rintro e w2 ⟨rfl, hR, f2⟩
  rw [hsz] at hR ⊢
  have hV := value_any 16 (by decide) s 512 _ _ w2 (by decide) hs hR
  have HV := hide hV
  have hK2 := hK.fr f2 (fun h => h)
  have HK2 := hide hK2
  have HF2 := hide (fr1.trans f2)
  have hs2 := f2.size
  have HR := hide hR
  clear hV hK hK2 fr1 f2 hO hR
  go_wp2_with fail
  refine HV.out.mono ?_
  rintro e w3 hq
  have f3 : Fr No w w3 := HF2.out.trans' hq.fr (fun i hi h => by have h' : i = w.heap.size + 1 ∨ i = w.heap.size + 1 + 1 := h; omega)
  have hK3 := HK2.out.fr hq.fr (fun h => by have h' : w.heap.size = w.heap.size + 1 ∨ w.heap.size = w.heap.size + 1 + 1 := h; omega)
  have hs3 := hq.fr.size
  have hW : ∀ (k m q : Int) (t : ByteArray) (A : Option Addr) (len cap : Nat), ∃ W, (((((w3.setCell ⟨w.heap.size, 0, none⟩ (.int .u8 k)).setCell ⟨w.heap.size, 1, none⟩ (.int .i64 m)).setCell ⟨w.heap.size, 2, none⟩ (.string t)).setCell ⟨w.heap.size, 3, none⟩ (.slice A len cap)).setCell ⟨w.heap.size, 4, none⟩ (.int .i64 q)) = W ∧
      Blk W w.heap.size 27 #[.int .u8 k, .int .i64 m, .string t, .slice A len cap, .int .i64 q] ∧ Fr (fun i => i = w.heap.size) w3 W ∧ W.heap.size = w3.heap.size := fun k m q t A len cap =>
    ⟨_, rfl, by simpa using hK3.five 0 (.int .u8 k) (.int .i64 m) (.string t) (.slice A len cap) (.int .i64 q), (Fr.refl (fun i => i = w.heap.size) w3).five (fun _ => rfl) 0 _ _ _ _ _, by simp⟩
  cases hp : parse 16 s 512 with
  | none =>
    obtain ⟨k1, m1, t1, A1, len1, cap1, q1, rfl⟩ := hq.no hp
    obtain ⟨W, hWe, hKW, fW, hsW⟩ := hW k1 m1 q1 t1 A1 len1 cap1
    obtain ⟨k0, k1', k2, k3, k4, kf⟩ := hK3.cells5
    have kq := hK3.lt
    have HF3 := hide (f3.trans' fW (fun i hi h => by have h' : i = w.heap.size := h; omega))
    have HP := hide hp
    have HKW := hide hKW
    have HWE := hide hWe
    clear hq hp hK3 f3 hW hKW hWe fW
    go_upto_region 3 with fail
    rw [HWE.out]
    obtain ⟨k0, k1', k2, k3, k4, kf⟩ := HKW.out.cells5
    have kq := HKW.out.lt
    go_wp2
    refine bodyPost_ret (v := (.tuple #[.agg #[.int .u8 0, .int .i64 0, .string ⟨#[]⟩, .slice none 0 0, .int .i64 0], .string ⟨#[]⟩, .int .i64 20])) (by simp [results, Try.results51, go_sem, *]) rfl ?_
    refine ⟨?_, fun _ => rfl, (fun _ _ _ h => by rw [HP.out] at h; cases h)⟩
    have f := HF3.out
    repeat (first | with_reducible exact f | with_reducible refine Fr.setNew ?_ (Nat.le_refl _) _)
  | some tv =>
    obtain ⟨u, s3, n3⟩ := tv
    obtain ⟨⟨k1, m1, t1, A1, cap1, l1, q1⟩, rfl, rfl, ht, hR6⟩ := hq.yes u s3 n3 hp
    rw [T.val_mk]
    obtain ⟨W, hWe, hKW, fW, hsW⟩ := hW k1 m1 q1 t1 A1 l1.length cap1
    obtain ⟨k0, k1', k2, k3, k4, kf⟩ := hK3.cells5
    have kq := hK3.lt
    have HF3 := hide (f3.trans' fW (fun i hi h => by have h' : i = w.heap.size := h; omega))
    have HP := hide hp
    have HT := hide (ht.fr fW (Nat.le_refl _) (fun i h0 h1 h2 => by have h' : i = w.heap.size := h2; omega))
    have hRW := hR6.fr fW (fun h => by have h' : w.heap.size + 1 = w.heap.size := h; omega) (fun h => by have h' : w.heap.size + 1 + 1 = w.heap.size := h; omega)
    have HRW := hide hRW
    have HKW := hide hKW
    have HWE := hide hWe
    clear hq hp hK3 f3 ht hR6 hW hKW hWe fW hRW
    go_upto_region 3 with fail
    rw [HWE.out]
    obtain ⟨k0, k1', k2, k3, k4, kf⟩ := HKW.out.cells5
    have kq := HKW.out.lt
    obtain ⟨x0, x1, x2, x3, xf, xq⟩ := HRW.out.cells
    have hB := HRW.out.box
    clear HWE
    go_wp2_with fail
    go_region_with (go_at_call 142; (refine (rrest_any _ s3 _ ?_).mono ?_); (first | exact hB | exact hB.drew); rintro e w4 ⟨rfl, hw4⟩; subst hw4)
    all_goals
      go_simp
      go_wp2
      refine bodyPost_ret (v := (.tuple #[.agg #[.int .u8 k1, .int .i64 m1, .string t1, .slice A1 l1.length cap1, .int .i64 q1], .string s3, .int .i64 0])) (by simp [results, Try.results51, go_sem, *]) rfl ?_
      refine ⟨?_, (fun h => by rw [HP.out] at h; cases h), fun u s' n' h => ?_⟩
      · have f := HF3.out
        repeat (first | with_reducible exact f | with_reducible refine Fr.setNew ?_ (Nat.le_refl _) _ | with_reducible refine Fr.drew ?_)
      · rw [HP.out] at h
        cases h
        refine ⟨T.mk k1 m1 t1 A1 cap1 l1 q1, rfl, rfl, ?_⟩
        refine (T.In.fr (S := fun i => i = w.heap.size) HT.out ?_ (by omega) (fun i h0 h1 h2 => by have h' : i = w.heap.size := h2; omega)).more (by omega) (by simp; omega)
        repeat (first | with_reducible exact Fr.refl _ _ | with_reducible refine Fr.set ?_ (by simp) _ | with_reducible refine Fr.drew ?_)

end Go.Proofs.Ytihjmipmjogpoaa

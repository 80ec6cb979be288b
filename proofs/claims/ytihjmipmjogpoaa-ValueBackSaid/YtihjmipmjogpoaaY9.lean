/- Chapter 2: Read. -/
import Derived.Test.YtihjmipmjogpoaaY8
namespace Go.Proofs.Ytihjmipmjogpoaa
open Go.RowKit

abbrev zeroVal : Value := .agg #[.int .u8 0, .int .i64 0, .string ⟨#[]⟩, .slice none 0 0, .int .i64 0]

/-- What Read leaves. -/
structure ReadP (s : ByteArray) (w : World) (e : Ending) (w' : World) : Prop where
  fr : Fr No w w'
  big : 262144 < s.size → e = .returned (.tuple #[zeroVal, .int .i64 4])
  no : s.size ≤ 262144 → (∀ u n', parse 16 s 512 ≠ some (u, ⟨#[]⟩, n')) → e = .returned (.tuple #[zeroVal, .int .i64 20])
  yes : ∀ u n', s.size ≤ 262144 → parse 16 s 512 = some (u, ⟨#[]⟩, n') → ∃ t : T, t.v = u ∧ e = .returned (.tuple #[t.val, .int .i64 0]) ∧ t.In w' w.heap.size w'.heap.size

theorem notEmpty {s : ByteArray} (h : ¬ s = ⟨#[]⟩) : s.toList.isEmpty = false := by
  cases s with
  | mk a =>
    rw [Lib.toList_data]
    cases hl : a.toList with
    | nil => exact absurd (by rw [show a = #[] from by simpa using hl]) h
    | cons x l => rfl

set_option maxRecDepth 100000 in
set_option maxHeartbeats 4000000 in
theorem Read_any (s : ByteArray) (w : World) : Calls Try.prog 48 #[.string s] w (ReadP s w) := by
  have fr1 := (Fr.refl No w).alloc (.cells #[.int .u8 0, .int .i64 0, .string ⟨#[]⟩, .slice none 0 0, .int .i64 0] 27)
  have hK := Blk.new' w 27 #[.int .u8 0, .int .i64 0, .string ⟨#[]⟩, .slice none 0 0, .int .i64 0] rfl
  by_cases hbig : 262144 < s.size
  · have hb' : (262144 : Int) < (s.size : Int) := by omega
    go_enter Try.func48, Try.ntmps48
    go_wp2
    refine bodyPost_ret (v := (.tuple #[.agg #[.int .u8 0, .int .i64 0, .string ⟨#[]⟩, .slice none 0 0, .int .i64 0], .int .i64 4])) (by simp [results, Try.results48, go_sem, *]) rfl ?_
    refine ⟨?_, fun _ => rfl, (fun h => by omega), (fun _ _ h => by omega)⟩
    repeat (first | with_reducible exact fr1 | with_reducible refine Fr.setNew ?_ (Nat.le_refl _) _)
  · have hb' : ¬ (262144 : Int) < (s.size : Int) := by omega
    have hF := fun w => Front_any s w (by omega)
    have hsz : (w.alloc (.cells #[.int .u8 0, .int .i64 0, .string ⟨#[]⟩, .slice none 0 0, .int .i64 0] 27)).heap.size = w.heap.size + 1 := by simp
    go_enter Try.func48, Try.ntmps48
    go_wp2_with fail
    generalize World.alloc w _ = W0 at *
    refine (hF W0).mono ?_
    rintro e w2 hq
    have hK2 := hK.fr hq.fr (fun h => h)
    have hs2 := hq.fr.size
    have HF2 := hide (fr1.trans hq.fr)
    obtain ⟨k0, k1, k2, k3, k4, kf⟩ := hK2.cells5
    have kq := hK2.lt
    cases hp : parse 16 s 512 with
    | none =>
      have he := hq.no hp
      subst he
      have HP := hide hp
      clear hq hp hF hK hK2 fr1
      go_wp2
      refine bodyPost_ret (v := (.tuple #[.agg #[.int .u8 0, .int .i64 0, .string ⟨#[]⟩, .slice none 0 0, .int .i64 0], .int .i64 20])) (by simp [results, Try.results48, go_sem, *]) rfl ?_
      refine ⟨?_, (fun h => absurd h hbig), fun _ _ => rfl, (fun _ _ _ h => by rw [HP.out] at h; cases h)⟩
      have f := HF2.out
      repeat (first | with_reducible exact f | with_reducible refine Fr.setNew ?_ (by first | (simp; done) | (simp; omega)) _ | with_reducible refine Fr.alloc ?_ _)
    | some tv =>
      obtain ⟨u, s3, n3⟩ := tv
      obtain ⟨⟨k1, m1, t1, A1, cap1, l1, q1⟩, rfl, rfl, ht⟩ := hq.yes u s3 n3 hp
      rw [T.val_mk]
      have HP := hide hp
      have HT := hide ht
      clear hq hp hF hK hK2 fr1 ht
      by_cases hs3 : s3 = ⟨#[]⟩
      · subst hs3
        go_wp2
        refine bodyPost_ret (v := (.tuple #[.agg #[.int .u8 k1, .int .i64 m1, .string t1, .slice A1 l1.length cap1, .int .i64 q1], .int .i64 0])) (by simp [results, Try.results48, go_sem, *]) rfl ?_
        refine ⟨?_, (fun h => absurd h hbig), (fun _ h => absurd HP.out (h _ _)), fun u n' _ h => ?_⟩
        · have f := HF2.out
          repeat (first | with_reducible exact f | with_reducible refine Fr.setNew ?_ (by first | (simp; done) | (simp; omega)) _ | with_reducible refine Fr.alloc ?_ _)
        · rw [HP.out] at h
          cases h
          refine ⟨T.mk k1 m1 t1 A1 cap1 l1 q1, rfl, rfl, ?_⟩
          refine (T.In.fr (S := fun i => i = w.heap.size) HT.out ?_ (by omega) (fun i h0 h1 h2 => by have h' : i = w.heap.size := h2; omega)).more (by omega) (by simp)
          repeat (first | with_reducible exact Fr.refl _ w2 | with_reducible refine Fr.set ?_ (by simp) _ | with_reducible refine Fr.alloc ?_ _)
      · have hs4 : s3.toList.isEmpty = false := notEmpty hs3
        go_wp2
        refine bodyPost_ret (v := (.tuple #[.agg #[.int .u8 0, .int .i64 0, .string ⟨#[]⟩, .slice none 0 0, .int .i64 0], .int .i64 20])) (by simp [results, Try.results48, go_sem, *]) rfl ?_
        refine ⟨?_, (fun h => absurd h hbig), fun _ _ => rfl, (fun _ _ _ h => by rw [HP.out] at h; cases h; exact absurd rfl hs3)⟩
        have f := HF2.out
        repeat (first | with_reducible exact f | with_reducible refine Fr.setNew ?_ (by first | (simp; done) | (simp; omega)) _ | with_reducible refine Fr.alloc ?_ _)

end Go.Proofs.Ytihjmipmjogpoaa

/- Laws on the maps of a table: stores, deletions, look-ups by number. -/
import Derived.Test.YtihjmipmjogpoaaTab
namespace Go.Proofs.Ytihjmipmjogpoaa
open Go.RowKit

/-- The mark of a value without a row is one alone. -/
theorem mk_unique (u : V) : u.keys = true → ∀ m1 m2, IsMk u m1 → IsMk u m2 → m1 = m2 := by
  induction u using V.ind with
  | h k n s l r ih =>
    intro hk m1 m2 h1 h2
    rw [IsMk_mk] at h1 h2
    unfold mkOf at h1 h2
    by_cases k1 : k = 1
    · rw [if_pos k1] at h1 h2; rw [h1, h2]
    rw [if_neg k1] at h1 h2
    by_cases k2 : k = 2
    · rw [if_pos k2] at h1 h2; rw [h1, h2]
    rw [if_neg k2] at h1 h2
    by_cases k4 : k = 4
    · rw [if_pos k4] at h1 h2; rw [h1, h2]
    rw [if_neg k4] at h1 h2
    by_cases k3 : k = 3
    · rw [if_pos k3] at h1 h2
      rw [V.keys_mk, if_pos k3] at hk
      simp at hk
      obtain ⟨hl, hall⟩ := hk
      obtain ⟨a, b, rfl⟩ := at2 hl
      obtain ⟨x, y, rfl, hx, hy⟩ := h1
      obtain ⟨x', y', rfl, hx', hy'⟩ := h2
      rw [ih a (by simp) (hall a (by simp)) x x' hx hx', ih b (by simp) (hall b (by simp)) y y' hy hy']
    · rw [if_neg k3] at h1 h2; rw [h1, h2]

theorem same_mark (u : V) : u.keys = true → ∀ m d, 2 * u.dep + 2 ≤ d → IsMk u m → Instr.sameBits d m m = true := by
  induction u using V.ind with
  | h k n s l r ih =>
    intro hk m d hd h1
    rw [IsMk_mk] at h1
    unfold mkOf at h1
    obtain ⟨d, rfl⟩ : ∃ e, d = e + 2 := ⟨d - 2, by omega⟩
    by_cases k1 : k = 1
    · rw [if_pos k1] at h1; rw [h1]; simp [Instr.sameBits]
    rw [if_neg k1] at h1
    by_cases k2 : k = 2
    · rw [if_pos k2] at h1; rw [h1]; simp [Instr.sameBits, beq_toListBytes]
    rw [if_neg k2] at h1
    by_cases k4 : k = 4
    · rw [if_pos k4] at h1; rw [h1]; simp [Instr.sameBits]
    rw [if_neg k4] at h1
    by_cases k3 : k = 3
    · rw [if_pos k3] at h1
      rw [V.keys_mk, if_pos k3] at hk
      rw [V.dep_mk, if_pos k3] at hd
      simp at hk
      obtain ⟨hl, hall⟩ := hk
      obtain ⟨a, b, rfl⟩ := at2 hl
      obtain ⟨x, y, rfl, hx, hy⟩ := h1
      have hda : a.dep ≤ top [a.dep, b.dep] := le_top (by simp)
      have hdb : b.dep ≤ top [a.dep, b.dep] := le_top (by simp)
      simp only [List.map_cons, List.map_nil] at hd
      have e1 := ih a (by simp) (hall a (by simp)) x d (by omega) hx
      have e2 := ih b (by simp) (hall b (by simp)) y d (by omega) hy
      simp [Instr.sameBits, e1, e2]
    · rw [if_neg k3] at h1; rw [h1]; simp [Instr.sameBits]

/-- A store under a mark that isn't there. -/
theorem run_update_new {t el : TypeId} (ht : Try.prog.underlying t = some (.map 45 el)) (w : World) (u : V) (m val : Value) (hm : IsMk u m) (hd : u.dep ≤ 16) (hkey : u.keys = true)
    {B : Nat} {es : Array MapEntry} {cl : Nat} (hB : w.heap[B]? = some (.map es cl)) {vs : List V} (h : KeysAre es.toList vs) (hp : pos u vs = none) :
    (Instr.mapUpdate t (.map (some B)) m val).run Try.prog w = .ok () (w.putObj B (.map (es.push { key := m, val := val, born := cl }) (cl + 1))) := by
  have hc := run_key u 10000 m false w (by omega) hm
  have hf := run_findKey u m hm hd w es.toList vs h (fun v _ => keys_ne2 u hkey v)
  rw [hp] at hf
  rcases hc with ⟨_, hc⟩ | ⟨h0, _⟩
  · unfold Instr.mapUpdate
    simp only [Sem.run_bind, run_underlying ht, Result.andThen_ok, get_map hB, hc, hf, found, set_map _ hB]
  · rw [hkey] at h0; cases h0

/-- A store under a mark that is there. -/
theorem run_update_old {t el : TypeId} (ht : Try.prog.underlying t = some (.map 45 el)) (w : World) (u : V) (m val : Value) (hm : IsMk u m) (hd : u.dep ≤ 16) (hkey : u.keys = true)
    {B : Nat} {es : Array MapEntry} {cl : Nat} (hB : w.heap[B]? = some (.map es cl)) {vs : List V} (h : KeysAre es.toList vs) {i : Nat} (hp : pos u vs = some i) (hu : vs[i]? = some u) :
    (Instr.mapUpdate t (.map (some B)) m val).run Try.prog w = .ok () (w.putObj B (.map (es.modify i fun e => { e with key := m, val := val }) cl)) := by
  have hc := run_key u 10000 m false w (by omega) hm
  have hf := run_findKey u m hm hd w es.toList vs h (fun v _ => keys_ne2 u hkey v)
  rw [hp] at hf
  have hi : i < es.toList.length := by rw [h.1]; exact pos_lt hp
  have he : es.toList[i]? = some es.toList[i] := List.getElem?_eq_getElem hi
  have hkm : es.toList[i].key = m := mk_unique u hkey _ _ (h.2 i _ u he hu) hm
  simp only [found, he, Option.map_some, Nat.zero_add] at hf
  have he' : es[i]? = some es.toList[i] := by rw [← he]; simp
  rcases hc with ⟨_, hc⟩ | ⟨h0, _⟩
  · unfold Instr.mapUpdate
    simp only [Sem.run_bind, run_underlying ht, Result.andThen_ok, get_map hB, hc, hf, he', Option.map_some, Option.getD_some, hkm, Instr.keyThatStays, same_mark u hkey m 10000 (by omega) hm, if_pos, Sem.run_pure, set_map _ hB]
  · rw [hkey] at h0; cases h0

/-! ### Maps by number -/

theorem findNow_none {n : Int} : ∀ {es : List MapEntry} {i : Nat}, (∀ e ∈ es, ∃ c : Int, e.key = .int .i64 c ∧ n ≠ c) → Instr.findNow (.int .i64) (.int .i64 n) es i = some none
  | [], _, _ => rfl
  | e :: es, i, h => by
    obtain ⟨c, hc, hne⟩ := h e (by simp)
    unfold Instr.findNow
    have : Instr.sameNow (.int .i64) (.int .i64 n) e.key = some false := by rw [hc]; simp [Instr.sameNow]; exact hne
    rw [this]
    exact findNow_none fun e he => h e (by simp [he])

theorem findNow_some {n : Int} : ∀ {es : List MapEntry} {i j : Nat} {e : MapEntry}, (∀ e ∈ es, ∃ c : Int, e.key = .int .i64 c) → es[j]? = some e → e.key = .int .i64 n → (∀ k e', k < j → es[k]? = some e' → e'.key ≠ .int .i64 n) →
    Instr.findNow (.int .i64) (.int .i64 n) es i = some (some (i + j, e.val))
  | [], _, j, e, _, h, _, _ => by simp at h
  | e0 :: es, i, 0, e, _, h, hk, _ => by
    simp at h; subst h
    unfold Instr.findNow
    have : Instr.sameNow (.int .i64) (.int .i64 n) e0.key = some true := by rw [hk]; simp [Instr.sameNow]
    rw [this]; rfl
  | e0 :: es, i, j + 1, e, hall, h, hk, hb => by
    obtain ⟨c, hc⟩ := hall e0 (by simp)
    have hne : n ≠ c := fun h' => hb 0 e0 (by omega) rfl (by rw [hc, h'])
    unfold Instr.findNow
    have : Instr.sameNow (.int .i64) (.int .i64 n) e0.key = some false := by rw [hc]; simp [Instr.sameNow]; exact hne
    rw [this]
    have := findNow_some (n := n) (i := i + 1) (j := j) (fun e he => hall e (List.mem_cons_of_mem _ he)) (by simpa using h) hk (fun k e' hk' he' => hb (k + 1) e' (by omega) (by simpa using he'))
    rw [show i + (j + 1) = i + 1 + j from by omega]
    exact this

theorem checkKey_int' (d : Nat) (e : Bool) (n : Int) (w : World) : (Instr.checkKey e (d + 1) 3 (.int .i64 n)).run Try.prog w = .ok () w := by
  simp [Instr.checkKey, run_underlying Try.underlying3]
theorem checkKey_int (e : Bool) (n : Int) (w : World) : (Instr.checkKey e 10000 3 (.int .i64 n)).run Try.prog w = .ok () w := checkKey_int' 9999 e n w

/-- A store under a number that isn't there. -/
theorem run_update_num {t el : TypeId} (ht : Try.prog.underlying t = some (.map 3 el)) (w : World) (n : Int) (val : Value) {B : Nat} {es : Array MapEntry} {cl : Nat} (hB : w.heap[B]? = some (.map es cl))
    (h : ∀ e ∈ es.toList, ∃ c : Int, e.key = .int .i64 c ∧ n ≠ c) :
    (Instr.mapUpdate t (.map (some B)) (.int .i64 n) val).run Try.prog w = .ok () (w.putObj B (.map (es.push { key := .int .i64 n, val := val, born := cl }) (cl + 1))) := by
  unfold Instr.mapUpdate
  simp only [Sem.run_bind, run_underlying ht, Result.andThen_ok, get_map hB, checkKey_int, Instr.findKey, run_underlying Try.underlying3, findNow_none h, Sem.run_pure, set_map _ hB]

end Go.Proofs.Ytihjmipmjogpoaa

/- Maps whose keys are marks: what a look-up, a store, a deletion comes to. -/
import Derived.Test.YtihjmipmjogpoaaK
import Derived.RangeFuncRecord
import Derived.MapKept
namespace Go.Proofs.Ytihjmipmjogpoaa
open Go.RowKit

theorem get_map {W : World} {B : Nat} {es : Array MapEntry} {c : Nat} (h : W.heap[B]? = some (.map es c)) : (getObj B).run Try.prog W = .ok (.map es c) W := by
  simp [getObj, Sem.run, h]

theorem set_map {W : World} {B : Nat} {es : Array MapEntry} {c : Nat} (o : Obj) (h : W.heap[B]? = some (.map es c)) : (setObj B o).run Try.prog W = .ok () (W.putObj B o) := by
  simp [setObj, Sem.run, h, World.putObj]

/-- Where a value stands in a list: the first one that its mark is equal to. -/
def pos (u : V) : List V → Option Nat
  | [] => none
  | v :: vs => if u.cmp v = 1 then some 0 else (pos u vs).map (· + 1)

theorem pos_lt {u : V} : ∀ {vs : List V} {i : Nat}, pos u vs = some i → i < vs.length
  | [], i, h => by simp [pos] at h
  | v :: vs, i, h => by
    unfold pos at h
    by_cases hc : u.cmp v = 1
    · rw [if_pos hc] at h; simp at h; subst h; simp
    · rw [if_neg hc] at h
      simp at h
      obtain ⟨j, hj, rfl⟩ := h
      have := pos_lt hj
      simp; omega

/-- The keys of a map's entries are the marks of some values. -/
def KeysAre (es : List MapEntry) (vs : List V) : Prop := es.length = vs.length ∧ ∀ (i : Nat) (e : MapEntry) (v : V), es[i]? = some e → vs[i]? = some v → IsMk v e.key

theorem KeysAre.cons {e : MapEntry} {es : List MapEntry} {v : V} {vs : List V} (h : KeysAre (e :: es) (v :: vs)) : IsMk v e.key ∧ KeysAre es vs :=
  ⟨h.2 0 e v rfl rfl, by simpa using h.1, fun i e' v' he hv => h.2 (i + 1) e' v' he hv⟩

/-- What is found. -/
def found (es : List MapEntry) (i0 : Nat) : Option Nat → Option (Nat × Value)
  | none => none
  | some i => (es[i]?).map fun e => (i0 + i, e.val)

theorem run_findAsking (u : V) (m : Value) (hm : IsMk u m) (hd : u.dep ≤ 16) (w : World) : ∀ (es : List MapEntry) (vs : List V) (i0 : Nat), KeysAre es vs → (∀ v ∈ vs, u.cmp v ≠ 2) →
    (Instr.findAsking 45 m es i0).run Try.prog w = .ok (found es i0 (pos u vs)) w
  | [], [], i0, _, _ => by simp [Instr.findAsking, pos, found]
  | [], v :: vs, i0, h, _ => by have := h.1; simp at this
  | e :: es, [], i0, h, _ => by have := h.1; simp at this
  | e :: es, v :: vs, i0, h, hk => by
    obtain ⟨hv, hr⟩ := h.cons
    have ih := run_findAsking u m hm hd w es vs (i0 + 1) hr fun v hv => hk v (by simp [hv])
    have heq := run_eq u v 10000 m e.key w (by omega) hm hv
    unfold Instr.findAsking
    simp only [Sem.run_bind, Op.equal, Op.maxDepth]
    rcases heq with ⟨h0, hq⟩ | ⟨h1, hq⟩ | ⟨h2, _⟩
    · rw [hq]
      simp only [Result.andThen_ok, Bool.false_eq_true, if_false, ih, pos]
      rw [if_neg (by omega)]
      cases hp : pos u vs with
      | none => rfl
      | some i => simp [found]; rw [show i0 + 1 + i = i0 + (i + 1) from by omega]
    · rw [hq]
      simp [pos, h1, found]
    · exact absurd h2 (hk v (by simp))

theorem run_findKey (u : V) (m : Value) (hm : IsMk u m) (hd : u.dep ≤ 16) (w : World) (es : List MapEntry) (vs : List V) (h : KeysAre es vs) (hk : ∀ v ∈ vs, u.cmp v ≠ 2) :
    (Instr.findKey 45 m es).run Try.prog w = .ok (found es 0 (pos u vs)) w := by
  obtain ⟨ms, h45⟩ := ms45
  unfold Instr.findKey
  simp only [Sem.run_bind, run_underlying h45, Result.andThen_ok]
  cases es with
  | nil =>
    have : vs = [] := by have := h.1; simp at this; exact List.eq_nil_of_length_eq_zero this.symm
    subst this
    simp [Instr.findNow, pos, found]
  | cons e es =>
    have : Instr.findNow (.interface ms) m (e :: es) 0 = none := by simp [Instr.findNow, Instr.sameNow]
    rw [this]
    exact run_findAsking u m hm hd w _ vs 0 h hk

/-- A look-up. -/
theorem run_lookup_mark {t el : TypeId} {z : Value} (ht : Try.prog.underlying t = some (.map 45 el)) (w : World) (hz : (zeroValue el).run Try.prog w = .ok z w) (u : V) (m : Value) (hm : IsMk u m) (hd : u.dep ≤ 16) (hkey : u.keys = true) (c : Bool)
    {B : Nat} {es : Array MapEntry} {cl : Nat} (hB : w.heap[B]? = some (.map es cl)) {vs : List V} (h : KeysAre es.toList vs) (hk : ∀ v ∈ vs, u.cmp v ≠ 2) :
    (Instr.lookup t (.map (some B)) m c).run Try.prog w =
      .ok (let r := match found es.toList 0 (pos u vs) with | some (_, v) => (v, true) | none => (z, false); if c then .tuple #[r.1, .bool r.2] else r.1) w := by
  have hc := run_key u 10000 m es.isEmpty w (by omega) hm
  rcases hc with ⟨_, hc⟩ | ⟨h0, _⟩
  · unfold Instr.lookup
    simp only [Sem.run_bind, run_underlying ht, Result.andThen_ok, get_map hB, Sem.run_pure, hc, run_findKey u m hm hd w es.toList vs h hk]
    cases found es.toList 0 (pos u vs) with
    | none => cases c <;> simp [hz]
    | some p => cases c <;> simp
  · rw [hkey] at h0; cases h0

/-- A look-up by a mark that can't be a key. -/
theorem run_lookup_row {t el : TypeId} (ht : Try.prog.underlying t = some (.map 45 el)) (w : World) (u : V) (m : Value) (hm : IsMk u m) (hd : u.dep ≤ 16) (hkey : u.keys = false) (c : Bool)
    {B : Nat} {es : Array MapEntry} {cl : Nat} (hB : w.heap[B]? = some (.map es cl)) :
    ∃ ty pv, (ty = 10 ∨ ty = 19) ∧ (Instr.lookup t (.map (some B)) m c).run Try.prog w = .halt (.panic (.iface ty pv)) w := by
  have hc := run_key u 10000 m es.isEmpty w (by omega) hm
  rcases hc with ⟨h0, _⟩ | ⟨_, ty, pv, hty, hc⟩
  · rw [hkey] at h0; cases h0
  · refine ⟨ty, pv, hty, ?_⟩
    unfold Instr.lookup
    simp only [Sem.run_bind, run_underlying ht, Result.andThen_ok, get_map hB, Sem.run_pure, hc]
    rfl

/-- The entry of a mark in an empty map. -/
theorem run_mapEntry_empty {t el : TypeId} {z : Value} (ht : Try.prog.underlying t = some (.map 45 el)) (w : World) (hz : (zeroValue el).run Try.prog w = .ok z w) (u : V) (m : Value) (hm : IsMk u m) (hd : u.dep ≤ 16) (hkey : u.keys = true)
    {B : Nat} (hB : w.heap[B]? = some (.map #[] 0)) :
    (Instr.mapEntry t (.map (some B)) m).run Try.prog w = .ok (.tuple #[z, .int .i64 0]) (w.putObj B (.map #[{ key := m, val := z, born := 0 }] 1)) := by
  have hc := run_key u 10000 m false w (by omega) hm
  rcases hc with ⟨_, hc⟩ | ⟨h0, _⟩
  · have hf := run_findKey u m hm hd w [] [] ⟨rfl, by simp⟩ (by simp)
    unfold Instr.mapEntry
    simp only [Sem.run_bind, run_underlying ht, Result.andThen_ok, get_map hB, Sem.run_pure, hc, hf, hz, pos, found, set_map _ hB]
    rfl
  · rw [hkey] at h0; cases h0

theorem run_mapEntry_row {t el : TypeId} (ht : Try.prog.underlying t = some (.map 45 el)) (w : World) (u : V) (m : Value) (hm : IsMk u m) (hd : u.dep ≤ 16) (hkey : u.keys = false)
    {B : Nat} {es : Array MapEntry} {cl : Nat} (hB : w.heap[B]? = some (.map es cl)) :
    ∃ ty pv, (ty = 10 ∨ ty = 19) ∧ (Instr.mapEntry t (.map (some B)) m).run Try.prog w = .halt (.panic (.iface ty pv)) w := by
  have hc := run_key u 10000 m false w (by omega) hm
  rcases hc with ⟨h0, _⟩ | ⟨_, ty, pv, hty, hc⟩
  · rw [hkey] at h0; cases h0
  · refine ⟨ty, pv, hty, ?_⟩
    unfold Instr.mapEntry
    simp only [Sem.run_bind, run_underlying ht, Result.andThen_ok, get_map hB, hc]
    rfl

theorem run_entryStore_one (t : TypeId) (w : World) (m z v : Value) {B : Nat} (hB : w.heap[B]? = some (.map #[{ key := m, val := z, born := 0 }] 1)) :
    (Instr.entryStore t (.map (some B)) (.int .i64 0) v).run Try.prog w = .ok () (w.putObj B (.map #[{ key := m, val := v, born := 0 }] 1)) := by
  unfold Instr.entryStore
  simp [get_map hB, asInt, asIntOf]
  exact set_map _ hB

end Go.Proofs.Ytihjmipmjogpoaa
